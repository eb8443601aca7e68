/- Contracts and plain lemmas, part 5. -/
import Derived.Test.YtgmbafkdgmkfoaaGreatDoorZr4
open Go.Proofs.Tryz
set_option maxHeartbeats 16000000
namespace Go.Proofs
open Go Go.Eng Go.Sort
set_option maxRecDepth 100000
abbrev cJ:Nat:=3
theorem PQ (a b:List (Int×Int)):Ht (a++b)=Ht a++Ht b:=by
 induction a with
 | nil=>rfl
 | cons x a ih=>simp only[fH,Ht,ih]
theorem Uw (a:List (Int×Int)):(Ht a).length=2*a.length:=by
 induction a with
 | nil=>rfl
 | cons x a ih=>simp only[Ht,d_,ih];omega
theorem Ip (a b:List Re):Cy (a++b)=Cy a++Cy b:=by
 induction a with
 | nil=>rfl
 | cons x a ih=>simp only[fH,Cy,ih,eW]
def Iq (t:Re) (k:Nat):oB:=t.kind::Ht (t.set.take k)
def GX (t:Re) (k:Nat):oB:=Iq t t.set.length++[-1,t.mn,t.mx]++Cy (t.args.take k)
theorem Rz {t:Re} {k:Nat} {s:Int×Int} (h:t.set[k]?=some s):Iq t (k+1)=Iq t k++[s.1,s.2]:=by
 unfold Iq;rw[eK,h,fL,PQ];rfl
theorem JC {t:Re} {k:Nat} {x:Re} (h:t.args[k]?=some x):GX t (k+1)=GX t k++DG x:=by
 unfold GX;rw[eK,h,fL,Ip,Cy,Cy,gD];simp only[eW]
theorem KU (t:Re):DG t=GX t t.args.length++[-1]:=by
 unfold GX Iq;rw[eE,eE];cases t;simp[DG,Re.kind,Re.set,Re.args,Re.mn,Re.mx]
theorem OL (t:Re) {k:Nat} (h:k<=t.set.length):(Iq t k).length=1+2*k:=by
 unfold Iq;rw[d_,Uw,gE,lK h];omega
theorem MX (t:Re) (k:Nat):(GX t k).length+1<=(DG t).length:=by
 rw[KU t];unfold GX;have:(Cy (t.args.take k)).length<=(Cy t.args).length:=by
  conv=>rhs;rw[<-fF k t.args,Ip,dN]
  omega
 simp only[dN,d_,fP,eE];omega
theorem Wb (t:Re):1+2*t.set.length+3<=(DG t).length:=by
 have a:=MX t 0;have h2:=OL t (dU _);unfold GX at a;simp only[iK,Cy,gD,dN,d_,fP] at a;omega
theorem Wa (t:Re) {k:Nat} {x:Re} (h:t.args[k]?=some x):(GX t k).length+(DG x).length+1<=(DG t).length:=by
 have a:=MX t (k+1);rw[JC h,dN] at a;exact a
def XA (l:oB):G0:=λv w=>∃a c,v=.slice a l.length c∧Bw w v l
theorem Gq (l:oB):FK (XA l):=by
 rintro v w w' e ⟨a,c,rfl,h⟩;exact ⟨a,c,O,h.ext e⟩
theorem Tw {w:World} {base n:Nat} {v:Value} {l:oB} (h:w.ownsRow base cJ 1 v n (l.map (Value.int .i64))) (hn:n=l.length):Bw w v l:=by
 rw[<-N_ l] at h;exact Di h (by intro r a;obtain ⟨x,_,rfl⟩:=eU.1 a;rfl) (by simp[hn]) qD
theorem WZ:∀(n:Nat) (t:Re) (B:World) (vs:n_),t.size<=n->(DG t).length<=100000000->A3 B t vs->
 Bj prog 147 #[.agg vs.toArray] B λv w=>XA (DG t) v w∧Ah B w:=by
 intro n
 induction n with
 | zero=>intro t B vs hn;have:=t.size_pos;omega
 | succ n ih=>
 intro t B vs hn hL ht;have ht0:=ht;obtain ⟨sa,sc,aa,ac,rfl,ag,hlen,M⟩:=ht.form;have hLa:=Wb t;have hal:=Ch t;refine qR func147 O ntmps147 O (λE=>(AA (BC (v:=(.agg (R6 t sa sc aa ac))) (c:=(R6 t sa sc aa ac)) qD O O ?_)));intro z wr V;have E:=E.ext V.ext;have e:=V.blk;refine qA _ O (AB (AA (qF z 0 0 O dI O Al O (qV (AJ O Ag (e.cell O)) (Aw (ps:=[(0,(I6 t.kind))]) (c:=#[(I6 t.kind)]) qD O eA Al Ex qD qD qK ?_)))));intro bq wq Nq;have e:=Nq.keep e;have E:=E.ext Nq.ext;have Bq:=Nq.blk;refine qA _ O (AB (AH (AA (qF z 0 1 O dI O Bc O (qV (AJ O Bf (e.cell O)) (qV (AT dS O) (qM _ O (AB (AW ?_)))))))));obtain ⟨base,hbase⟩:∃base,base=wr.heap.size:=⟨_,O⟩;have hb0:B.heap.size<=base:=by have:=V.ext.size;omega
 have hbr:z<base:=by have:=V.size;have:=V.eq;omega
 have ar:=Ps (base:=base) Bq (by have:=Nq.eq;omega);have X:base<=wq.heap.size:=by have:=Nq.ext.size;omega
 refine Ax (λnn_ σ P=>∃(k:Nat) (la:oE) (Z:Nat) (m:Nat),(∃jj_,σ=BW jj_ [(1,(P6 z 0)),(12,(.slice sa t.set.length sc)),(13,(I6 (t.set.length:Int))),(14,(I6 (k:Int))),(3,(.slice la m Z))])∧Chg Aj B P∧BV P z (R6 t sa sc aa ac) 25∧(k<=t.set.length)∧(m=1+2*k)∧(P.ownsRow base cJ 1 (.slice la m Z) m ((Iq t k).map (Value.int .i64)))∧(base<=P.heap.size)∧nn_=t.set.length - k) (n:=t.set.length - 0) ?_ ?_
 .exact ⟨0,oI bq 0,1,1,oH,E,e,dR _,O,ar,X,O⟩
 .clear E e;rintro _ _ P ⟨k,la,Z,m,⟨j1,rfl⟩,E,e,hk,hm,f,p,rfl⟩;refine AA (qV (A6 O O) (AB (AH (qC O (λal=>?_) (λal=>?_)))))
  .obtain ⟨s,hs⟩:=AU (l:=t.set) (i:=k) qO;obtain ⟨b,o,rfl,y⟩:=BR ag qO;refine AM (AC (AH (AW (AA (qV (AL (b:=b) (o:=o) (len:=t.set.length) (cap:=sc) (i:=k) (o':=o+k*2) O O O dS BL qO qO) (qV (AI O Dw BL O ((y k s hs).ext E)) (As (v:=(.agg #[(I6 s.1),(I6 s.2)])) (c:=#[(I6 s.1),(I6 s.2)]) (n:=2) qD Df O BL O O O qS ?_)))))));intro bz wz r;have Fz:=r.ge E;have I:=r.lt e;have e:=r.keep e;have E:=E.ext r.ext;have A:=r.blk;refine AB (AN (qM _ O (qF bz 0 0 O eM O Al O (qV (AJ O Ag (A.cell O)) (qF bz 0 1 O eM O Al O (qV (AJ O Ag (A.cell O)) (Aw (ps:=[(0,(I6 s.1)),(1,(I6 s.2))]) (c:=#[(I6 s.1),(I6 s.2)]) qD O eA Al Ex qD qD qK ?_)))))));intro bg wg q;have Fg:=q.ge E;have H:=q.lt e;have e:=q.keep e;have A:=q.keep A;have f:=Az (Az f r.ext) q.ext;have p:=dL (dL p r.ext.size) q.ext.size;have E:=E.ext q.ext;have Bg:=q.blk;refine BQ (base:=base) (n:=m) (m:=2) (xs:=((Iq t k).map (Value.int .i64))) (news:=[(I6 s.1),(I6 s.2)]) (size:=1) (bytes:=8) (v:=(.slice la m Z)) qD eA Al PA Ex O qD O f O (O) (Bg.cells O) qS (by unfold maxLen;omega) qO (p) ?_;intro v9 w29 Q G Dv9;have e:=G.keep (λh=>by have:=(f.lt _ h).1;omega) e;have E:=E.step G (λx u h=>absurd (f.lt x h).1 qO);obtain ⟨ap,an,rfl⟩:=BB Q;refine qA _ O (AB (AV (AC (AN (qV (A0 O O (A8 qO)) (qM _ O (AB (AC ?_))))))));exact ⟨t.set.length - (k+1),qO,k+1,ap,an,m+2,oH,E,e,qO,qO,(by rw[Rz hs,eT];exact Q),dL p G.size,O⟩
  .have au:k=t.set.length:=qO
   rw[au] at f hm;refine Av (AZ (AZ (Ao (AC (AA (qM _ O (qF z 0 3 O dI O Al O (qV (AJ O Ag (e.cell O)) (qF z 0 4 O dI O Al O (qV (AJ O Ag (e.cell O)) (Aw (ps:=[(0,(I6 (-1))),(1,(I6 t.mn)),(2,(I6 t.mx))]) (c:=#[(I6 (-1)),(I6 t.mn),(I6 t.mx)]) qD O eA Al Ex qD qD qK ?_)))))))))));intro bx wx S;have e:=S.keep e;have f:=Az f S.ext;have p:=dL p S.ext.size;have E:=E.ext S.ext;have Bx:=S.blk;refine BQ (base:=base) (n:=m) (m:=3) (xs:=((Iq t t.set.length).map (Value.int .i64))) (news:=[(I6 (-1)),(I6 t.mn),(I6 t.mx)]) (size:=1) (bytes:=8) (v:=(.slice la m Z)) qD eA Al PA Ex O qD O f O (O) (Bx.cells O) qS (by unfold maxLen;omega) qO (p) ?_;intro v8 w28 ae J Dv8;have e:=J.keep (λh=>by have:=(f.lt _ h).1;omega) e;have E:=E.step J (λx u h=>absurd (f.lt x h).1 qO);obtain ⟨ax,av,rfl⟩:=BB ae;have ah:=dL p J.size;refine qA _ O (AB (AH (AA (qF z 0 2 O dI O BF O (qV (AJ O A9 (e.cell O)) (qV (AT dJ O) (qM _ O (AB (AW (Ax (λnn_ σ W3=>∃(j:Nat) (R:oE) (T:Nat) (d:Nat),(∃jj_,σ=BW jj_ [(34,(.slice aa t.args.length ac)),(35,(I6 (t.args.length:Int))),(36,(I6 (j:Int))),(3,(.slice R d T))])∧Chg Aj B W3∧BV W3 z (R6 t sa sc aa ac) 25∧(j<=t.args.length)∧(d=(GX t j).length)∧(W3.ownsRow base cJ 1 (.slice R d T) d ((GX t j).map (Value.int .i64)))∧(base<=W3.heap.size)∧nn_=t.args.length - j) (n:=t.args.length - 0) ?_ ?_))))))))))
   .exact ⟨0,ax,av,m+3,oH,E,e,dR _,(by unfold GX;simp only[iK,Cy,gD,dN,OL t (dU _),d_,fP];omega),(by unfold GX;simp only[iK,Cy,gD,eT];exact ae),ah,O⟩
   .clear E e;rintro _ _ W3 ⟨j,R,T,d,⟨j3,rfl⟩,E,e,hj,hd,a,g,rfl⟩;refine AA (qV (A6 O O) (AB (AH (qC O (λU=>?_) (λU=>?_)))))
    .obtain ⟨x,u⟩:=AU (l:=t.args) (i:=j) qO;obtain ⟨b,o,rfl,ak⟩:=EV M qO;obtain ⟨us,ao,W⟩:=ak.get u;have ai:=W;obtain ⟨K,F,C,L,rfl,_,_,_⟩:=W.form;have hge:=Wa t u;have hxz:=Re.size_arg u;refine AM (AC (AH (AW (AA (qV (AL (b:=b) (o:=o) (len:=t.args.length) (cap:=ac) (i:=j) (o':=o+j*6) O O O dJ AG qO qO) (qV (AI O Ad AG O (ao.ext E)) (As (v:=(.agg (R6 x K F C L))) (c:=(R6 x K F C L)) (n:=6) qD A1 O AG O O O qS ?_)))))));intro bz wz r;have Fz:=r.ge E;have I:=r.lt e;have E:=E.ext r.ext;have A:=r.blk;refine AB (AN (qM _ O (qV (AI (vs:=(oJ x K F C L)) O Ad AG O (A.cells O)) (qE O (AS func147 kQ kQ O) (ih x _ _ qO qO (A3.ext E x ai)) ?_))));rintro _ w9 ⟨⟨ca,cc,rfl,hI⟩,X9⟩;have e:=X9.keep (r.keep e);have A:=X9.keep A;have a:=Az (Az a r.ext) X9;have g:=dL (dL g r.ext.size) X9.size;have E:=E.ext X9;refine Pa (base:=base) (n:=d) (m:=((DG x).length)) (xs:=((GX t j).map (Value.int .i64))) (news:=(DG x).map (Value.int .i64)) (size:=1) (bytes:=8) (v:=(.slice R d T)) qD eA Al PA Ex O qD O a O qP (Vy hI) qS (by unfold maxLen;omega) qO (g) ?_;intro v7 w27 N D Dv7;have e:=D.keep (λh=>by have:=(a.lt _ h).1;omega) e;have E:=E.step D (λx u h=>absurd (a.lt x h).1 qO);obtain ⟨am,aw,rfl⟩:=BB N;refine qA _ O (AB (AV (AC (AN (qV (A0 O O (A8 qO)) (qM _ O (AB (AC ?_))))))));exact ⟨t.args.length - (j+1),qO,j+1,am,aw,d+(DG x).length,oH,E,e,qO,(by rw[JC u,dN,hd]),(by rw[JC u,eT];exact N),dL g D.size,O⟩
    .have aq:j=t.args.length:=qO
     rw[aq] at a hd;have hle:=MX t t.args.length;refine Av (AZ (AZ (Ao (AC (AA (qM _ O (Aw (ps:=[(0,(I6 (-1)))]) (c:=#[(I6 (-1))]) qD O eA Al Ex qD qD qK ?_)))))));intro bg wg q;have Fg:=q.ge E;have H:=q.lt e;have e:=q.keep e;have a:=Az a q.ext;have g:=dL g q.ext.size;have E:=E.ext q.ext;have Bg:=q.blk;refine BQ (base:=base) (n:=d) (m:=1) (xs:=((GX t t.args.length).map (Value.int .i64))) (news:=[(I6 (-1))]) (size:=1) (bytes:=8) (v:=(.slice R d T)) qD eA Al PA Ex O qD O a O (O) (Bg.cells O) qS (by unfold maxLen;omega) qO (g) ?_;intro v6 w26 aj af Dv6;have e:=af.keep (λh=>by have:=(a.lt _ h).1;omega) e;have E:=E.step af (λx u h=>absurd (a.lt x h).1 qO);obtain ⟨ab,ad,rfl⟩:=BB aj;refine qA _ O (AB (AO (AY results147 (v:=(.slice ab (d+1) ad)) O ?_)));have y:(DG t).length=d+1:=by rw[KU t,dN,hd];rfl
     refine ⟨⟨ab,ad,by rw[y],Tw (base:=base) (n:=d+1) ?_ y.symm⟩,E⟩;rw[KU t,eT];exact aj
theorem Zp (l:oB):Gf l []=l.length:=by cases l<;>simp[Gf]
theorem Zq (l:oB):Gf [] l=0 - (l.length:Int):=by simp[Gf]
theorem RF (Z:World) (t u:Re) (vs us:n_) (ht:A3 Z t vs) (hu:A3 Z u us) (V:(DG t).length<=100000000) (T:(DG u).length<=100000000) :
 Bj prog 115 #[.agg vs.toArray,.agg us.toArray] Z λv w=>v=I6 (Gf (DG t) (DG u))∧Ah Z w:=by
 have ai:=ht;have an:=hu;obtain ⟨sa,sc,aa,ac,rfl,_,_,_⟩:=ht.form;obtain ⟨z,r,f,g,rfl,_,_,_⟩:=hu.form;obtain ⟨A,hA⟩:∃A,A=DG t:=⟨_,O⟩;obtain ⟨B,hB⟩:∃B,B=DG u:=⟨_,O⟩;rw[<-hA,<-hB];rw[<-hA] at V;rw[<-hB] at T;refine qR func115 O ntmps115 O (λE=>(AA (BC (v:=(.agg (R6 t sa sc aa ac))) (c:=(R6 t sa sc aa ac)) qD O O ?_)));intro br wr Nr;have E:=E.ext Nr.ext;have q:=Nr.blk;refine BC (v:=(.agg (R6 u z r f g))) (c:=(R6 u z r f g)) qD O O ?_;intro bp wp Np;have q:=Np.keep q;have E:=E.ext Np.ext;have D:=Np.blk;refine qA _ O (AB (AH ?_));obtain ⟨ao,e⟩:∃R:List Fact,R=[.eq (.agg (R6 t sa sc aa ac)),.gen (XA A) (Gq _),.eq (.agg (R6 u z r f g)),.gen (XA B) (Gq _),.gen (XA A) (Gq _),.gen (XA B) (Gq _)]:=⟨_,O⟩;refine Ga [8,9,10,11,5,6] [[],[0],[],[1,2],[0,1,3],[0,1,2,3,4]] ao e mixed qK qK ?_ ?_
 .intro wd G;refine DagSteps.cons (λa w' X U H=>dH ⟨?_,?_⟩) ?_
  .exact AE O
  .exact AP (AI (U 2 O) Ad AG O (((G.trans X).keep q).cells O)) (Ah.refl _) O
  refine DagSteps.cons (λa w' X U H=>dH ⟨?_,?_⟩) ?_
  .exact AE O
  .have e8:a 8=(.agg (R6 t sa sc aa ac)):=H 0 O 8 (.eq (.agg (R6 t sa sc aa ac))) O (by rw[e];rfl);exact A7 (AS func147 kQ kQ (Ha e8)) ((WZ t.size t _ _ (dU _) (by rw[<-hA];exact V) (A3.ext (Ah.trans E (G.trans X)) t ai)).mono (λv w h=>by rw[hA];exact h))
  refine DagSteps.cons (λa w' X U H=>dH ⟨?_,?_⟩) ?_
  .exact AE O
  .exact AP (AI (U 3 O) Ad AG O (((G.trans X).keep D).cells O)) (Ah.refl _) O
  refine DagSteps.cons (λa w' X U H=>dH ⟨?_,?_⟩) ?_
  .exact AE O
  .have ax:a 10=(.agg (R6 u z r f g)):=H 2 O 10 (.eq (.agg (R6 u z r f g))) O (by rw[e];rfl);exact A7 (AS func147 kQ kQ (Ha ax)) ((WZ u.size u _ _ (dU _) (by rw[<-hB];exact T) (A3.ext (Ah.trans E (G.trans X)) u an)).mono (λv w h=>by rw[hB];exact h))
  refine DagSteps.cons (λa w' X U H=>dH ⟨?_,?_⟩) ?_
  .exact AE O
  .exact AP (Dg O) (Ah.refl _) (H 1 O 9 (.gen (XA A) (Gq _)) O (by rw[e];rfl))
  refine DagSteps.cons (λa w' X U H=>dH ⟨?_,?_⟩) ?_
  .exact AE O
  .exact AP (Dg O) (Ah.refl _) (H 3 O 11 (.gen (XA B) (Gq _)) O (by rw[e];rfl))
  exact DagSteps.nil
 .intro a w1 X1 U H;obtain ⟨a5,K,e5,i5⟩:=H 4 5 (.gen (XA A) (Gq _)) O (by rw[e];rfl);obtain ⟨a6,I,e6,i6⟩:=H 5 6 (.gen (XA B) (Gq _)) O (by rw[e];rfl);obtain ⟨j1,rfl⟩:=Ak.out (σ:=a) (l:=[(5,(.slice a5 A.length K)),(6,(.slice a6 B.length I))]) ⟨e5,e6,trivial⟩;clear U H;have q:=X1.keep q;have D:=X1.keep D;have E:=E.ext X1;have C:Chg Aj w1 w1:=Chg.refl _ _;refine AC (AH (AA (qA _ O (AB (AW (Ax (λnn_ σ P=>∃(k:Nat),(∃jj_,σ=BW jj_ [(5,(.slice a5 A.length K)),(6,(.slice a6 B.length I)),(7,(I6 (k:Int)))])∧Chg Aj Z P∧Chg Aj w1 P∧BV P br (R6 t sa sc aa ac) 25∧BV P bp (R6 u z r f g) 25∧(k<=A.length∧k<=B.length)∧(Gf A B=Gf (A.drop k) (B.drop k))∧nn_=A.length - k) (n:=A.length - 0) ?_ ?_))))))
  .exact ⟨0,oH,E,C,q,D,⟨dR _,dR _⟩,O,O⟩
  .clear E C q D;rintro _ _ P ⟨k,⟨j2,rfl⟩,E,C,q,D,hk,S,rfl⟩;refine AH (AA (qM _ O (qM _ O (qV (AT eA O) (qV (A6 O O) (qM _ O ?_))))));rcases dT (decide ((((k:Nat):Int):Int)<((A.length:Nat):Int))) with m|m
   .have F:=m;have F:=of_decide_eq_true F;refine AF O O qD (Ar m) (qM _ O (AF O O qD (Ar m) (qM _ O (AF O O qD (Ar m) (qV (AT eA O) (AF O O qD (Ar m) (qV (A6 O O) (qV (Af (v:=(.bool (decide (((k:Int):Int)<(B.length:Int))))) O (by rw[m];rfl)) (AB (qC O (λg2=>?_) (λg2=>?_)))))))))))
    .obtain ⟨x,hx⟩:=AU (l:=A) (i:=k) qO;obtain ⟨y,hy⟩:=AU (l:=B) (i:=k) qO;obtain ⟨p,j,rfl,Q⟩:=CX (n:=A.length) i5 qO;obtain ⟨o,s,rfl,W⟩:=CX (n:=B.length) i6 qO;have M:=Bi hx;have L:=Bi hy;refine AM (AC (AH (AW (AH ?_))));obtain ⟨al,d⟩:∃R:List Fact,R=[.eq (.slice (oI p j) A.length K),.eq (I6 (k:Int)),.eq (.pointer (some ⟨p,j+k,none⟩)),.eq (I6 x),.eq (.slice (oI o s) B.length I),.eq (I6 (k:Int)),.eq (.pointer (some ⟨o,s+k,none⟩)),.eq (I6 y),.eq (.bool (decide (x≠y)))]:=⟨_,O⟩;refine Ga [24,25,26,27,28,29,30,31,32] [[],[],[0,1],[2],[],[],[4,5],[6],[3,7]] al d mixed qK qK ?_ ?_
     .intro wd G;refine DagSteps.cons (λa w' X U H=>dH ⟨?_,?_⟩) ?_
      .exact AE O
      .exact AP (Am (U 5 O)) (Ah.refl _) O
      refine DagSteps.cons (λa w' X U H=>dH ⟨?_,?_⟩) ?_
      .exact AE O
      .exact AP (Am (U 7 O)) (Ah.refl _) O
      refine DagSteps.cons (λa w' X U H=>dH ⟨?_,?_⟩) ?_
      .exact AE O
      .have aw:a 24=(.slice (oI p j) A.length K):=H 0 O 24 (.eq (.slice (oI p j) A.length K)) O (by rw[d];rfl);have ah:a 25=(I6 ((k:Nat):Int)):=H 1 O 25 (.eq (I6 ((k:Nat):Int))) O (by rw[d];rfl);exact AP (AL (i:=k) aw ah O eA Al qO qO) (Ah.refl _) O
      refine DagSteps.cons (λa w' X U H=>dH ⟨?_,?_⟩) ?_
      .exact AE O
      .have ay:a 26=(.pointer (some ⟨p,j+k,none⟩)):=H 2 O 26 (.eq (.pointer (some ⟨p,j+k,none⟩))) O (by rw[d];rfl);exact AP (AJ ay Ag (Ah.cell (Ah.trans C (G.trans X)) (Q k x hx))) (Ah.refl _) O
      refine DagSteps.cons (λa w' X U H=>dH ⟨?_,?_⟩) ?_
      .exact AE O
      .exact AP (Am (U 6 O)) (Ah.refl _) O
      refine DagSteps.cons (λa w' X U H=>dH ⟨?_,?_⟩) ?_
      .exact AE O
      .exact AP (Am (U 7 O)) (Ah.refl _) O
      refine DagSteps.cons (λa w' X U H=>dH ⟨?_,?_⟩) ?_
      .exact AE O
      .have ak:a 28=(.slice (oI o s) B.length I):=H 4 O 28 (.eq (.slice (oI o s) B.length I)) O (by rw[d];rfl);have aj:a 29=(I6 ((k:Nat):Int)):=H 5 O 29 (.eq (I6 ((k:Nat):Int))) O (by rw[d];rfl);exact AP (AL (i:=k) ak aj O eA Al qO qO) (Ah.refl _) O
      refine DagSteps.cons (λa w' X U H=>dH ⟨?_,?_⟩) ?_
      .exact AE O
      .have ad:a 30=(.pointer (some ⟨o,s+k,none⟩)):=H 6 O 30 (.eq (.pointer (some ⟨o,s+k,none⟩))) O (by rw[d];rfl);exact AP (AJ ad Ag (Ah.cell (Ah.trans C (G.trans X)) (W k y hy))) (Ah.refl _) O
      refine DagSteps.cons (λa w' X U H=>dH ⟨?_,?_⟩) ?_
      .exact AE O
      .have am:a 27=(I6 x):=H 3 O 27 (.eq (I6 x)) O (by rw[d];rfl);have aq:a 31=(I6 y):=H 7 O 31 (.eq (I6 y)) O (by rw[d];rfl);exact AP (Bb am aq) (Ah.refl _) O
      exact DagSteps.nil
     .intro a w5 X5 U H;obtain ⟨j5,rfl⟩:=Ak.out (σ:=a) (l:=[(5,(.slice (oI p j) A.length K)),(6,(.slice (oI o s) B.length I)),(7,(I6 ((k:Nat):Int))),(32,(.bool (decide (x≠y))))]) ⟨U 5 O,U 6 O,U 7 O,(show a 32=(.bool (decide (x≠y))) from H 8 32 (.eq (.bool (decide (x≠y)))) O (by rw[d];rfl)),trivial⟩;clear U H;have q:=X5.keep q;have D:=X5.keep D;have E:=E.ext X5;have C:=C.ext X5;refine AC (qC O (λJ=>?_) (λJ=>?_))
      .refine AH (AH ?_);obtain ⟨ap,b⟩:∃R:List Fact,R=[.eq (.slice (oI p j) A.length K),.eq (I6 (k:Int)),.eq (.pointer (some ⟨p,j+k,none⟩)),.eq (I6 x),.eq (.slice (oI o s) B.length I),.eq (I6 (k:Int)),.eq (.pointer (some ⟨o,s+k,none⟩)),.eq (I6 y),.eq (.bool (decide (x<y)))]:=⟨_,O⟩;refine Ga [33,34,35,36,37,38,39,40,41] [[],[],[0,1],[2],[],[],[4,5],[6],[3,7]] ap b mixed qK qK ?_ ?_
       .intro wd G;refine DagSteps.cons (λa w' X U H=>dH ⟨?_,?_⟩) ?_
        .exact AE O
        .exact AP (Am (U 5 O)) (Ah.refl _) O
        refine DagSteps.cons (λa w' X U H=>dH ⟨?_,?_⟩) ?_
        .exact AE O
        .exact AP (Am (U 7 O)) (Ah.refl _) O
        refine DagSteps.cons (λa w' X U H=>dH ⟨?_,?_⟩) ?_
        .exact AE O
        .have ag:a 33=(.slice (oI p j) A.length K):=H 0 O 33 (.eq (.slice (oI p j) A.length K)) O (by rw[b];rfl);have a0:a 34=(I6 ((k:Nat):Int)):=H 1 O 34 (.eq (I6 ((k:Nat):Int))) O (by rw[b];rfl);exact AP (AL (i:=k) ag a0 O eA Al qO qO) (Ah.refl _) O
        refine DagSteps.cons (λa w' X U H=>dH ⟨?_,?_⟩) ?_
        .exact AE O
        .have au:a 35=(.pointer (some ⟨p,j+k,none⟩)):=H 2 O 35 (.eq (.pointer (some ⟨p,j+k,none⟩))) O (by rw[b];rfl);exact AP (AJ au Ag (Ah.cell (Ah.trans C (G.trans X)) (Q k x hx))) (Ah.refl _) O
        refine DagSteps.cons (λa w' X U H=>dH ⟨?_,?_⟩) ?_
        .exact AE O
        .exact AP (Am (U 6 O)) (Ah.refl _) O
        refine DagSteps.cons (λa w' X U H=>dH ⟨?_,?_⟩) ?_
        .exact AE O
        .exact AP (Am (U 7 O)) (Ah.refl _) O
        refine DagSteps.cons (λa w' X U H=>dH ⟨?_,?_⟩) ?_
        .exact AE O
        .have az:a 37=(.slice (oI o s) B.length I):=H 4 O 37 (.eq (.slice (oI o s) B.length I)) O (by rw[b];rfl);have av:a 38=(I6 ((k:Nat):Int)):=H 5 O 38 (.eq (I6 ((k:Nat):Int))) O (by rw[b];rfl);exact AP (AL (i:=k) az av O eA Al qO qO) (Ah.refl _) O
        refine DagSteps.cons (λa w' X U H=>dH ⟨?_,?_⟩) ?_
        .exact AE O
        .have ar:a 39=(.pointer (some ⟨o,s+k,none⟩)):=H 6 O 39 (.eq (.pointer (some ⟨o,s+k,none⟩))) O (by rw[b];rfl);exact AP (AJ ar Ag (Ah.cell (Ah.trans C (G.trans X)) (W k y hy))) (Ah.refl _) O
        refine DagSteps.cons (λa w' X U H=>dH ⟨?_,?_⟩) ?_
        .exact AE O
        .have a1:a 36=(I6 x):=H 3 O 36 (.eq (I6 x)) O (by rw[b];rfl);have ab:a 40=(I6 y):=H 7 O 40 (.eq (I6 y)) O (by rw[b];rfl);exact AP (A6 a1 ab) (Ah.refl _) O
        exact DagSteps.nil
       .intro a w7 X7 U H;obtain ⟨j7,rfl⟩:=Ak.out (σ:=a) (l:=[(41,(.bool (decide (x<y))))]) ⟨(show a 41=(.bool (decide (x<y))) from H 8 41 (.eq (.bool (decide (x<y)))) O (by rw[b];rfl)),trivial⟩;clear U H;have q:=X7.keep q;have D:=X7.keep D;have E:=E.ext X7;have C:=C.ext X7;refine AC (qC O (λN=>?_) (λN=>?_))
        .refine AA (qA _ O (AB (AO (AK (Ac (AK (AK (Ac (AK (AY nH (v:=(I6 (-1))) O ?_))))))))));exact ⟨BI (by rw[S,M,L];simp only[Gf];rw[if_neg (by simpa using J),if_pos N]),E⟩
        .refine AM (AC (AA (qA _ O (AB (AO (Ac (AK (AK (Ac (AK (AY nH (v:=(I6 1)) O ?_)))))))))));exact ⟨BI (by rw[S,M,L];simp only[Gf];rw[if_neg (by simpa using J),if_neg N]),E⟩
      .refine AM (AV (AC (AN (qM _ O (qV (A0 O O (A8 qO)) (qA _ O (AB (AC ?_))))))));exact ⟨A.length - (k+1),qO,k+1,oH,E,C,q,D,⟨qO,qO⟩,(by rw[S,M,L];simp only[Gf];rw[if_pos (by simpa using J)]),O⟩
    .have af:k=B.length:=qO
     refine Av (AZ (AZ (Ao (AC (AA (qM _ O (qV (AT eA O) (qM _ O (qV (AT eA O) (qV (DZ O O (A8 qO)) (qA _ O (AB (AO (AY nH (v:=(I6 (((A.length:Nat):Int) - ((B.length:Nat):Int)))) O ?_))))))))))))));exact ⟨BI (by rw[S,af,gR,Zp,iP];omega),E⟩
   .have F:=m;have F:=of_decide_eq_false F;have ae:k=A.length:=qO
    refine AD O O qD (v:=.bool false) (Ar m) (dH O) (AD O O qD (v:=.bool false) (Ar m) (dH O) (AD O O qD (v:=.bool false) (Ar m) (dH O) (AD O O qD (v:=.bool false) (Ar m) (dH O) (qV (Af (v:=(.bool false)) O (by rw[m];rfl)) (AB (Ae O (Av (AZ (AZ (Ao (AC (AA (qM _ O (qV (AT eA O) (qM _ O (qV (AT eA O) (qV (DZ O O (A8 qO)) (qA _ O (AB (AO ?_))))))))))))))))))));refine AY nH (v:=(I6 (((A.length:Nat):Int) - ((B.length:Nat):Int)))) O ?_;exact ⟨BI (by rw[S,ae,gR,Zq,iP];omega),E⟩
end Go.Proofs
namespace Go.Proofs
open Go Go.Eng
set_option maxRecDepth 100000
theorem Vj {S D:oD} {base n1:Nat} {w c f:World} {v v':Value} {ts:List Re} {rows:List n_} {x:Re} {i:n_}
 (m:Ap (λb=>S b∨D b) w ts rows) (j:Ah w c) (hn1:n1=w.heap.size) (l:∀b,S b->b<base) (k:∀b,D b->base<=b∧b<w.heap.size) (d:∀q,v.ownBlock=some q->¬D q∧(base<=q∧q<n1))
 (n:AR (λb=>S b∨n1<=b) c x i) (C:Chg (λy=>v.ownBlock=some y) c f) (g:∀q,v'.ownBlock=some q->v.ownBlock=some q∨c.heap.size<=q) (hb:base<=n1) :
 Ap (λb=>S b∨(D b∨(n1<=b∧b<c.heap.size))) f (ts++[x]) (rows++[i])∧(∀b,(D b∨(n1<=b∧b<c.heap.size))->base<=b∧b<f.heap.size)∧(∀q,v'.ownBlock=some q->¬(D q∨(n1<=q∧q<c.heap.size))):=by
 have hs:=C.size;have hs1:=j.size;refine ⟨Ap.append (Ap.single ?_) ?_,?_,?_⟩
 .refine AR.mono (S:=λb=>(S b∨n1<=b)∧b<c.heap.size) ?_ _ (AR.chg C ?_ _ (AR.lt _ n))
  .rintro b ⟨h|h,a⟩
   .exact .inl h
   .exact .inr (.inr ⟨h,a⟩)
  .rintro b ⟨h|h,a⟩ e
   .have:=(d b e).2;have:=l b h;omega
   .have:=(d b e).2;omega
 .refine Ap.mono (S:=λb=>S b∨D b) (λb hb=>hb.imp id .inl) (Ap.chg C ?_ (Ap.ext j m));rintro b (h|h) e
  .have:=(d b e).2;have:=l b h;omega
  .exact (d b e).1 h
 .rintro b (h|h)
  .have:=k b h;omega
  .omega
 .intro q o;rcases g q o with h|h
  .rintro (a|a)
   .exact (d q h).1 a
   .have:=(d q h).2;omega
  .rintro (a|a)
   .have:=k q a;omega
   .omega
theorem Xe {S:oD} {w:World} {k mn mx:Int} {ng:Bool} {set:List (Int×Int)} {a:List Re} {sa aa:oE} {sc ac n:Nat} (hn:a.length=n)
 (h:AR S w (.mk k set a mn mx ng) [I6 k,.slice sa set.length sc,.slice aa a.length ac,I6 mn,I6 mx,.bool ng]):AR S w (.mk k set a mn mx ng) [I6 k,.slice sa set.length sc,.slice aa n ac,I6 mn,I6 mx,.bool ng]:=by
 rw[<-hn];exact h
theorem P4 (w0:World) (S:Nat→Prop) (t:Re) (vs:n_) (fv:Value) (g:Re→Re) (ht:AR S w0 t vs) (hS:∀b,S b→b<w0.heap.size) (hM:t.size≤1000000)
  (hf:∀(w:World) (x:Re) (xs:n_),Ah w0 w→x∈t.args→AR S w x xs→CG prog fv #[.agg xs.toArray] w λr w'=>∃us,r=.agg us.toArray∧AR (λb=>S b∨w.heap.size≤b) w' (g x) us∧Ah w w') :
  Bj prog 45 #[.agg vs.toArray,fv] w0 λv w=>∃us,v=.agg us.toArray∧AR (λb=>S b∨w0.heap.size≤b) w (.mk t.kind t.set (t.args.map g) t.mn t.mx t.neg) us∧Ah w0 w:=by
 have ht0:=ht;obtain ⟨sa,sc,aa,ac,rfl,ax,hac,bg⟩:=ht.form;have hal:=EC t.args;have hse:=t.size_eq;refine qR func45 rfl ntmps45 rfl (λE=>(AA (BC (v:=(.agg (R6 t sa sc aa ac))) (c:=(R6 t sa sc aa ac)) qD rfl rfl ?_)));intro br wr Nr;have Fr:=Nr.ge E;have E:=E.ext Nr.ext;have Br:=Nr.blk;refine BK (c:=#[(I6 0),(.slice none 0 0),(.slice none 0 0),(I6 0),(I6 0),(.bool false)]) qD A1 rfl ?_;intro bo wo No;have Fo:=No.ge E;have Oo_br:=No.lt Br;have Br:=No.keep Br;have E:=E.ext No.ext;have Bo:=No.blk;refine AB (AA (qA _ rfl (AB (AH (AA (qF br 0 2 rfl dI rfl BF rfl (qV (AJ rfl A9 (Br.cell rfl)) (qV (AT dJ rfl) (qM _ rfl (AB (AW ?_)))))))))));obtain ⟨base,ag⟩:∃base,base=wo.heap.size:=⟨_,rfl⟩;have hbo:bo<base:=by rw[ag];exact Bo.lt
 have hbr:br<base:=by rw[ag];exact Br.lt
 have a0:∀b,S b→b<base:=λb hb=>by have:=hS b hb;omega
 refine Ax (λnn_ σ W1=>∃(k:Nat) (la:oE) (lc:Nat) (ae:List n_) (D:Nat→Prop),(∃jj_,σ=BW jj_ [(1,fv),(2,(P6 br 0)),(4,(P6 bo 0)),(9,(.slice aa t.args.length ac)),(10,(I6 (t.args.length:Int))),(11,(I6 (k:Int))),(5,(.slice la k lc))])∧Chg Aj w0 W1∧BV W1 br (R6 t sa sc aa ac) 25∧BV W1 bo #[(I6 0),(.slice none 0 0),(.slice none 0 0),(I6 0),(I6 0),(.bool false)] 25∧(k≤t.args.length)∧(W1.ownsRow base FR 6 (.slice la k lc) k ae.flatten)∧(Ap (λb=>S b∨D b) W1 ((t.args.take k).map g) ae)∧(∀b,D b→base≤b∧b<W1.heap.size)∧(∀q,(Value.slice la k lc).ownBlock=some q→¬D q)∧(base≤W1.heap.size)∧nn_=t.args.length - k) (n:=t.args.length - 0) ?_ ?_
 ·exact ⟨0,none,0,[],(λ_=>False),oH,E,Br,Bo,dR _,World.ownsRow_nil _ _ _ _,rfl,(λb f=>f.elim),(by simp[Value.ownBlock]),qO,rfl⟩
 ·clear E Br Bo;rintro _ _ W1 ⟨k,la,lc,ae,D,⟨j1,rfl⟩,E,Br,Bo,hk,ab,hR,hD,hv,af,rfl⟩;refine AA (qV (A6 rfl rfl) (AB (AH (qC rfl (λa5=>?_) (λa5=>?_)))))
  ·obtain ⟨x,hx⟩:=AU (l:=t.args) (i:=k) qO;obtain ⟨b,o,a6,rfl,a8⟩:=bg.resolve_left (λh=>by rw[h] at hx;simp at hx);obtain ⟨xs,a4,a3⟩:=BM.get a8 hx;have aw:=a3;obtain ⟨ay,au,aq,az,rfl,_,_,_⟩:=a3.form;have a9:x∈t.args:=dK hx;obtain ⟨wk,hwk⟩:∃wk,wk=(W1):=⟨_,rfl⟩;have ar:=ab.lt;have bf:=af;refine AM (AC (AH (AW (AA (qV (AL (b:=b) (o:=o) (len:=t.args.length) (cap:=ac) (i:=k) (o':=o+k*6) rfl rfl rfl dJ AG qO qO) (qV (AI rfl Ad AG rfl (a4.ext E)) (As (v:=(.agg (R6 x ay au aq az))) (c:=(R6 x ay au aq az)) (n:=6) qD A1 rfl AG rfl rfl rfl qS ?_)))))));intro bs ws Ns;have Fs:=Ns.ge E;have Os_br:=Ns.lt Br;have Os_bo:=Ns.lt Bo;have Br:=Ns.keep Br;have Bo:=Ns.keep Bo;have ab:=Az ab Ns.ext;have hR:=Ap.ext Ns.ext hR;have af:=dL af Ns.ext.size;have E:=E.ext Ns.ext;have Bs:=Ns.blk;refine AB (AN (qM _ rfl (qM _ rfl (qV (AI (vs:=(oJ x ay au aq az)) rfl Ad AG rfl (Bs.cells rfl)) ?_))));obtain ⟨n1,a1⟩:∃n1,n1=ws.heap.size:=⟨_,rfl⟩;have bd:∀b,D b→base≤b∧b<ws.heap.size:=λb hb=>by have:=hD b hb;have:=Ns.ext.size;omega
   have bj:=hR;refine DK qD rfl rfl (hf _ x _ E a9 (AR.ext E x aw)) ?_;rintro _ w9 ⟨us,rfl,av,X9⟩;have Br:=X9.keep Br;have Bo:=X9.keep Bo;have Bs:=X9.keep Bs;have ab:=Az ab X9;have af:=dL af X9.size;have E:=E.ext X9;rw[←a1] at av;have ai:=av;obtain ⟨am,ao,ap,an,rfl,_,_,_⟩:=av.form;have Y9:Ah ws (w9):=X9;refine Aw (ps:=[(0,(.agg #[(I6 ((g x).kind)),(.slice am ((g x).set.length) ao),(.slice ap ((g x).args.length) an),(I6 ((g x).mn)),(I6 ((g x).mx)),(.bool ((g x).neg))]))]) (c:=#[(I6 ((g x).kind)),(.slice am ((g x).set.length) ao),(.slice ap ((g x).args.length) an),(I6 ((g x).mn)),(I6 ((g x).mx)),(.bool ((g x).neg))]) qD rfl dJ AG A1 qD qD qK ?_;intro bq wq Nq;have Fq:=Nq.ge E;have Oq_br:=Nq.lt Br;have Oq_bo:=Nq.lt Bo;have Oq_bs:=Nq.lt Bs;have Br:=Nq.keep Br;have Bo:=Nq.keep Bo;have Bs:=Nq.keep Bs;have ab:=Az ab Nq.ext;have af:=dL af Nq.ext.size;have Y9:=Ah.trans Y9 Nq.ext;have ai:=AR.ext Nq.ext _ ai;have E:=E.ext Nq.ext;have Bq:=Nq.blk;refine BQ (base:=base) (n:=k) (m:=1) (xs:=ae.flatten) (news:=[(I6 ((g x).kind)),(.slice am ((g x).set.length) ao),(.slice ap ((g x).args.length) an),(I6 ((g x).mn)),(I6 ((g x).mx)),(.bool ((g x).neg))]) (size:=6) (bytes:=80) (v:=(.slice la k lc)) qD dJ AG E0 A1 rfl qD rfl ab rfl (rfl) (Bq.cells rfl) qS (by unfold maxLen;omega) qO (af) ?_;intro v9 w29 a2 ak ba;have Br:=ak.keep (λh=>by have:=(ab.lt _ h).1;omega) Br;have Bo:=ak.keep (λh=>by have:=(ab.lt _ h).1;omega) Bo;have E:=E.step ak (λx hx h=>absurd (ab.lt x h).1 qO);obtain ⟨be,a7,rfl⟩:=BB a2;have ad:=Vj (base:=base) (n1:=n1) bj Y9 a1 a0 bd (λq hq=>⟨hv q hq,by have:=ar q hq;have:=Ns.ext.size;omega⟩) ai ak ba (by have:=Ns.ext.size;omega);refine qA _ rfl (AB (AV (AC (AN (qV (A0 rfl rfl (A8 qO)) (qM _ rfl (AB (AC ?_))))))));exact ⟨t.args.length - (k+1),qO,k+1,be,a7,ae++[[I6 (g x).kind,.slice am (g x).set.length ao,.slice ap (g x).args.length an,I6 (g x).mn,I6 (g x).mx,.bool (g x).neg]],(λb=>D b∨(n1≤b∧b<wq.heap.size)),oH,E,Br,Bo,qO,(by simpa using a2),(by rw[eK,hx,eT];exact ad.1),ad.2.1,ad.2.2,dL af ak.size,rfl⟩
  ·have bh:k=t.args.length:=qO
   subst bh;rw[eE] at hR;obtain ⟨bc,ah⟩:=Eo ab hR qP;have aj:B_ (λy=>S y∨base≤y) (W1) 2 (.slice sa t.set.length sc) (t.set.map Ba):=(B_.chg ax E (λ_ _ f=>f)).mono (λy hy=>dH hy);have al:Chg (λy=>y=bo∨y=br) (W1) (W1):=Chg.refl _ _;refine Av (AZ (AZ (Ao (AC (AA (qM _ rfl (qF br 0 2 rfl dI rfl BF rfl (CB (b:=br) (o:=2) (c':=(R6 t sa sc la lc)) (v:=(.slice la t.args.length lc)) rfl rfl rfl BF Br qP rfl ?_))))))));intro w3 S3;have al:=al.step S3.chg (λy _ h=>by first|exact .inl h|exact .inr h);have Bo:=S3.keep qO Bo;have E:=S3.step E (by first|exact dH qO|assumption|exact dG rfl|exact dG (by assumption)|exact dG qP|exact dG qO|exact dG (by dsimp only;omega));have Br:=S3.blk;refine AB (AA (qV (AI (vs:=(oJ t sa sc la lc)) rfl Ad AG rfl (Br.cells rfl)) (Aa (b:=bo) (o:=0) (c':=(R6 t sa sc la lc)) rfl rfl qS AG rfl Bo qL rfl ?_)));intro w4 S4;have al:=al.step S4.chg (λy _ h=>by first|exact .inl h|exact .inr h);have Br:=S4.keep qO Br;have E:=S4.step E (by first|exact dH qO|assumption|exact dG rfl|exact dG (by assumption)|exact dG qP|exact dG qO|exact dG (by dsimp only;omega));have Bo:=S4.blk;refine AB (AO (A2 results45 (vs:=(oJ t sa sc la lc)) (b:=bo) rfl Ad AG rfl (Bo.cells rfl) (⟨_,rfl,?_,E⟩)));have bi:(t.args.map g).length=t.args.length:=qP
   have bb:∀y,(S y∨base≤y)→¬(y=bo∨y=br):=by
    rintro y (h|h) (h2|h2)
    ·have:=a0 y h;have:=hS y h;omega
    ·have:=a0 y h;have:=hS y h;omega
    ·omega
    ·omega
   refine Xe qP (AR.mono (S:=λy=>S y∨base≤y) (λy hy=>hy.imp id (λh=>qO)) _ (AR.chg al bb _ (AR.of (set:=t.set) (args:=t.args.map g) aj (by rw[bi];exact bc) ?_)));rcases ah with h|⟨gb,h1,h2,h3,h4⟩
   ·exact .inl h
   ·exact .inr ⟨gb,0,.inr h1,h3,D5 λi u hu=>by obtain ⟨us,h5,h6⟩:=h4 i u hu;exact ⟨us,h5,AR.mono (λy hy=>hy.imp id (λh=>(hD y h).1)) u h6⟩⟩
theorem R5 {w:World} {b o:Nat} {xs ys:n_} (h:BG w b o (xs++ys)):BG w b o xs:=λi v a=>h i v (by rw[dQ (AX a)];exact a)
theorem Qg {w:World} {b o:Nat} {xs ys:n_} (h:BG w b o (xs++ys)):BG w b (o+xs.length) ys:=λi v a=>by
 have:=h (xs.length+i) v (by rw[dX qO,kN];exact a)
 rwa [<-Nat.add_assoc] at this
theorem MI (rows:List n_) (i:Nat):rows.flatten=(rows.take i).flatten++(rows.drop i).flatten:=by rw[<-fX,fF]
theorem Ap.drop {S:oD} {w:World}:∀{ts:List Re} {rows:List n_} (i:Nat),Ap S w ts rows->Ap S w (ts.drop i) (rows.drop i)
 | [],_,i,h=>by simp only[Ap] at h;subst h;cases i<;>rfl
 | t::ts,rows,0,h=>h
 | t::ts,rows,i+1,h=>by
  obtain ⟨r,rs,rfl,h2,a⟩:=h;exact Ap.drop i a
theorem Si {S S':oD} {w:World} {n0 m c:Nat} {a:oE} {ts:List Re} {rows:List n_} (d:w.ownsRow n0 FR 6 (.slice a m c) m rows.flatten) (o:Ap S w ts rows) (f:ts.length=m) (e:∀y,S y->S' y) (hn:∀y,n0<=y->S' y):CE S' w (.slice a m c) ts:=by
 obtain ⟨p,k⟩:=Eo d o f;subst f;refine ⟨a,c,O,p,?_⟩;rcases k with h|⟨b,l,_,r,n⟩
 .exact .inl h
 .exact .inr ⟨b,0,hn b l,r,D5 λi t q=>by obtain ⟨vs,j,g⟩:=n i t q;exact ⟨vs,j,AR.mono e t g⟩⟩
end Go.Proofs
namespace Go.Proofs
open Go Go.Eng Go.Sort
set_option maxRecDepth 100000
theorem Vz {l:List Re} {a x:Re} {k:Nat} (b:l[k]?=some x) (c:CS a x≠0) (d:¬CS a x<0) (h:DI l a=l.take k++DI (l.drop k) a):DI l a=l.take (k+1)++DI (l.drop (k+1)) a:=by
 rw[h,Bi b,eK,b];simp only[DI];rw[if_neg c,if_neg d,fL,eW];rfl
theorem V1 {l:List Re} {a x:Re} {k:Nat} (c:l[k]?=some x) (b:CS a x≠0) (d:CS a x<0) (h:DI l a=l.take k++DI (l.drop k) a):DI l a=l.take k++[a]++l.drop k:=by
 rw[h,Bi c];simp only[DI];rw[if_neg b,if_pos d,eW];rfl
theorem V0 {l:List Re} {a x:Re} {k:Nat} (b:l[k]?=some x) (c:CS a x=0) (h:DI l a=l.take k++DI (l.drop k) a):DI l a=l:=by
 rw[h,Bi b];simp only[DI];rw[if_pos c,<-Bi b,fF]
theorem YG {l:List Re} {a:Re} (h:DI l a=l.take l.length++DI (l.drop l.length) a):DI l a=l++[a]:=by
 rw[h,eE,gR];rfl
theorem Xb {S:oD} {w:World} {aa:oE} {n ac:Nat} {l:List Re} (h:CE S w (.slice aa n ac) l):∃rows,Ap S w l rows∧(0<n->∃b o,aa=oI b o∧BG w b o rows.flatten):=by
 obtain ⟨a,c,d,_,e⟩:=h;simp only[Value.slice.injEq] at d;obtain ⟨rfl,rfl,rfl⟩:=d;rcases e with rfl|⟨b,o,_,j,i⟩
 .exact ⟨[],O,λh=>by simp at h⟩
 .obtain ⟨rows,g,f⟩:=BM.rows i;exact ⟨rows,g,λ_=>⟨b,o,j,f⟩⟩
def Qz (x:Re):Prop:=JF x∧(DG x).length<=100000000
theorem OK {x:Re} (h:Au x) (hs:x.size<=1000000):Qz x:=⟨PW h,by have:=Qb h;omega⟩
theorem RE (a:World) (t u:Re) (vs b:n_) (f:A3 a t vs) (e:A3 a u b) (c:Qz t) (d:Qz u) :
 Bj prog 115 #[.agg vs.toArray,.agg b.toArray] a λv w=>v=I6 (CS t u)∧Ah a w:=
 (RF a t u vs b f e c.2 d.2).mono λv w h=>⟨by rw[h.1,WY c.1 d.1],h.2⟩
theorem Rf (w0:World) (S:Nat→Prop) (v:Value) (l:List Re) (a:Re) (us:n_) (h:CE S w0 v l) (ha:AR S w0 a us) (hS:∀b,S b→b<w0.heap.size) (hl:l.length≤1000000) (hc:∀x∈l,Qz x) (hca:Qz a) :
  Bj prog 84 #[v,.agg us.toArray] w0 λr w=>(∃a' c,r=.slice a' (DI l a).length c∧CE (λb=>S b∨w0.heap.size≤b) w r (DI l a))∧Ah w0 w:=by
 have h0:=h;have ax:=ha;obtain ⟨la,lc,rfl,hlc,b2⟩:=h;obtain ⟨sa,sc,aa,ac,rfl,_,_,_⟩:=ha.form;obtain ⟨ad,hR,ba⟩:=Xb h0;have h6:=hR.six;have hrl:=hR.len;have ao:=hR.one;refine qR func84 rfl ntmps84 rfl (λE=>(AA (BC (v:=(.agg (R6 a sa sc aa ac))) (c:=(R6 a sa sc aa ac)) qD rfl rfl ?_)));intro br wr Nr;have Fr:=Nr.ge E;have E:=E.ext Nr.ext;have Br:=Nr.blk;refine qA _ rfl (AB (AA (qA _ rfl (AB (AH (AA (qM _ rfl (qV (AT dJ rfl) (qM _ rfl (AB (AW ?_)))))))))));obtain ⟨base,a0⟩:∃base,base=wr.heap.size:=⟨_,rfl⟩;have hb0:w0.heap.size≤base:=by have:=Nr.ext.size;omega
 have hbr:br<base:=by have:=Nr.size;have:=Nr.eq;omega
 have ap:base≤wr.heap.size:=qO
 refine Ax (λnn_ σ W1=>∃(k:Nat) (oa:oE) (oc:Nat),(∃jj_,σ=BW jj_ [(0,(.slice la l.length lc)),(3,(P6 br 0)),(9,(.slice la l.length lc)),(10,(I6 (l.length:Int))),(11,(I6 (k:Int))),(5,(.slice oa k oc))])∧Chg Aj w0 W1∧BV W1 br (R6 a sa sc aa ac) 25∧(k≤l.length)∧(DI l a=l.take k++DI (l.drop k) a)∧(W1.ownsRow base FR 6 (.slice oa k oc) k (ad.take k).flatten)∧(base≤W1.heap.size)∧nn_=l.length - k) (n:=l.length - 0) ?_ ?_
 ·exact ⟨0,none,0,oH,E,Br,dR _,rfl,World.ownsRow_nil _ _ _ _,ap,rfl⟩
 ·clear E Br;rintro _ _ W1 ⟨k,oa,oc,⟨j1,rfl⟩,E,Br,hk,hp,ab,af,rfl⟩;refine AA (qV (A6 rfl rfl) (AB (AH (qC rfl (λbd=>?_) (λbd=>?_)))))
  ·obtain ⟨x,hx⟩:=AU (l:=l) (i:=k) qO;obtain ⟨b,o,rfl,aw⟩:=ba qO;obtain ⟨xs,a2,a7⟩:=hR.get hx;have bf:(ad.take k).length=k:=by simp;omega
   have b0:(ad.drop k).length=l.length - k:=by simp;omega
   have bt:(ad.take k).flatten.length=k*6:=by rw[Ck (λr hr=>h6 r (gP hr)),bf]
   have au:BG w0 b (o+k*6) (ad.drop k).flatten:=by rw[←bt];exact Qg (xs:=(ad.take k).flatten) (by rw[←MI];exact aw)
   have bc:BG w0 b (o+k*6) xs:=R5 (ys:=(ad.drop (k+1)).flatten) (by rw[Bi a2,fE] at au;exact au);have an:(ad.take (k+1)).flatten=(ad.take k).flatten++xs:=by rw[eK,a2,fX];simp
   have ar:=a7;obtain ⟨ai,ah,ag,aj,rfl,_,_,_⟩:=a7.form;have bi:=dK hx;have a3:=λk h=>(ab.lt k h).2;refine AM (AC (AH (AW (AA (qM _ rfl (qV (AL (b:=b) (o:=o) (len:=l.length) (cap:=lc) (i:=k) (o':=o+k*6) rfl rfl rfl dJ AG qO qO) (qV (AI rfl Ad AG rfl (bc.ext E)) (BK (c:=#[(I6 0),(.slice none 0 0),(.slice none 0 0),(I6 0),(I6 0),(.bool false)]) qD A1 rfl ?_))))))));intro bz wz Nz;have Fz:=Nz.ge E;have Oz_br:=Nz.lt Br;have Br:=Nz.keep Br;have ab:=Az ab Nz.ext;have af:=dL af Nz.ext.size;have E:=E.ext Nz.ext;have Bz:=Nz.blk;refine qA _ rfl (Aa (b:=bz) (o:=0) (c':=(R6 x ai ah ag aj)) rfl rfl qS AG rfl Bz qL rfl ?_);intro w3 S3;have ab:=CH ab S3.chg (λy hy h=>by have h2:y=bz:=h;have:=a3 y hy;have:=Nz.eq;omega);have af:=dL af S3.chg.size;have Br:=S3.keep qO Br;have E:=S3.step E (by first|exact dH qO|assumption|exact dG rfl|exact dG (by assumption)|exact dG qP|exact dG qO|exact dG (by dsimp only;omega));have Bz:=S3.blk;refine AB (AA (qV (AI (vs:=(oJ a sa sc aa ac)) rfl Ad AG rfl (Br.cells rfl)) (qV (AI (vs:=(oJ x ai ah ag aj)) rfl Ad AG rfl (Bz.cells rfl)) (qE rfl (AS func115 kQ kQ rfl) (RE _ a x _ _ (AR.at a (AR.ext E a ax)) (AR.at x (AR.ext E x ar)) hca (hc x bi)) ?_))));rintro _ w9 ⟨rfl,X9⟩;have Br:=X9.keep Br;have Bz:=X9.keep Bz;have ab:=Az ab X9;have af:=dL af X9.size;have E:=E.ext X9;refine qA _ rfl (AB (AH (AA (qM _ rfl (qV (Ai rfl rfl) (AB (qC rfl (λc0=>?_) (λc0=>?_))))))))
   ·refine AA (qM _ rfl (qA _ rfl (AB (AO (AK (Ac (AK (AK (Ac (AK (AY results84 (v:=(.slice (oI b o) l.length lc)) rfl ?_)))))))))));rw[V0 hx c0 hp];exact ⟨⟨_,_,rfl,IK (λy hy=>.inl hy) (h0.ext E)⟩,E⟩
   ·refine AM (AC (AH (AA (qM _ rfl (qV (A6 rfl rfl) (AB (qC rfl (λc1=>?_) (λc1=>?_))))))))
    ·have av:(if lc=k then (oI b o:oE) else Option.map (λq:Addr=>q.add (k*6)) (oI b o))=some ⟨b,o+k*6,none⟩:=by rw[if_neg qO];simp[Addr.add]
     refine AH ?_;obtain ⟨bj,ae⟩:∃Fs:List (FactT ((λy=>(Value.slice oa k oc).ownBlock=some y))),Fs=[.eq (.slice oa k oc),.eq (.agg (R6 a sa sc aa ac)),.till (I4 FR (R6 a sa sc aa ac) 0) (HD _ _ _),.own (M3 base FR 6 (k+1) ((ad.take k).flatten++RD a sa sc aa ac) (.slice oa k oc) base) (HQ _ _ _ _ _ _ _),.eq (.slice (oI b o) l.length lc),.eq (I6 (k:Int)),.eq (.slice (some ⟨b,(o+k*6),none⟩) (l.length - k) (lc - k))]:=⟨_,rfl⟩;refine LG ((λy=>(Value.slice oa k oc).ownBlock=some y)) 7 3 [24,25,26,27,28,29,30] [[],[],[1],[0,2],[],[],[4,5]] bj ae rfl mixed qK qK qK ?_ ?_
     ·intro wd X0;refine DagStepsT.cons (λs' w' X U H=>?_) ?_
      ·exact BZ (Am (U 5 rfl)) (Chg.refl _ _) rfl
      refine DagStepsT.cons (λs' w' X U H=>?_) ?_
      ·exact BZ (AI (U 3 rfl) Ad AG rfl ((Chg.keep X (λh=>by have:=(ab.lt _ h).1;omega) (X0.keep Br)).cells rfl)) (Chg.refl _ _) rfl
      refine DagStepsT.cons (λs' w' X U H=>?_) ?_
      ·have bg:s' 25=(.agg (R6 a sa sc aa ac)):=H 1 rfl 25 (.eq (.agg (R6 a sa sc aa ac))) rfl (by rw[ae];rfl);exact Ih dJ AG A1 bg qD qD qK (dR _)
      refine DagStepsT.cons (λs' w' X U H=>?_) ?_
      ·have bw:s' 24=(.slice oa k oc):=H 0 rfl 24 (.eq (.slice oa k oc)) rfl (by rw[ae];rfl);obtain ⟨b26,bx,bv,_⟩:=(show (.till (I4 FR (R6 a sa sc aa ac) 0) (HD _ _ _):FactT ((λy=>(Value.slice oa k oc).ownBlock=some y))).In (s' 26) w' from FactT.at_false (H 2 rfl 26 (.till (I4 FR (R6 a sa sc aa ac) 0) (HD _ _ _)) rfl (by rw[ae];rfl)));exact GE dJ AG E0 A1 rfl qD bw (Az (Az ab X0) X) bx rfl (bv.cells rfl) qS (by unfold maxLen;omega) qO (by have:=X0.size;have:=X.size;omega) (λy h=>h) (by have:=X0.size;have:=X.size;omega)
      refine DagStepsT.cons (λs' w' X U H=>?_) ?_
      ·exact BZ (Am (U 0 rfl)) (Chg.refl _ _) rfl
      refine DagStepsT.cons (λs' w' X U H=>?_) ?_
      ·exact BZ (Am (U 6 rfl)) (Chg.refl _ _) rfl
      refine DagStepsT.cons (λs' w' X U H=>?_) ?_
      ·have bn:s' 28=(.slice (oI b o) l.length lc):=H 4 rfl 28 (.eq (.slice (oI b o) l.length lc)) rfl (by rw[ae];rfl);have bh:s' 29=(I6 ((k:Nat):Int)):=H 5 rfl 29 (.eq (I6 ((k:Nat):Int))) rfl (by rw[ae];rfl);exact BZ (E' (lo:=k) dJ AG bn bh rfl qO av rfl rfl) (Chg.refl _ _) rfl
      exact DagStepsT.nil
     ·intro s' wd6 w6 X0 X6 U H;obtain ⟨⟨ay,aq,bo⟩,bu,D27⟩:=(show (.own (M3 base FR 6 (k+1) ((ad.take k).flatten++RD a sa sc aa ac) (.slice oa k oc) base) (HQ _ _ _ _ _ _ _):FactT ((λy=>(Value.slice oa k oc).ownBlock=some y))).In (s' 27) w6 from H 3 27 (.own (M3 base FR 6 (k+1) ((ad.take k).flatten++RD a sa sc aa ac) (.slice oa k oc) base) (HQ _ _ _ _ _ _ _)) rfl (by rw[ae];rfl));have a9:s' 30=(.slice (some ⟨b,(o+k*6),none⟩) (l.length - k) (lc - k)):=H 6 30 (.eq (.slice (some ⟨b,(o+k*6),none⟩) (l.length - k) (lc - k))) rfl (by rw[ae];rfl);obtain ⟨j6,rfl⟩:=Ak.out (σ:=s') (l:=[(27,(.slice ay (k+1) aq)),(30,(.slice (some ⟨b,(o+k*6),none⟩) (l.length - k) (lc - k)))]) ⟨bo,a9,trivial⟩;clear U H;have Br:=Chg.keep X6 (λh=>by have:=(ab.lt _ h).1;omega) (X0.keep Br);have ab:=Az ab X0;have af:=dL af X0.size;have bm:=X6;have E:=(E.ext X0).step X6 (λy hy h=>by have:=(ab.lt _ h).1;omega);have O9:(w6).ownsRow base FR 6 (.slice ay (k+1) aq) (k+1) ((ad.take k).flatten++RD a sa sc aa ac):=bu;refine BQ (base:=base) (n:=(k+1)) (m:=(l.length - k)) (xs:=((ad.take k).flatten++RD a sa sc aa ac)) (news:=(ad.drop k).flatten) (size:=6) (bytes:=80) (v:=(.slice ay (k+1) aq)) qD dJ AG E0 A1 rfl qD rfl O9 rfl (by rw[Ck (λr hr=>h6 r (List.mem_of_mem_drop hr)),b0]) (au.ext E) ((λu hu=>ao u (by rw[MI ad k];exact lI _ hu))) (by unfold maxLen;omega) qO (dL af bm.size) ?_;intro v7 w27 az a1 Dv7;have Br:=a1.keep (λh=>by have:=(O9.lt _ h).1;omega) Br;have E:=E.step a1 (λx hx h=>absurd (O9.lt x h).1 qO);obtain ⟨b1,bb,rfl⟩:=BB az;refine qA _ rfl (AB (AC (AO (AK (Ac (AK (AK (Ac (AK (AY results84 (v:=(.slice b1 ((k+1)+(l.length - k)) bb)) rfl ?_))))))))));have hi:=V1 hx c0 c1 hp;have ak:(DI l a).length=k+1+(l.length - k):=by rw[hi];simp;omega
      have al:=Ap.ext E (Ap.append (hR.drop k) (Ap.append (Ap.single ax) (hR.take k)));rw[←hi] at al;exact ⟨⟨_,_,by rw[ak],Si (n0:=base) (by rw[fX,fX,iS];exact az) al ak (λy h=>.inl h) (λy h=>.inr qO)⟩,E⟩
    ·refine AM (AC (AN (qM _ rfl (qV (AI (vs:=(oJ x ai ah ag aj)) rfl Ad AG rfl (Bz.cells rfl)) (Aw (ps:=[(0,(.agg (R6 x ai ah ag aj)))]) (c:=(R6 x ai ah ag aj)) qD rfl dJ AG A1 qD qD qK ?_)))));intro bq wq Nq;have Fq:=Nq.ge E;have Oq_br:=Nq.lt Br;have Oq_bz:=Nq.lt Bz;have Br:=Nq.keep Br;have Bz:=Nq.keep Bz;have ab:=Az ab Nq.ext;have af:=dL af Nq.ext.size;have E:=E.ext Nq.ext;have Bq:=Nq.blk;refine BQ (base:=base) (n:=k) (m:=1) (xs:=(ad.take k).flatten) (news:=(oJ x ai ah ag aj)) (size:=6) (bytes:=80) (v:=(.slice oa k oc)) qD dJ AG E0 A1 rfl qD rfl ab rfl (rfl) (Bq.cells rfl) qS (by unfold maxLen;omega) qO (af) ?_;intro v8 w28 a4 am Dv8;have Br:=am.keep (λh=>by have:=(ab.lt _ h).1;omega) Br;have Bz:=am.keep (λh=>by have:=a3 _ h;have:=Nz.eq;omega) Bz;have E:=E.step am (λx hx h=>absurd (ab.lt x h).1 qO);obtain ⟨bs,bk,rfl⟩:=BB a4;refine qA _ rfl (AB (AV (AC (AN (qV (A0 rfl rfl (A8 qO)) (qM _ rfl (AB (AC ?_))))))));exact ⟨l.length - (k+1),qO,k+1,bs,bk,oH,E,Br,qO,Vz hx c0 c1 hp,(by rw[an];exact a4),dL af am.size,rfl⟩
  ·have a6:k=l.length:=qO
   refine Av (AZ (AZ (Ao (AC (AA (qM _ rfl (qV (AI (vs:=(oJ a sa sc aa ac)) rfl Ad AG rfl (Br.cells rfl)) (Aw (ps:=[(0,(.agg (R6 a sa sc aa ac)))]) (c:=(R6 a sa sc aa ac)) qD rfl dJ AG A1 qD qD qK ?_))))))));intro bq wq Nq;have Fq:=Nq.ge E;have Oq_br:=Nq.lt Br;have Br:=Nq.keep Br;have ab:=Az ab Nq.ext;have af:=dL af Nq.ext.size;have E:=E.ext Nq.ext;have Bq:=Nq.blk;refine BQ (base:=base) (n:=k) (m:=1) (xs:=(ad.take k).flatten) (news:=(oJ a sa sc aa ac)) (size:=6) (bytes:=80) (v:=(.slice oa k oc)) qD dJ AG E0 A1 rfl qD rfl ab rfl (rfl) (Bq.cells rfl) qS (by unfold maxLen;omega) qO (af) ?_;intro v6 w26 a8 a5 Dv6;have Br:=a5.keep (λh=>by have:=(ab.lt _ h).1;omega) Br;have E:=E.step a5 (λx hx h=>absurd (ab.lt x h).1 qO);obtain ⟨bp,be,rfl⟩:=BB a8;refine qA _ rfl (AB (AO (AY results84 (v:=(.slice bp (k+1) be)) rfl ?_)));have hi:DI l a=l.take k++[a]:=by rw[a6,eE];exact YG (by rw[a6] at hp;exact hp)
   have ak:(DI l a).length=k+1:=by rw[hi];simp;omega
   have al:=Ap.ext E (Ap.append (Ap.single ax) (hR.take k));rw[←hi] at al;exact ⟨⟨_,_,by rw[ak],Si (n0:=base) (by rw[fX,iS];exact a8) al ak (λy h=>.inl h) (λy h=>.inr qO)⟩,E⟩
theorem O5 (w0:World):Bj prog 83 #[] w0 λv w=>DQ (λb=>w0.heap.size≤b) Ei v w∧Ah w0 w:=by
 refine qR func83 rfl ntmps83 rfl (λE=>(AA (BK (c:=#[(I6 0),(.slice none 0 0),(.slice none 0 0),(I6 0),(I6 0),(.bool false)]) qD A1 rfl ?_)));intro bo wo No;have Fo:=No.ge E;have E:=E.ext No.ext;have Bo:=No.blk;refine AB (AA (qE rfl (AS func82 kQ kQ rfl) (JI _) ?_));rintro _ w9 ⟨rfl,X9⟩;have Bo:=X9.keep Bo;have E:=E.ext X9;refine Aw (ps:=[(0,(.agg #[(I6 0),(.slice none 0 0),(.slice none 0 0),(I6 0),(I6 0),(.bool false)]))]) (c:=#[(I6 0),(.slice none 0 0),(.slice none 0 0),(I6 0),(I6 0),(.bool false)]) qD rfl dJ AG A1 qD qD qK ?_;intro bp wp Np;have Fp:=Np.ge E;have Op_bo:=Np.lt Bo;have Bo:=Np.keep Bo;have E:=E.ext Np.ext;have Bp:=Np.blk;refine qV (B0 (ps:=[(0,(I6 8)),(2,(.slice (oI bp 0) 1 1))]) (v:=(.agg #[(I6 8),(.slice none 0 0),(.slice (oI bp 0) 1 1),(I6 0),(I6 0),(.bool false)])) rfl qK) (Aa (b:=bo) (o:=0) (c':=#[(I6 8),(.slice none 0 0),(.slice (oI bp 0) 1 1),(I6 0),(I6 0),(.bool false)]) rfl rfl qS AG rfl Bo qL rfl ?_);intro w1 S1;have Bp:=S1.keep qO Bp;have E:=S1.step E (by first|exact dH qO|assumption|exact dG rfl|exact dG (by assumption)|exact dG qP|exact dG qO|exact dG (by dsimp only;omega));have Bo:=S1.blk;refine AB (AO (A2 results83 (vs:=[(I6 8),(.slice none 0 0),(.slice (oI bp 0) 1 1),(I6 0),(I6 0),(.bool false)]) (b:=bo) rfl Ad AG rfl (Bo.cells rfl) ?_));exact ⟨⟨_,_,_,_,rfl,AR.of (set:=[]) (args:=[BO]) (B_.nil _ _ _ _ _) qP (.inr ⟨bp,0,by show w0.heap.size≤bp;omega,rfl,BM.one (Bp.cells rfl) (CF _ _ 0)⟩)⟩,E⟩
theorem Qi (l:List Re):(Gx l).length<=Re.sizes l:=by
 induction l with
 | nil=>simp[Gx,Re.sizes]
 | cons x l ih=>
  have h1:=x.size_eq;have h2:=EC x.args;unfold Gx at *;rw[iX,dN];simp only[Re.sizes];split
  .omega
  .split
   .simp only[fP];omega
   .simp only[d_,fP];omega
theorem UZ {l:List Re} {k:Nat} {x:Re} (h:l[k]?=some x):Gx (l.take (k+1))=Gx (l.take k)++(if x.kind=3 then x.args else if x.kind=1 then [] else [x]):=by
 unfold Gx;rw[eK,h,kB];simp
theorem Q8 (l:List Re) (k:Nat):Re.sizes (l.take k)<=Re.sizes l:=by
 conv=>rhs;rw[<-fF k l,Re.sizes_append]
 omega
theorem KV {l:List Re} {k:Nat} {x:Re} (h:l[k]?=some x) (c:x.kind≠0) (b:((l.take k).any λa=>decide (a.kind=0))=false):((l.take (k+1)).any λa=>decide (a.kind=0))=false:=by
 rw[eK,h,kC,b];simp[c]
theorem ZK (w0:World) (S:Nat→Prop) (v:Value) (ts:List Re) (h:CE S w0 v ts) (hS:∀b,S b→b<w0.heap.size) (hok:∀x∈ts,Au x) (hsz:Re.sizes ts≤1000000) :
  Bj prog 46 #[v] w0 λr w=>(∃us,r=.agg us.toArray∧AR (λb=>S b∨w0.heap.size≤b) w (R8 ts) us)∧Ah w0 w:=by
 have h0:=h;obtain ⟨bh,a9,rfl,hlc,_⟩:=h;have hls:=EC ts;have hfl:=Qi ts;obtain ⟨b1,ba,bn⟩:=HS 3 BT (Gx ts);refine qR func46 rfl ntmps46 rfl (λE=>(AA (BK (c:=#[(I6 0),(.slice none 0 0),(.slice none 0 0),(I6 0),(I6 0),(.bool false)]) qD A1 rfl ?_)));intro bo wo No;have Fo:=No.ge E;have E:=E.ext No.ext;have Bo:=No.blk;refine AB (AA (qA _ rfl (AB (AH (AA (qM _ rfl (qV (AT dJ rfl) (qM _ rfl (AB (AW ?_))))))))));obtain ⟨base,an⟩:∃base,base=wo.heap.size:=⟨_,rfl⟩;have hob:bo<base:=by rw[an];exact Bo.lt
 have hwb:w0.heap.size≤bo:=by have:=No.eq;omega
 have a3:base≤wo.heap.size:=qO
 refine Ax (λnn_ σ W1=>∃(k:Nat) (oa:oE) (oc:Nat) (m:Nat) (af:List n_),(∃jj_,σ=BW jj_ [(2,(P6 bo 0)),(6,(.slice bh ts.length a9)),(7,(I6 (ts.length:Int))),(8,(I6 (k:Int))),(3,(.slice oa m oc))])∧Chg Aj w0 W1∧BV W1 bo #[(I6 0),(.slice none 0 0),(.slice none 0 0),(I6 0),(I6 0),(.bool false)] 25∧(k≤ts.length)∧(m=(Gx (ts.take k)).length)∧(((ts.take k).any λa=>decide (a.kind=0))=false)∧(Ap S w0 (Gx (ts.take k)) af)∧(W1.ownsRow base FR 6 (.slice oa m oc) m af.flatten)∧(base≤W1.heap.size)∧nn_=ts.length - k) (n:=ts.length - 0) ?_ ?_
 ·exact ⟨0,none,0,0,[],oH,E,Bo,dR _,rfl,rfl,rfl,World.ownsRow_nil _ _ _ _,a3,rfl⟩
 ·clear E Bo;rintro _ _ W1 ⟨k,oa,oc,m,af,⟨j1,rfl⟩,E,Bo,hk,hm,ap,hR,ab,ad,rfl⟩;refine AA (qV (A6 rfl rfl) (AB (AH (qC rfl (λbd=>?_) (λbd=>?_)))))
  ·obtain ⟨x,hx⟩:=AU (l:=ts) (i:=k) qO;obtain ⟨b,o,rfl,a0⟩:=CE.cells h0 qO;obtain ⟨xs,ay,aq⟩:=a0 k x hx;have ai:=aq;obtain ⟨ak,ah,ag,al,rfl,_,_,bj⟩:=aq.form;have a7:=dK hx;have bu:=hok x a7;have ae:=UZ hx;have bw:=Qi (ts.take (k+1));have hst:=Q8 ts (k+1);have bg:=λk h=>(ab.lt k h).2;refine AM (AC (AH (AW (AA (qV (AL (b:=b) (o:=o) (len:=ts.length) (cap:=a9) (i:=k) (o':=o+k*6) rfl rfl rfl dJ AG qO qO) (qV (AI rfl Ad AG rfl (ay.ext E)) (As (v:=(.agg (R6 x ak ah ag al))) (c:=(R6 x ak ah ag al)) (n:=6) qD A1 rfl AG rfl rfl rfl qS ?_)))))));intro bz wz Nz;have Fz:=Nz.ge E;have Oz_bo:=Nz.lt Bo;have Bo:=Nz.keep Bo;have ab:=Az ab Nz.ext;have ad:=dL ad Nz.ext.size;have E:=E.ext Nz.ext;have Bz:=Nz.blk;refine AB (AH (AA (qF bz 0 0 rfl dI rfl Al rfl (qV (AJ rfl Ag (Bz.cell rfl)) (qV (Ai rfl rfl) (AB (qC rfl (λc0=>?_) (λc0=>?_))))))))
   ·refine AA (qE rfl (AS func82 kQ kQ rfl) (JI _) ?_);rintro _ w9 ⟨rfl,X9⟩;have Bo:=X9.keep Bo;have Bz:=X9.keep Bz;have ab:=Az ab X9;have ad:=dL ad X9.size;have E:=E.ext X9;refine Aa (b:=bo) (o:=0) (c':=#[(I6 0),(.slice none 0 0),(.slice none 0 0),(I6 0),(I6 0),(.bool false)]) rfl rfl qS AG rfl Bo qL rfl ?_;intro w4 S4;have Bz:=S4.keep qO Bz;have E:=S4.step E (by first|exact dH qO|assumption|exact dG rfl|exact dG (by assumption)|exact dG qP|exact dG qO|exact dG (by dsimp only;omega));have Bo:=S4.blk;refine AB (AO (AK (Ac (AK (AK (Ac (AK (A2 results46 (vs:=[(I6 0),(.slice none 0 0),(.slice none 0 0),(I6 0),(I6 0),(.bool false)]) (b:=bo) rfl Ad AG rfl (Bo.cells rfl) (⟨⟨_,rfl,?_⟩,E⟩)))))))));unfold R8;rw[if_pos (eX.2 ⟨x,a7,by simpa using c0⟩)];exact CF _ _ _
   ·refine AM (AC (AA (qF bz 0 0 rfl dI rfl Al rfl (qV (AJ rfl Ag (Bz.cell rfl)) (qV (Ai rfl rfl) (AB (qC rfl (λc3=>?_) (λc3=>?_))))))))
    ·obtain ⟨xb,xo,_,rfl,ao⟩:=bj.resolve_left ((Cm bu).1 (.inl c3));obtain ⟨qs,av,be⟩:=BM.rows ao;rw[if_pos c3] at ae;have aj:(Gx (ts.take (k+1))).length=(Gx (ts.take k)).length+x.args.length:=by rw[ae,dN]
     refine AN (qM _ rfl (qF bz 0 2 rfl dI rfl BF rfl (qV (AJ rfl A9 (Bz.cell rfl)) (BQ (base:=base) (n:=m) (m:=x.args.length) (xs:=af.flatten) (news:=qs.flatten) (size:=6) (bytes:=80) (v:=(.slice oa m oc)) qD dJ AG E0 A1 rfl qD rfl ab rfl (by rw[Ck av.six,av.len]) (be.ext E) (av.one) (by unfold maxLen;omega) qO (ad) ?_))));intro v8 w28 a8 a4 Dv8;have Bo:=a4.keep (λh=>by have:=(ab.lt _ h).1;omega) Bo;have E:=E.step a4 (λx hx h=>absurd (ab.lt x h).1 qO);obtain ⟨bp,bi,rfl⟩:=BB a8;refine qA _ rfl (AB (AV (AC (AN (qV (A0 rfl rfl (A8 qO)) (qM _ rfl (AB (AC ?_))))))));exact ⟨ts.length - (k+1),qO,k+1,bp,bi,m+x.args.length,af++qs,oH,E,Bo,qO,(by rw[aj,hm]),KV hx c0 ap,(by rw[ae];exact Ap.append av hR),(by rw[fX];exact a8),dL ad a4.size,rfl⟩
    ·rw[if_neg c3] at ae;refine AA (qF bz 0 0 rfl dI rfl Al rfl (qV (AJ rfl Ag (Bz.cell rfl)) (qV (Bb rfl rfl) (AB (qC rfl (λc1=>?_) (λc1=>?_))))))
     ·rw[if_neg c1] at ae;have aj:(Gx (ts.take (k+1))).length=(Gx (ts.take k)).length+1:=by rw[ae,dN];rfl
      refine AN (qM _ rfl (qV (AI (vs:=(oJ x ak ah ag al)) rfl Ad AG rfl (Bz.cells rfl)) (Aw (ps:=[(0,(.agg (R6 x ak ah ag al)))]) (c:=(R6 x ak ah ag al)) qD rfl dJ AG A1 qD qD qK ?_)));intro bq wq Nq;have Fq:=Nq.ge E;have Oq_bo:=Nq.lt Bo;have Oq_bz:=Nq.lt Bz;have Bo:=Nq.keep Bo;have Bz:=Nq.keep Bz;have ab:=Az ab Nq.ext;have ad:=dL ad Nq.ext.size;have E:=E.ext Nq.ext;have Bq:=Nq.blk;refine BQ (base:=base) (n:=m) (m:=1) (xs:=af.flatten) (news:=(oJ x ak ah ag al)) (size:=6) (bytes:=80) (v:=(.slice oa m oc)) qD dJ AG E0 A1 rfl qD rfl ab rfl (rfl) (Bq.cells rfl) qS (by unfold maxLen;omega) qO (ad) ?_;intro v7 w27 a6 au Dv7;have Bo:=au.keep (λh=>by have:=(ab.lt _ h).1;omega) Bo;have Bz:=au.keep (λh=>by have:=bg _ h;have:=Nz.eq;omega) Bz;have E:=E.step au (λx hx h=>absurd (ab.lt x h).1 qO);obtain ⟨bx,bb,rfl⟩:=BB a6;refine qA _ rfl (AB (AV (AC (AN (qV (A0 rfl rfl (A8 qO)) (qM _ rfl (AB (AC ?_))))))));exact ⟨ts.length - (k+1),qO,k+1,bx,bb,m+1,af++[RD x ak ah ag al],oH,E,Bo,qO,(by rw[aj,hm]),KV hx c0 ap,(by rw[ae];exact Ap.append (Ap.single ai) hR),(by rw[fX,iS];exact a6),dL ad au.size,rfl⟩
     ·rw[if_pos (by simpa using c1),gD] at ae;refine AM (AV (AC (AN (qV (A0 rfl rfl (A8 qO)) (qM _ rfl (AB (AC ?_)))))));exact ⟨ts.length - (k+1),qO,k+1,oa,oc,m,af,oH,E,Bo,qO,(by rw[ae,hm]),KV hx c0 ap,(by rw[ae];exact hR),ab,ad,rfl⟩
  ·have bs:k=ts.length:=qO
   rw[bs,eE] at ap hR hm;have bf:R8 ts=CT 3 BT (Gx ts):=by unfold R8;rw[ap];rfl
   rw[bf];obtain ⟨bv,ar⟩:=Eo ab (hR.ext E) hm.symm;refine Av (AZ (AZ (Ao (AC (AH (AA (qM _ rfl (qV (AT dJ rfl) (qV (Ai rfl rfl) (AB (qC rfl (λbr=>?_) (λbr=>?_))))))))))))
   ·refine AA (qE rfl (AS func48 kQ kQ rfl) (JK _) ?_);rintro _ w29 ⟨rfl,a5⟩;have Bo:=a5.keep Bo;have E:=E.ext a5;refine Aa (b:=bo) (o:=0) (c':=#[(I6 1),(.slice none 0 0),(.slice none 0 0),(I6 0),(I6 0),(.bool false)]) rfl rfl qS AG rfl Bo qL rfl ?_;intro w8 S8;have E:=S8.step E (by first|exact dH qO|assumption|exact dG rfl|exact dG (by assumption)|exact dG qP|exact dG qO|exact dG (by dsimp only;omega));have Bo:=S8.blk;refine AB (AO (AK (A2 results46 (vs:=[(I6 1),(.slice none 0 0),(.slice none 0 0),(I6 0),(I6 0),(.bool false)]) (b:=bo) rfl Ad AG rfl (Bo.cells rfl) ?_)));exact ⟨⟨_,rfl,by rw[b1 qO];exact CF _ _ _⟩,E⟩
   ·refine AM (AC (AH (AA (qM _ rfl (qV (AT dJ rfl) (qV (Ai rfl rfl) (AB (qC rfl (λbt=>?_) (λbt=>?_)))))))))
    ·obtain ⟨x,hx⟩:=AU (l:=Gx ts) (i:=0) qO;obtain ⟨lb,bk,b0,az,a0⟩:=ar.resolve_left (λh=>by rw[h] at hx;simp at hx);subst az;obtain ⟨xs,ay,aq⟩:=a0 0 x hx;have ai:=aq;obtain ⟨sa,sc,aa,ac,rfl,_,_,_⟩:=aq.form;have am:Chg (λy=>y=bo) (W1) (W1):=Chg.refl _ _;refine AA (qM _ rfl (qV (AL (b:=lb) (o:=0) (len:=m) (cap:=oc) (i:=0) (o':=0) rfl rfl rfl dJ AG qO qO) (qV (AI rfl Ad AG rfl (ay)) (Aa (b:=bo) (o:=0) (c':=(R6 x sa sc aa ac)) rfl rfl qS AG rfl Bo qL rfl ?_))));intro w10 a1;have am:=a1.chg;have E:=a1.step E (by first|exact dH qO|assumption|exact dG rfl|exact dG (by assumption)|exact dG qP|exact dG qO|exact dG (by dsimp only;omega));have Bo:=a1.blk;refine AB (AO (AK (A2 results46 (vs:=(oJ x sa sc aa ac)) (b:=bo) rfl Ad AG rfl (Bo.cells rfl) ?_)));exact ⟨⟨_,rfl,by rw[ba x qO hx];exact AR.mono (λy hy=>.inl hy) x (AR.chg am (λy hy h=>by have h1:=hS y hy;have h2:y=bo:=h;omega) x ai)⟩,E⟩
    ·have am:Chg (λy=>y=bo) (W1) (W1):=Chg.refl _ _;refine AM (AC (AA (qM _ rfl (qV (B0 (ps:=[(0,(I6 3)),(2,(.slice oa m oc))]) (v:=(.agg #[(I6 3),(.slice none 0 0),(.slice oa m oc),(I6 0),(I6 0),(.bool false)])) rfl qK) (Aa (b:=bo) (o:=0) (c':=#[(I6 3),(.slice none 0 0),(.slice oa m oc),(I6 0),(I6 0),(.bool false)]) rfl rfl qS AG rfl Bo qL rfl ?_)))));intro w11 ax;have am:=ax.chg;have E:=ax.step E (by first|exact dH qO|assumption|exact dG rfl|exact dG (by assumption)|exact dG qP|exact dG qO|exact dG (by dsimp only;omega));have Bo:=ax.blk;refine AB (AO (A2 results46 (vs:=[(I6 3),(.slice none 0 0),(.slice oa m oc),(I6 0),(I6 0),(.bool false)]) (b:=bo) rfl Ad AG rfl (Bo.cells rfl) (⟨⟨_,rfl,?_⟩,E⟩)));rw[bn qO];subst hm;refine AR.of (set:=[]) (B_.nil _ _ _ _ _) bv ?_;rcases ar with h|⟨ob,bc,bm,aw,a2⟩
     ·exact .inl h
     ·refine .inr ⟨ob,0,.inr qO,aw,D5 λi t ht=>?_⟩;obtain ⟨vs,h6,h7⟩:=a2 i t ht;exact ⟨vs,h6.chg am (λh=>by have h':ob=bo:=h;omega),AR.mono (λy hy=>.inl hy) t (AR.chg am (λy hy h=>by have h1:=hS y hy;have h2:y=bo:=h;omega) t h7)⟩
def GL (y:Re) (m x:Int):Re:=if y.kind=0∧0<m then y else if y.kind<=1∨x=0 then BT else if m=1∧x=1 then y else .mk 6 [] [y] m x false
theorem Ut (w0:World) (S:Nat→Prop) (y:Re) (m x:Int) (vs:n_) (hy:AR S w0 y vs) (hS:∀b,S b→b<w0.heap.size) :
  Bj prog 49 #[.agg vs.toArray,I6 m,I6 x] w0 λr w=>(∃us,r=.agg us.toArray∧AR (λb=>S b∨w0.heap.size≤b) w (GL y m x) us)∧Ah w0 w:=by
 have ak:=hy;obtain ⟨sa,sc,aa,ac,rfl,_,_,_⟩:=hy.form;refine qR func49 rfl ntmps49 rfl (λE=>(AA (BC (v:=(.agg (R6 y sa sc aa ac))) (c:=(R6 y sa sc aa ac)) qD rfl rfl ?_)));intro br wr Nr;have Fr:=Nr.ge E;have E:=E.ext Nr.ext;have Br:=Nr.blk;refine BK (c:=#[(I6 0),(.slice none 0 0),(.slice none 0 0),(I6 0),(I6 0),(.bool false)]) qD A1 rfl ?_;intro bo wo No;have Fo:=No.ge E;have Oo_br:=No.lt Br;have Br:=No.keep Br;have E:=E.ext No.ext;have Bo:=No.blk;refine AB (AH (AA (qF br 0 0 rfl dI rfl Al rfl (qV (AJ rfl Ag (Br.cell rfl)) ?_))));obtain ⟨e1,ap⟩:∃e,(decide ((y.kind:Int)=0))=e:=⟨_,rfl⟩;refine qV ((Ai rfl rfl).trans (by rw[ap];try rfl)) (qM _ rfl (qG (.bool e1) (yU e1 (I6 m)) (by cases e1<;>first|exact gA|exact gB|exact .inl ⟨rfl,Am rfl⟩) ?_));obtain ⟨e2,ao⟩:∃e,(decide ((0:Int)<m))=e:=⟨_,rfl⟩;refine qG (.bool e1) (yU e1 (.bool e2)) (by cases e1<;>first|exact gA|exact gB|exact .inl ⟨rfl,(CN rfl rfl).trans (by rw[ao];try rfl)⟩) ?_;obtain ⟨e3,aq⟩:∃e,(e1 && e2)=e:=⟨_,rfl⟩;refine qV (Af (v:=.bool e3) rfl (by rw[←aq];cases e1<;>rfl)) (AB ?_);subst aq;subst ao;subst ap;have hob:w0.heap.size≤bo:=by have:=No.eq;have:=Nr.ext.size;omega
 refine A4 rfl (λg0=>?_) (λg0=>?_)
 ·have ax:=g0;have ad:GL y m x=y:=by unfold GL;simp at g0;rw[if_pos g0]
  have hR:AR S (wo) y _:=AR.ext E y ak;refine AA (qV (AI (vs:=(oJ y sa sc aa ac)) rfl Ad AG rfl (Br.cells rfl)) (Aa (b:=bo) (o:=0) (c':=(R6 y sa sc aa ac)) rfl rfl qS AG rfl Bo qL rfl ?_));intro w5 S5;have hR:=AR.chg S5.chg (λz hz h=>by have h2:z=bo:=h;have:=hS z hz;omega) y hR;have Br:=S5.keep qO Br;have E:=S5.step E (by first|exact dH qO|assumption|exact dG rfl|exact dG (by assumption)|exact dG qP|exact dG qO|exact dG (by dsimp only;omega));have Bo:=S5.blk;refine AB (AO (AK (A2 results49 (vs:=(oJ y sa sc aa ac)) (b:=bo) rfl Ad AG rfl (Bo.cells rfl) ?_)));exact ⟨⟨_,rfl,by rw[ad];exact AR.mono (λz hz=>.inl hz) y hR⟩,E⟩
 ·have ax:=g0;refine AM (AC (AH (AA (qF br 0 0 rfl dI rfl Al rfl (qV (AJ rfl Ag (Br.cell rfl)) ?_)))));obtain ⟨e6,am⟩:∃e,(decide ((y.kind:Int)≤1))=e:=⟨_,rfl⟩;refine qV ((ER rfl rfl).trans (by rw[am];try rfl)) (qM _ rfl (qG (.bool e6) (nU e6 (I6 x)) (by cases e6<;>first|exact gA|exact gB|exact .inl ⟨rfl,Am rfl⟩) ?_));obtain ⟨e7,ar⟩:∃e,(decide ((x:Int)=0))=e:=⟨_,rfl⟩;refine qG (.bool e6) (nU e6 (.bool e7)) (by cases e6<;>first|exact gA|exact gB|exact .inl ⟨rfl,(Ai rfl rfl).trans (by rw[ar];try rfl)⟩) ?_;obtain ⟨e8,au⟩:∃e,(e6 || e7)=e:=⟨_,rfl⟩;refine qV (Af (v:=.bool e8) rfl (by rw[←au];cases e6<;>rfl)) (AB ?_);subst au;subst ar;subst am;refine A4 rfl (λg1=>?_) (λg1=>?_)
  ·have aw:=g1;have ad:GL y m x=BT:=by unfold GL;simp at g0 g1;rw[if_neg qO,if_pos g1]
   refine AA (qE rfl (AS func48 kQ kQ rfl) (JK _) ?_);rintro _ w29 ⟨rfl,aj⟩;have Br:=aj.keep Br;have Bo:=aj.keep Bo;have E:=E.ext aj;refine Aa (b:=bo) (o:=0) (c':=#[(I6 1),(.slice none 0 0),(.slice none 0 0),(I6 0),(I6 0),(.bool false)]) rfl rfl qS AG rfl Bo qL rfl ?_;intro w10 al;have Br:=al.keep qO Br;have E:=al.step E (by first|exact dH qO|assumption|exact dG rfl|exact dG (by assumption)|exact dG qP|exact dG qO|exact dG (by dsimp only;omega));have Bo:=al.blk;refine AB (AO (AK (A2 results49 (vs:=[(I6 1),(.slice none 0 0),(.slice none 0 0),(I6 0),(I6 0),(.bool false)]) (b:=bo) rfl Ad AG rfl (Bo.cells rfl) ?_)));exact ⟨⟨_,rfl,by rw[ad];exact CF _ _ _⟩,E⟩
  ·have aw:=g1;refine AM (AC (AH (AA (qM _ rfl ?_))));obtain ⟨ab,ag⟩:∃e,(decide ((m:Int)=1))=e:=⟨_,rfl⟩;refine qV ((Ai rfl rfl).trans (by rw[ag];try rfl)) (qM _ rfl (qG (.bool ab) (yU ab (I6 x)) (by cases ab<;>first|exact gA|exact gB|exact .inl ⟨rfl,Am rfl⟩) ?_));obtain ⟨an,ae⟩:∃e,(decide ((x:Int)=1))=e:=⟨_,rfl⟩;refine qG (.bool ab) (yU ab (.bool an)) (by cases ab<;>first|exact gA|exact gB|exact .inl ⟨rfl,(Ai rfl rfl).trans (by rw[ae];try rfl)⟩) ?_;obtain ⟨av,ah⟩:∃e,(ab && an)=e:=⟨_,rfl⟩;refine qV (Af (v:=.bool av) rfl (by rw[←ah];cases ab<;>rfl)) (AB ?_);subst ah;subst ae;subst ag;refine A4 rfl (λg2=>?_) (λg2=>?_)
   ·have ay:=g2;have ad:GL y m x=y:=by unfold GL;simp at g0 g1 g2;rw[if_neg qO,if_neg qO,if_pos g2]
    have hR:AR S (wo) y _:=AR.ext E y ak;refine AA (qV (AI (vs:=(oJ y sa sc aa ac)) rfl Ad AG rfl (Br.cells rfl)) (Aa (b:=bo) (o:=0) (c':=(R6 y sa sc aa ac)) rfl rfl qS AG rfl Bo qL rfl ?_));intro w15 ai;have hR:=AR.chg ai.chg (λz hz h=>by have h2:z=bo:=h;have:=hS z hz;omega) y hR;have Br:=ai.keep qO Br;have E:=ai.step E (by first|exact dH qO|assumption|exact dG rfl|exact dG (by assumption)|exact dG qP|exact dG qO|exact dG (by dsimp only;omega));have Bo:=ai.blk;refine AB (AO (AK (A2 results49 (vs:=(oJ y sa sc aa ac)) (b:=bo) rfl Ad AG rfl (Bo.cells rfl) ?_)));exact ⟨⟨_,rfl,by rw[ad];exact AR.mono (λz hz=>.inl hz) y hR⟩,E⟩
   ·have ay:=g2;have ad:GL y m x=.mk 6 [] [y] m x false:=by unfold GL;simp at g0 g1 g2;rw[if_neg qO,if_neg qO,if_neg qO]
    have hR:AR S (wo) y _:=AR.ext E y ak;refine AM (AC (AA (qM _ rfl (qM _ rfl (qV (AI (vs:=(oJ y sa sc aa ac)) rfl Ad AG rfl (Br.cells rfl)) (Aw (ps:=[(0,(.agg (R6 y sa sc aa ac)))]) (c:=(R6 y sa sc aa ac)) qD rfl dJ AG A1 qD qD qK ?_))))));intro bq wq Nq;have Fq:=Nq.ge E;have Oq_br:=Nq.lt Br;have Oq_bo:=Nq.lt Bo;have Br:=Nq.keep Br;have Bo:=Nq.keep Bo;have hR:=AR.ext Nq.ext y hR;have E:=E.ext Nq.ext;have Bq:=Nq.blk;refine qV (B0 (ps:=[(0,(I6 6)),(3,(I6 m)),(4,(I6 x)),(2,(.slice (oI bq 0) 1 1))]) (v:=(.agg #[(I6 6),(.slice none 0 0),(.slice (oI bq 0) 1 1),(I6 m),(I6 x),(.bool false)])) rfl qK) (Aa (b:=bo) (o:=0) (c':=#[(I6 6),(.slice none 0 0),(.slice (oI bq 0) 1 1),(I6 m),(I6 x),(.bool false)]) rfl rfl qS AG rfl Bo qL rfl ?_);intro w16 af;have hR:=AR.chg af.chg (λz hz h=>by have h2:z=bo:=h;have:=hS z hz;omega) y hR;have Br:=af.keep qO Br;have Bq:=af.keep qO Bq;have E:=af.step E (by first|exact dH qO|assumption|exact dG rfl|exact dG (by assumption)|exact dG qP|exact dG qO|exact dG (by dsimp only;omega));have Bo:=af.blk;refine AB (AO (A2 results49 (vs:=[(I6 6),(.slice none 0 0),(.slice (oI bq 0) 1 1),(I6 m),(I6 x),(.bool false)]) (b:=bo) rfl Ad AG rfl (Bo.cells rfl) ?_));exact ⟨⟨_,rfl,by rw[ad];exact AR.of (set:=[]) (args:=[y]) (B_.nil _ _ _ _ _) qP (.inr ⟨bq,0,.inr qO,rfl,BM.one (Bq.cells rfl) (AR.mono (λz hz=>.inl hz) y hR)⟩)⟩,E⟩
def Mv (k:Int):Re:=if k=7 then BO else Ei
def Lv (k:Int):Re:=if k=7 then Ei else BO
def jo (N:Re) (acc:List Re) (p:Re):List Re:=if BU p N=true then acc else DI acc p
theorem S_ (N:Re):∀(l a:List Re),l.foldl (jo N) a=(ET (λb=>BU b N) l).foldl DI a
 | [],a=>rfl
 | p::l,a=>by
  have ih:=S_ N l (jo N a p);rw[f_,ih];unfold jo ET;by_cases h:BU p N=true
  .rw[if_pos h,mQ (by simp[h])]
  .rw[if_neg h,mR (by simp[h]),f_]
theorem TA:∀{l:List Re} {a x:Re},x∈DI l a->x=a∨x∈l
 | [],a,x,h=>by simpa[DI] using h
 | b::l,a,x,h=>by
  simp only[DI] at h;split at h
  .exact .inr h
  .split at h
   .rcases dZ.1 h with h|h
    .exact .inl h
    .exact .inr h
   .rcases dZ.1 h with h|h
    .exact .inr (by simp[h])
    .rcases TA h with h|h
     .exact .inl h
     .exact .inr (by simp[h])
theorem RY {N:Re}:∀{l a:List Re} {x:Re},x∈l.foldl (jo N) a->x∈a∨x∈l
 | [],a,x,h=>.inl h
 | p::l,a,x,h=>by
  rw[f_] at h;rcases RY h with h|h
  .unfold jo at h;split at h
   .exact .inl h
   .rcases TA h with h|h
    .exact .inr (by simp[h])
    .exact .inl h
  .exact .inr (by simp[h])
theorem RZ {N:Re}:∀(l a:List Re),(l.foldl (jo N) a).length<=a.length+l.length
 | [],a=>qP
 | p::l,a=>by
  have ih:=RZ (N:=N) l (jo N a p);have h:(jo N a p).length<=a.length+1:=by
   unfold jo;split
   .omega
   .exact TC
  rw[f_,d_];omega
theorem OA {k:Int} {l:List Re} (h:∀x∈l,Au x) (hz:Re.sizes l<=1000000):∀x∈BS k l,Au x∧x.size<=1000000:=by
 intro x b;refine ⟨QL h x b,?_⟩;obtain ⟨y,a,⟨_,c⟩|⟨_,rfl⟩⟩:=D7.1 b
 .have:=G6 a;have:=G6 c;have:=y.size_eq;omega
 .have:=G6 a;omega
theorem Rm {k:Int} {l:List Re} {i:Nat} {x:Re} (h:l[i]?=some x):BS k (l.take (i+1))=BS k (l.take i)++(if x.kind=k then x.args else [x]):=by
 unfold BS;rw[eK,h,kB];simp
theorem WC {k:Int} {l:List Re} {i:Nat} {x:Re} (h:x∈BS k (l.take i)):x∈BS k l:=by
 obtain ⟨y,b,a⟩:=D7.1 h;exact D7.2 ⟨y,gP b,a⟩
theorem YE {k:Int} {l:List Re} (h:(l.any λa=>BU a (Mv k))=false):Ko k l (Mv k) (Lv k)=CT k (Lv k) ((BS k l).foldl (jo (Lv k)) []):=by
 unfold Ko;rw[h,S_];rfl
theorem YF {k:Int} {N:Re} {ts:List Re} (a:∀x∈ts,Au x) (c:Re.sizes ts<=1000000) {i:Nat}:∀x∈(BS k (ts.take i)).foldl (jo N) [],Au x∧x.size<=1000000:=λx b=>by
 rcases RY b with h|h
 .cases h
 .exact OA a c x (WC h)
theorem RI {k:Int} {ts P:List Re} {x:Re} (b:∀x∈ts,Au x) (e:Re.sizes ts<=1000000) (c:x∈ts) (d:P=if x.kind=k then x.args else [x]):∀y∈P,Au y∧y.size<=1000000:=λy a=>by
 refine OA (k:=k) b e y (D7.2 ⟨x,c,?_⟩);rw[d] at a;split at a
 .rename_i h;exact .inl ⟨h,a⟩
 .rename_i h;exact .inr ⟨h,by simpa using a⟩
theorem ZO {w:World} {S:oD} {a:oE} {c:Nat} {l:List Re} {k:Int} (h:CE S w (.slice a l.length c) l):AR S w (.mk k [] l 0 0 false) [I6 k,.slice none 0 0,.slice a l.length c,I6 0,I6 0,.bool false]:=by
 obtain ⟨aa,ac,b,e,d⟩:=h;simp only[Value.slice.injEq,true_and] at b;obtain ⟨rfl,rfl⟩:=b;exact AR.of (set:=[]) (B_.nil _ _ _ _ _) e d
theorem SX (w0:World) (S:Nat→Prop) (k:Int) (v:Value) (ts:List Re) (h:CE S w0 v ts) (hS:∀b,S b→b<w0.heap.size) (hk:k=4∨k=7) (hok:∀x∈ts,Au x) (hsz:Re.sizes ts≤1000000) :
  Bj prog 47 #[I6 k,v] w0 λr w=>(∃us,r=.agg us.toArray∧AR (λb=>S b∨w0.heap.size≤b) w (Ko k ts (Mv k) (Lv k)) us)∧Ah w0 w:=by
 have h0:=h;obtain ⟨bt,av,rfl,hlc,_⟩:=h;have hls:=EC ts;refine qR func47 rfl ntmps47 rfl (λE=>(AA (BK (c:=#[(I6 0),(.slice none 0 0),(.slice none 0 0),(I6 0),(I6 0),(.bool false)]) qD A1 rfl ?_)));intro bo wo No;have Fo:=No.ge E;have E:=E.ext No.ext;have Bo:=No.blk;refine AB (AA (qE rfl (AS func82 kQ kQ rfl) (JI _) ?_));rintro _ w9 ⟨rfl,X9⟩;have Bo:=X9.keep Bo;have E:=E.ext X9;obtain ⟨T,hT⟩:∃T:Nat→Prop,T=λb=>S b∨(w0.heap.size≤b∧b≠bo):=⟨_,rfl⟩;have b9:w0.heap.size≤bo:=by have:=No.eq;omega
 have br:∀b,S b→T b:=λb hb=>by rw[hT];exact .inl hb
 have a3:∀b,T b→b≠bo:=λb hb e=>by rw[hT] at hb;rcases hb with h1|h1;have:=hS b h1;omega;exact h1.2 e
 have be:∀b,bo<b→T b:=λb hb=>by rw[hT];exact .inr ⟨qO,qO⟩
 have a7:∀b,T b→S b∨w0.heap.size≤b:=λb hb=>by rw[hT] at hb;exact hb.imp id (λh=>h.1)
 refine qE rfl (AS func83 kQ kQ rfl) (O5 _) ?_;rintro _ bw ⟨⟨za,zc,ya,yc,rfl,ab⟩,bd⟩;have Bo:=bd.keep Bo;have E:=E.ext bd;obtain ⟨n1,b3⟩:∃n,n=(bw).heap.size:=⟨_,rfl⟩;have hob:bo<w9.heap.size:=by have:=X9.size;have:=No.eq;have:=No.size;omega
 have hn9:w9.heap.size≤n1:=by rw[b3];exact bd.size
 have ab:=AR.mono (S':=λb=>T b∧b<n1) (λb hb=>⟨be b (by have:w9.heap.size≤b:=hb.1;omega),by rw[b3];exact hb.2⟩) _ (AR.lt _ ab);refine BK (c:=#[(I6 0),(.slice none 0 0),(.slice none 0 0),(I6 0),(I6 0),(.bool false)]) qD A1 rfl ?_;intro bp wp Np;have Fp:=Np.ge E;have Op_bo:=Np.lt Bo;have Bo:=Np.keep Bo;have ab:=AR.ext Np.ext _ ab;have E:=E.ext Np.ext;have Bp:=Np.blk;refine BK (c:=#[(I6 0),(.slice none 0 0),(.slice none 0 0),(I6 0),(I6 0),(.bool false)]) qD A1 rfl ?_;intro bq wq Nq;have Fq:=Nq.ge E;have Oq_bo:=Nq.lt Bo;have Oq_bp:=Nq.lt Bp;have Bo:=Nq.keep Bo;have Bp:=Nq.keep Bp;have ab:=AR.ext Nq.ext _ ab;have E:=E.ext Nq.ext;have Bq:=Nq.blk;refine Aa (b:=bp) (o:=0) (c':=#[(I6 0),(.slice none 0 0),(.slice none 0 0),(I6 0),(I6 0),(.bool false)]) rfl rfl qS AG rfl Bp qL rfl ?_;intro w1 S1;have ab:=AR.chg S1.chg (λb hb h=>by have h2:b=_:=h;have:=hb.2;have:=Np.eq;have:=Nq.eq;have:=Np.size;omega) _ ab;have Bo:=S1.keep qO Bo;have Bq:=S1.keep qO Bq;have E:=S1.step E (by first|exact dH qO|assumption|exact dG rfl|exact dG (by assumption)|exact dG qP|exact dG qO|exact dG (by dsimp only;omega));have Bp:=S1.blk;refine Aa (b:=bq) (o:=0) (c':=(R6 Ei za zc ya yc)) rfl rfl qS AG rfl Bq qL rfl ?_;intro w2 S2;have ab:=AR.chg S2.chg (λb hb h=>by have h2:b=_:=h;have:=hb.2;have:=Np.eq;have:=Nq.eq;have:=Np.size;omega) _ ab;have Bo:=S2.keep qO Bo;have Bp:=S2.keep qO Bp;have E:=S2.step E (by first|exact dH qO|assumption|exact dG rfl|exact dG (by assumption)|exact dG qP|exact dG qO|exact dG (by dsimp only;omega));have Bq:=S2.blk;refine AB (Gb (λσ W3=>∃(N G:Re) (na:oE) (nc:Nat) (nb:oE) (nd:Nat) (ga:oE) (gc:Nat) (gb:oE) (gd:Nat),(∃jj_,σ=BW jj_ [(0,(I6 k)),(1,(.slice bt ts.length av)),(4,(P6 bo 0)),(5,(P6 bp 0)),(6,(P6 bq 0))])∧Chg Aj w0 W3∧BV W3 bo #[(I6 0),(.slice none 0 0),(.slice none 0 0),(I6 0),(I6 0),(.bool false)] 25∧BV W3 bp ((R6 N na nc nb nd)) 25∧BV W3 bq ((R6 G ga gc gb gd)) 25∧(N=Lv k∧G=Mv k)∧(AR T W3 N (oJ N na nc nb nd))∧(AR T W3 G (oJ G ga gc gb gd))) ?_ ?_)
 ·skip
  refine AA (qM _ rfl (qV (Ai rfl rfl) (AB (qC rfl (λh7=>?_) (λh7=>?_)))))
  ·refine AN (qV (AI (vs:=(oJ Ei za zc ya yc)) rfl Ad AG rfl (Bq.cells rfl)) (qV (AI (vs:=[(I6 0),(.slice none 0 0),(.slice none 0 0),(I6 0),(I6 0),(.bool false)]) rfl Ad AG rfl (Bp.cells rfl)) (Aa (b:=bp) (o:=0) (c':=(R6 Ei za zc ya yc)) rfl rfl qS AG rfl Bp qL rfl ?_)));intro w5 S5;have ab:=AR.chg S5.chg (λb hb h=>by have h2:b=_:=h;have:=hb.2;have:=Np.eq;have:=Nq.eq;have:=Np.size;omega) _ ab;have Bo:=S5.keep qO Bo;have Bq:=S5.keep qO Bq;have E:=S5.step E (by first|exact dH qO|assumption|exact dG rfl|exact dG (by assumption)|exact dG qP|exact dG qO|exact dG (by dsimp only;omega));have Bp:=S5.blk;refine Aa (b:=bq) (o:=0) (c':=#[(I6 0),(.slice none 0 0),(.slice none 0 0),(I6 0),(I6 0),(.bool false)]) rfl rfl qS AG rfl Bq qL rfl ?_;intro w6 S6;have ab:=AR.chg S6.chg (λb hb h=>by have h2:b=_:=h;have:=hb.2;have:=Np.eq;have:=Nq.eq;have:=Np.size;omega) _ ab;have Bo:=S6.keep qO Bo;have Bp:=S6.keep qO Bp;have E:=S6.step E (by first|exact dH qO|assumption|exact dG rfl|exact dG (by assumption)|exact dG qP|exact dG qO|exact dG (by dsimp only;omega));have Bq:=S6.blk;refine AB (AC ?_);exact ⟨Ei,BO,za,zc,ya,yc,none,0,none,0,oH,E,Bo,Bp,Bq,⟨by unfold Lv;rw[if_pos h7],by unfold Mv;rw[if_pos h7]⟩,AR.mono (λb hb=>hb.1) _ ab,CF _ _ 0⟩
  ·refine AM (AC ?_);exact ⟨BO,Ei,none,0,none,0,za,zc,ya,yc,oH,E,Bo,Bp,Bq,⟨by unfold Lv;rw[if_neg h7],by unfold Mv;rw[if_neg h7]⟩,CF _ _ 0,AR.mono (λb hb=>hb.1) _ ab⟩
 ·clear E Bo Bp Bq;rintro _ W3 ⟨N,G,na,nc,nb,nd,ga,gc,gb,gd,⟨j3,rfl⟩,E,Bo,Bp,Bq,a6,hN,hG⟩;have cb:w0.heap.size≤bo∧bo<(W3).heap.size:=⟨b9,Bo.lt⟩;have E3:Chg Aj W3 W3:=Chg.refl _ _;refine AA (qA _ rfl (AB (AH (AA (qM _ rfl (qV (AT dJ rfl) (qM _ rfl (AB (AW (Ax (λnn_ σ W7=>∃(i:Nat) (Q:List Re) (oa:oE) (oc:Nat),(∃jj_,σ=BW jj_ [(0,(I6 k)),(4,(P6 bo 0)),(5,(P6 bp 0)),(6,(P6 bq 0)),(19,(.slice bt ts.length av)),(20,(I6 (ts.length:Int))),(21,(I6 (i:Int))),(7,(.slice oa Q.length oc))])∧Chg Aj w0 W7∧Chg Aj W3 W7∧BV W7 bo #[(I6 0),(.slice none 0 0),(.slice none 0 0),(I6 0),(I6 0),(.bool false)] 25∧BV W7 bp (R6 N na nc nb nd) 25∧BV W7 bq (R6 G ga gc gb gd) 25∧(i≤ts.length)∧(Q=(BS k (ts.take i)).foldl (jo N) [])∧(((ts.take i).any λa=>BU a G)=false)∧(CE T W7 (.slice oa Q.length oc) Q)∧nn_=ts.length - i) (n:=ts.length - 0) ?_ ?_))))))))))
  ·exact ⟨0,[],none,0,oH,E,E3,Bo,Bp,Bq,dR _,rfl,rfl,⟨none,0,rfl,qP,.inl rfl⟩,rfl⟩
  ·clear E E3 Bo Bp Bq;rintro _ _ W7 ⟨i,Q,oa,oc,⟨j7,rfl⟩,E,E3,Bo,Bp,Bq,hi,hQ,bi,af,rfl⟩;refine AA (qV (A6 rfl rfl) (AB (AH (qC rfl (λca=>?_) (λca=>?_)))))
   ·obtain ⟨x,hx⟩:=AU (l:=ts) (i:=i) qO;obtain ⟨b,o,rfl,a9⟩:=CE.cells h0 qO;obtain ⟨xs,bg,aw⟩:=a9 i x hx;have ad:=aw;obtain ⟨ak,aj,ai,ah,rfl,_,_,hxa⟩:=aw.form;have b6:=dK hx;have cg:=GO ad;have b0:=Rm (k:=k) hx;have hfl:=LE k ts (i+1);have ck:((BS k (ts.take i)).foldl (jo N) []).length≤(BS k (ts.take i)).length:=by simpa using RZ (N:=N) (BS k (ts.take i)) []
    have b4:=YF (k:=k) (N:=N) (i:=i) hok hsz;rw[←hQ] at ck b4;refine AM (AC (AH (AW (AA (qV (AL (b:=b) (o:=o) (len:=ts.length) (cap:=av) (i:=i) (o':=o+i*6) rfl rfl rfl dJ AG qO qO) (qV (AI rfl Ad AG rfl (bg.ext E)) (As (v:=(.agg (R6 x ak aj ai ah))) (c:=(R6 x ak aj ai ah)) (n:=6) qD A1 rfl AG rfl rfl rfl qS ?_)))))));intro bz wz Nz;have Fz:=Nz.ge E;have Fz_E3:=Nz.ge E3;have Oz_bo:=Nz.lt Bo;have Oz_bp:=Nz.lt Bp;have Oz_bq:=Nz.lt Bq;have Bo:=Nz.keep Bo;have Bp:=Nz.keep Bp;have Bq:=Nz.keep Bq;have af:=CE.ext af Nz.ext;have E:=E.ext Nz.ext;have Bz:=Nz.blk;have E3:=E3.ext Nz.ext;refine AB (AH (AA (qV (AI (vs:=(oJ x ak aj ai ah)) rfl Ad AG rfl (Bz.cells rfl)) (qV (AI (vs:=(oJ G ga gc gb gd)) rfl Ad AG rfl (Bq.cells rfl)) (qE rfl (AS func44 kQ kQ rfl) (JJ x.size x G _ _ _ (dU _) (AR.at x (AR.ext E x ad)) (AR.at G (AR.ext E3 G hG))) ?_)))));rintro _ w29 ⟨rfl,aq⟩;have Bo:=aq.keep Bo;have Bp:=aq.keep Bp;have Bq:=aq.keep Bq;have Bz:=aq.keep Bz;have af:=CE.ext af aq;have E:=E.ext aq;have E3:=E3.ext aq;refine AB (A4 rfl (λhs=>?_) (λhs=>?_))
    ·have co:=hs;have bj:=AR.ext E3 G hG;refine AA (qV (AI (vs:=(oJ G ga gc gb gd)) rfl Ad AG rfl (Bq.cells rfl)) (Aa (b:=bo) (o:=0) (c':=(R6 G ga gc gb gd)) rfl rfl qS AG rfl Bo qL rfl ?_));intro w10 ar;have bj:=AR.chg ar.chg (λb hb h=>a3 b hb h) G bj;have Bp:=ar.keep qO Bp;have Bq:=ar.keep qO Bq;have Bz:=ar.keep qO Bz;have E:=ar.step E (by first|exact dH qO|assumption|exact dG rfl|exact dG (by assumption)|exact dG qP|exact dG qO|exact dG (by dsimp only;omega));have Bo:=ar.blk;refine AB (AO (AK (Ac (AK (AK (Ac (AK (A2 results47 (vs:=(oJ G ga gc gb gd)) (b:=bo) rfl Ad AG rfl (Bo.cells rfl) (⟨⟨_,rfl,?_⟩,E⟩)))))))));unfold Ko;rw[if_pos (eX.2 ⟨x,b6,by rw[←a6.2];exact hs⟩),←a6.2];exact AR.mono a7 G bj
    ·have co:=hs;have a8:((ts.take (i+1)).any λa=>BU a G)=false:=by rw[eK,hx,kC,bi];simp[hs]
     refine AM (AC (AA (qV (AI (vs:=(oJ x ak aj ai ah)) rfl Ad AG rfl (Bz.cells rfl)) (Aw (ps:=[(0,(.agg (R6 x ak aj ai ah)))]) (c:=(R6 x ak aj ai ah)) qD rfl dJ AG A1 qD qD qK ?_))));intro bu wu Nu;have Fu:=Nu.ge E;have Fu_E3:=Nu.ge E3;have Ou_bo:=Nu.lt Bo;have Ou_bp:=Nu.lt Bp;have Ou_bq:=Nu.lt Bq;have Ou_bz:=Nu.lt Bz;have Bo:=Nu.keep Bo;have Bp:=Nu.keep Bp;have Bq:=Nu.keep Bq;have Bz:=Nu.keep Bz;have af:=CE.ext af Nu.ext;have E:=E.ext Nu.ext;have Bu:=Nu.blk;have E3:=E3.ext Nu.ext;refine qA _ rfl (AB (Gb (λσ ae=>∃(P:List Re) (pa:oE) (pc:Nat),(∃jj_,σ=BW jj_ [(0,(I6 k)),(4,(P6 bo 0)),(5,(P6 bp 0)),(6,(P6 bq 0)),(7,(.slice oa Q.length oc)),(19,(.slice (oI b o) ts.length av)),(20,(I6 (ts.length:Int))),(21,(I6 (i:Int))),(10,(.slice pa P.length pc))])∧Chg Aj w0 ae∧Chg Aj W3 ae∧BV ae bo #[(I6 0),(.slice none 0 0),(.slice none 0 0),(I6 0),(I6 0),(.bool false)] 25∧BV ae bp (R6 N na nc nb nd) 25∧BV ae bq (R6 G ga gc gb gd) 25∧BV ae bz (R6 x ak aj ai ah) 25∧BV ae bu (R6 x ak aj ai ah) 25∧(P=if x.kind=k then x.args else [x])∧(CE T ae (.slice pa P.length pc) P)∧(CE T ae (.slice oa Q.length oc) Q)) ?_ ?_))
     ·skip
      refine AA (qF bz 0 0 rfl dI rfl Al rfl (qV (AJ rfl Ag (Bz.cell rfl)) (qM _ rfl (qV (Ai rfl rfl) (AB (qC rfl (λbf=>?_) (λbf=>?_)))))))
      ·refine AN (qF bz 0 2 rfl dI rfl BF rfl (qV (AJ rfl A9 (Bz.cell rfl)) (qA _ rfl (AB (AC ?_)))));exact ⟨x.args,ai,ah,oH,E,E3,Bo,Bp,Bq,Bz,Bu,(by rw[if_pos bf]),IK br (CE.ext cg E),af⟩
      ·refine AM (AC ?_);exact ⟨[x],oI bu 0,1,oH,E,E3,Bo,Bp,Bq,Bz,Bu,(by rw[if_neg bf]),⟨_,_,rfl,qP,.inr ⟨bu,0,be _ qO,rfl,BM.one (Bu.cells rfl) (AR.mono br x (AR.ext E x ad))⟩⟩,af⟩
     ·clear E E3 Bo Bp Bq Bz Bu;rintro _ ae ⟨P,pa,pc,⟨j11,rfl⟩,E,E3,Bo,Bp,Bq,Bz,Bu,hP,cd,af⟩;have bk:=RI (k:=k) hok hsz b6 hP;have hPl:(BS k (ts.take (i+1))).length=(BS k (ts.take i)).length+P.length:=by rw[b0,dN,hP]
      have E4:Chg Aj ae ae:=Chg.refl _ _;refine AA (qM _ rfl (qV (AT dJ rfl) (qM _ rfl (AB (AW (Ax (λnn_ σ al=>∃(j:Nat) (R:List Re) (ra:oE) (rc:Nat),(∃jj_,σ=BW jj_ [(0,(I6 k)),(4,(P6 bo 0)),(5,(P6 bp 0)),(6,(P6 bq 0)),(19,(.slice (oI b o) ts.length av)),(20,(I6 (ts.length:Int))),(21,(I6 (i:Int))),(37,(.slice pa P.length pc)),(38,(I6 (P.length:Int))),(39,(I6 (j:Int))),(7,(.slice ra R.length rc))])∧Chg Aj w0 al∧Chg Aj W3 al∧Chg Aj ae al∧BV al bo #[(I6 0),(.slice none 0 0),(.slice none 0 0),(I6 0),(I6 0),(.bool false)] 25∧BV al bp (R6 N na nc nb nd) 25∧BV al bq (R6 G ga gc gb gd) 25∧(j≤P.length)∧(R=(P.take j).foldl (jo N) Q)∧(CE T al (.slice ra R.length rc) R)∧nn_=P.length - j) (n:=P.length - 0) ?_ ?_))))))
      ·exact ⟨0,Q,oa,oc,oH,E,E3,E4,Bo,Bp,Bq,dR _,rfl,af,rfl⟩
      ·clear E E3 E4 Bo Bp Bq;rintro _ _ al ⟨j,R,ra,rc,⟨j13,rfl⟩,E,E3,E4,Bo,Bp,Bq,hj,az,ao,rfl⟩;refine AA (qV (A6 rfl rfl) (AB (AH (qC rfl (λbh=>?_) (λbh=>?_)))))
       ·obtain ⟨y,hy⟩:=AU (l:=P) (i:=j) qO;obtain ⟨b2,o2,rfl,ba⟩:=CE.cells cd qO;obtain ⟨ys,cm,bv⟩:=ba j y hy;have ax:=bv;obtain ⟨a5,a1,a4,a2,rfl,_,_,_⟩:=bv.form;have b5:=dK hy;have ch:=RZ (N:=N) (P.take j) Q;rw[←az] at ch;have htl:(P.take j).length≤P.length:=by rw[gE];omega
        have b1:∀z∈R,Au z∧z.size≤1000000:=λz hz=>by rw[az] at hz;rcases RY hz with h|h;exact b4 z h;exact bk z (gP h)
        have bx:(P.take (j+1)).foldl (jo N) Q=jo N R y:=by rw[eK,hy,fL,hZ,←az];rfl
        refine AM (AC (AH (AW (AA (qV (AL (b:=b2) (o:=o2) (len:=P.length) (cap:=pc) (i:=j) (o':=o2+j*6) rfl rfl rfl dJ AG qO qO) (qV (AI rfl Ad AG rfl (cm.ext E4)) (As (v:=(.agg (R6 y a5 a1 a4 a2))) (c:=(R6 y a5 a1 a4 a2)) (n:=6) qD A1 rfl AG rfl rfl rfl qS ?_)))))));intro bs ws Ns;have Fs:=Ns.ge E;have Fs_E3:=Ns.ge E3;have Fs_E4:=Ns.ge E4;have Os_bo:=Ns.lt Bo;have Os_bp:=Ns.lt Bp;have Os_bq:=Ns.lt Bq;have Bo:=Ns.keep Bo;have Bp:=Ns.keep Bp;have Bq:=Ns.keep Bq;have ao:=CE.ext ao Ns.ext;have E:=E.ext Ns.ext;have Bs:=Ns.blk;have E3:=E3.ext Ns.ext;have E4:=E4.ext Ns.ext;refine AB (AA (qV (AI (vs:=(oJ y a5 a1 a4 a2)) rfl Ad AG rfl (Bs.cells rfl)) (qV (AI (vs:=(oJ N na nc nb nd)) rfl Ad AG rfl (Bp.cells rfl)) (qE rfl (AS func44 kQ kQ rfl) (JJ y.size y N _ _ _ (dU _) (AR.at y (AR.ext E4 y ax)) (AR.at N (AR.ext E3 N hN))) ?_))));rintro _ b7 ⟨rfl,am⟩;have Bo:=am.keep Bo;have Bp:=am.keep Bp;have Bq:=am.keep Bq;have Bs:=am.keep Bs;have ao:=CE.ext ao am;have E:=E.ext am;have E3:=E3.ext am;have E4:=E4.ext am;refine qV (C1 rfl) (AB (A4 rfl (λag=>?_) (λag=>?_)))
        ·have bm:=ag;have ag:=by simpa using ag
         have an:BU y N=false:=by simpa using ag
         refine AN (qM _ rfl (qV (AI (vs:=(oJ y a5 a1 a4 a2)) rfl Ad AG rfl (Bs.cells rfl)) ?_));have bc:=CE.lt ao;have hbw:bo<(b7).heap.size:=Bo.lt;refine qE rfl (AS func84 kQ kQ rfl) (Rf _ _ _ R y _ bc (AR.lt y (AR.ext E4 y ax)) (λb hb=>hb.2) qO (λz hz=>OK (b1 z hz).1 (b1 z hz).2) (OK (bk y b5).1 (bk y b5).2)) ?_;rintro _ w49 ⟨⟨ia,ic,rfl,hI⟩,ap⟩;have Bo:=ap.keep Bo;have Bp:=ap.keep Bp;have Bq:=ap.keep Bq;have Bs:=ap.keep Bs;have E:=E.ext ap;have E3:=E3.ext ap;have E4:=E4.ext ap;refine qA _ rfl (AB (AV (AC (AN (qV (A0 rfl rfl (A8 qO)) (qM _ rfl (AB (AC ?_))))))));exact ⟨P.length - (j+1),qO,j+1,DI R y,ia,ic,oH,E,E3,E4,Bo,Bp,Bq,qO,(by rw[bx];unfold jo;rw[if_neg (by rw[an];decide)]),IK (λb hb=>by rcases hb with h1|h1;exact h1.1;exact be b qO) hI,rfl⟩
        ·have bm:=ag;have ag:=by simpa using ag
         have an:BU y N=true:=by simpa using ag
         refine AM (AV (AC (AN (qV (A0 rfl rfl (A8 qO)) (qM _ rfl (AB (AC ?_)))))));exact ⟨P.length - (j+1),qO,j+1,R,ra,rc,oH,E,E3,E4,Bo,Bp,Bq,qO,(by rw[bx];unfold jo;rw[if_pos an]),ao,rfl⟩
       ·have cn:j=P.length:=qO
        rw[cn,eE] at az;refine Av (AZ (AZ (Ao (AV (AC (AN (qV (A0 rfl rfl (A8 qO)) (qM _ rfl (AB (AC ?_))))))))));exact ⟨ts.length - (i+1),qO,i+1,R,ra,rc,oH,E,E3,Bo,Bp,Bq,qO,(by rw[b0,hZ,←hP,←hQ,az]),a8,ao,rfl⟩
   ·have cf:i=ts.length:=qO
    rw[cf,eE] at hQ bi;have b8:Ko k ts (Mv k) (Lv k)=CT k N Q:=by rw[YE (by rw[←a6.2];exact bi),←a6.1,hQ]
    rw[b8];obtain ⟨ce,cl,ci⟩:=HS k N Q;refine Av (AZ (AZ (Ao (AC (AH (AA (qM _ rfl (qV (AT dJ rfl) (qV (Ai rfl rfl) (AB (qC rfl (λcc=>?_) (λcc=>?_))))))))))))
    ·have bb:=AR.ext E3 N hN;refine AA (qV (AI (vs:=(oJ N na nc nb nd)) rfl Ad AG rfl (Bp.cells rfl)) (Aa (b:=bo) (o:=0) (c':=(R6 N na nc nb nd)) rfl rfl qS AG rfl Bo qL rfl ?_));intro w17 ay;have bb:=AR.chg ay.chg (λb hb h=>a3 b hb h) N bb;have Bp:=ay.keep qO Bp;have Bq:=ay.keep qO Bq;have E:=ay.step E (by first|exact dH qO|assumption|exact dG rfl|exact dG (by assumption)|exact dG qP|exact dG qO|exact dG (by dsimp only;omega));have Bo:=ay.blk;refine AB (AO (AK (A2 results47 (vs:=(oJ N na nc nb nd)) (b:=bo) rfl Ad AG rfl (Bo.cells rfl) ?_)));exact ⟨⟨_,rfl,by rw[ce qO];exact AR.mono a7 N bb⟩,E⟩
    ·refine AM (AC (AH (AA (qM _ rfl (qV (AT dJ rfl) (qV (Ai rfl rfl) (AB (qC rfl (λcj=>?_) (λcj=>?_)))))))))
     ·obtain ⟨x,hx⟩:=AU (l:=Q) (i:=0) qO;obtain ⟨lb,lo,rfl,a9⟩:=CE.cells af qO;obtain ⟨xs,bg,aw⟩:=a9 0 x hx;have ad:=aw;obtain ⟨sa,sc,aa,ac,rfl,_,_,_⟩:=aw.form;refine AA (qM _ rfl (qV (AL (b:=lb) (o:=lo) (len:=Q.length) (cap:=oc) (i:=0) (o':=lo+0*6) rfl rfl rfl dJ AG qO qO) (qV (AI rfl Ad AG rfl (bg)) (Aa (b:=bo) (o:=0) (c':=(R6 x sa sc aa ac)) rfl rfl qS AG rfl Bo qL rfl ?_))));intro bw a0;have ad:=AR.chg a0.chg (λb hb h=>a3 b hb h) x ad;have Bp:=a0.keep qO Bp;have Bq:=a0.keep qO Bq;have E:=a0.step E (by first|exact dH qO|assumption|exact dG rfl|exact dG (by assumption)|exact dG qP|exact dG qO|exact dG (by dsimp only;omega));have Bo:=a0.blk;refine AB (AO (AK (A2 results47 (vs:=(oJ x sa sc aa ac)) (b:=bo) rfl Ad AG rfl (Bo.cells rfl) ?_)));exact ⟨⟨_,rfl,by rw[cl x qO hx];exact AR.mono a7 x ad⟩,E⟩
     ·have bn:=ZO (k:=k) af;refine AM (AC (AA (qM _ rfl (qM _ rfl (qV (B0 (ps:=[(0,(I6 k)),(2,(.slice oa Q.length oc))]) (v:=(.agg #[(I6 k),(.slice none 0 0),(.slice oa Q.length oc),(I6 0),(I6 0),(.bool false)])) rfl qK) (Aa (b:=bo) (o:=0) (c':=#[(I6 k),(.slice none 0 0),(.slice oa Q.length oc),(I6 0),(I6 0),(.bool false)]) rfl rfl qS AG rfl Bo qL rfl ?_))))));intro w20 au;have bn:=AR.chg au.chg (λb hb h=>a3 b hb h) _ bn;have Bp:=au.keep qO Bp;have Bq:=au.keep qO Bq;have E:=au.step E (by first|exact dH qO|assumption|exact dG rfl|exact dG (by assumption)|exact dG qP|exact dG qO|exact dG (by dsimp only;omega));have Bo:=au.blk;refine AB (AO (A2 results47 (vs:=[(I6 k),(.slice none 0 0),(.slice oa Q.length oc),(I6 0),(I6 0),(.bool false)]) (b:=bo) rfl Ad AG rfl (Bo.cells rfl) ?_));exact ⟨⟨_,rfl,by rw[ci qO];exact AR.mono a7 _ bn⟩,E⟩
theorem P0 {k:Int} {s:List (Int×Int)} {a:List Re} {m x:Int} {g:Bool} (h:PreN k s a m x g):(C5 k s a m x g).size<=Re.sizes a+2:=by
 by_cases h7:k=7∧a=[]
 ·obtain ⟨rfl,rfl⟩:=h7;have:C5 7 s [] m x g=Ei:=by unfold C5;rw[if_neg qD,if_neg qD,if_pos rfl];simp[Gw,BS,ET,EO,Ey,CT]
  rw[this];exact dU 2
 ·have:=GI (k:=k) (s:=s) (a:=a) (m:=m) (x:=x) (g:=g) (λe h9=>h7 ⟨e,h9⟩) (λe h9=>by have:=h.one qO;rw[h9] at this;simp at this);omega
mutual
theorem VR:∀{t:Re},IB t->(CR t).size<=2*t.size
 | .mk k s a m x g,h=>by
  have h1:=J_ h.2;have h2:=P0 (h.1.len (b:=DF a) (by rw[DR,dW]));simp only[CR,Re.size];omega
theorem J_:∀{ts:List Re},IA ts->Re.sizes (DF ts)<=2*Re.sizes ts
 | [],_=>by simp[DF,Re.sizes]
 | t::ts,h=>by
  have h1:=VR h.1;have h2:=J_ h.2;simp only[DF,Re.sizes];omega
end
section
variable {r : Re} {y : Re}
theorem cY (hp:PreN r.kind r.set r.args r.mn r.mx r.neg) (a:∀y∈r.args,Au y) (h:r.kind=3):DS r=R8 r.args:=by rw[cP h,Yh a]
theorem aH (hp:PreN r.kind r.set r.args r.mn r.mx r.neg) (b:∀y∈r.args,Au y) (h:r.kind=4∨r.kind=7):DS r=Ko r.kind r.args (Mv r.kind) (Lv r.kind):=by
 rcases h with h|h
 .rw[cO h];unfold Mv Lv;rw[if_neg qO,if_neg qO];exact (QC b (λx a=>MA a) (λx a=>Kp a)).symm
 .rw[cM h];unfold Mv Lv;rw[if_pos h,if_pos h];exact (QC b (λx a=>Kp a) (λx a=>MA a)).symm
theorem bX (hp:PreN r.kind r.set r.args r.mn r.mx r.neg) (a:r.args[0]?=some y) (b:Au y) (h:r.kind=5) (h1:y.kind<=1):DS r=BT:=by
 have:=b.n.ks;rw[bH h (DJ a),if_pos qO]
theorem bW (a:r.args[0]?=some y) (h:r.kind=5) (h1:¬y.kind<=1) (b:y.kind=5):DS r=y:=by
 rw[bH h (DJ a),if_neg qO,if_pos b]
theorem bV (a:r.args[0]?=some y) (h:r.kind=5) (h1:¬y.kind<=1) (b:¬y.kind=5):DS r=r:=by
 rw[bH h (DJ a),if_neg qO,if_neg b]
theorem cX (b:PreN r.kind r.set r.args r.mn r.mx r.neg) (e:r.args[0]?=some y) (o:Au y) (h:r.kind=6):DS r=GL y r.mn r.mx:=by
 have h1:=o.n.ks;have h2:=b.rep h;have f:=b.st qO;have l:=b.ng;have q:=b.one qO;have j:r.args=[y]:=QF q e;rw[cN h (DJ e)];unfold GL;by_cases i:r.mx=0∨y.kind=1∨(y.kind=0∧r.mn=0)
 .rw[if_pos i,if_neg qO,if_pos qO]
 .rw[if_neg i];by_cases p:y.kind=0
  .rw[if_pos (.inl p),if_pos qO]
  .rw[if_neg (c:=y.kind=0∧0<r.mn) qO,if_neg (c:=y.kind<=1∨r.mx=0) qO];by_cases d:r.mn=1∧r.mx=1
   .rw[if_pos (.inr d),if_pos d]
   .rw[if_neg qO,if_neg d];cases r with
    | mk k s a m x g=>
     simp only[Re.kind,Re.set,Re.args,Re.mn,Re.mx,Re.neg] at h f l j⊢;rw[h,f,l,j]
theorem bU {z:Re} (a:r.args[0]?=some y) (h:r.kind=8) (c:y.kind=8) (b:y.args[0]?=some z):DS r=z:=by
 rw[cC h (DJ a),if_pos c,DJ b]
theorem bT (a:r.args[0]?=some y) (h:r.kind=8) (b:¬y.kind=8):DS r=r:=by
 rw[cC h (DJ a),if_neg b]
end
theorem Jz:∀(n:Nat) (t:Re) (w0:World) (vs:n_) (S:Nat→Prop),t.size≤n→t.size≤400000→IB t→AR S w0 t vs→(∀b,S b→b<w0.heap.size)→
    Bj prog 13 #[.agg vs.toArray] w0 λv w=>(∃us,v=.agg us.toArray∧AR (λb=>S b∨w0.heap.size≤b) w (CR t) us)∧Ah w0 w:=by
  intro n
  induction n with
  | zero=>intro t w0 vs S hn;have:=t.size_pos;omega
  | succ n ih=>
  intro t w0 vs S hn hM bk ht hS;have ce:=ht;obtain ⟨sa,sc,aa,ac,rfl,cc,hac,hta⟩:=ht.form;obtain ⟨r0,be⟩:∃r0,r0=Re.mk t.kind t.set (t.args.map CR) t.mn t.mx t.neg:=⟨_,rfl⟩;obtain ⟨N,b1⟩:∃N,N=CR t:=⟨_,rfl⟩;have hN:DS r0=N:=by rw[b1,be,Sa];rfl
  rw[←b1];have aq:PreN r0.kind r0.set r0.args r0.mn r0.mx r0.neg:=by rw[be];exact bk.n.len (by simp only[Re.args];rw[dW])
  have ao:∀y∈r0.args,Au y:=by rw[be];intro y hy;obtain ⟨x,hx,rfl⟩:=eU.1 hy;exact So (bk.a x hx)
  have bm:Re.sizes r0.args≤1000000:=by
    have h1:=J_ (J9.2 bk.a);rw[DR] at h1;have:=t.size_eq;rw[be];show Re.sizes (t.args.map CR)≤1000000;omega
  refine qR func13 rfl ntmps13 rfl (λE=>(AA (BC (v:=(.agg (R6 t sa sc aa ac))) (c:=(R6 t sa sc aa ac)) qD rfl rfl ?_)));intro br wr Nr;have Fr:=Nr.ge E;have E:=E.ext Nr.ext;have Br:=Nr.blk;refine BK (c:=#[(I6 0),(.slice none 0 0),(.slice none 0 0),(I6 0),(I6 0),(.bool false)]) qD A1 rfl ?_;intro bo wo No;have Fo:=No.ge E;have Oo_br:=No.lt Br;have Br:=No.keep Br;have E:=E.ext No.ext;have Bo:=No.blk;refine AB (AA (qV (AI (vs:=(oJ t sa sc aa ac)) rfl Ad AG rfl (Br.cells rfl)) ?_));obtain ⟨n1,bg⟩:∃n1,n1=wo.heap.size:=⟨_,rfl⟩;have hz1:w0.heap.size≤n1:=by rw[bg];exact E.size
  have hbo:bo<n1:=by rw[bg];exact Bo.lt
  have hbr:br<n1:=by rw[bg];exact Br.lt
  have af:∀y,S y∨n1≤y→¬y=br∧¬y=bo:=λy hy=>by rcases hy with h|h;have:=hS y h;omega;omega
  have ap:∀y,S y∨n1≤y→S y∨w0.heap.size≤y:=λy hy=>hy.imp id (λh=>qO);refine qE rfl (AS func45 kQ kQ rfl) ((P4 _ S t _ _ CR (AR.ext E t ce) (λy hy=>by have:=hS y hy;omega) qO (λw x xs hE hx h=>CG.mk (first:=#[]) (cap:=#[]) func13 kQ kQ rfl (by obtain ⟨i,hi⟩:=eS.1 hx;exact (ih x w xs S (by have:=Re.size_arg hi;omega) (by have:=Re.size_arg hi;omega) (bk.a x hx) h (λy hy=>by have:=hS y hy;have:=hE.size;omega)).mono λv w h=>by obtain ⟨⟨us,h1,h2⟩,h3⟩:=h;exact ⟨us,h1,h2,h3⟩)))) ?_;rintro _ w9 ⟨us9,rfl,ab,X9⟩;have Br:=X9.keep Br;have Bo:=X9.keep Bo;have E:=E.ext X9;rw[←bg,←be] at ab;obtain ⟨ka,kc,bj,ai,bp,_,_,bs⟩:=ab.form;subst bp;have ad:n1≤w9.heap.size:=by rw[bg];exact X9.size
  refine Aa (b:=br) (o:=0) (c':=(R6 r0 ka kc bj ai)) rfl rfl qS AG rfl Br qL rfl ?_;intro w1 S1;have ab:=AR.chg S1.chg (λy hy h=>by have h2:y=_:=h;first|exact (af y hy).1 h2|exact (af y hy).2 h2) r0 ab;have ad:=dL ad S1.chg.size;have Bo:=S1.keep qO Bo;have E:=S1.step E (by first|exact dH qO|assumption|exact dG rfl|exact dG (by assumption)|exact dG qP|exact dG qO|exact dG (by dsimp only;omega));have Br:=S1.blk;refine AB (AH (AA (qF br 0 0 rfl dI rfl Al rfl (qV (AJ rfl Ag (Br.cell rfl)) (AB (AW (AA (qV (Ai rfl rfl) (qA _ rfl (AB (qC rfl (λh3=>?_) (λh3=>?_))))))))))))
  · have ag:=cY aq ao h3;rw[hN] at ag;refine AA (qF br 0 2 rfl dI rfl BF rfl (qV (AJ rfl A9 (Br.cell rfl)) ?_));have al:=CE.lt (GO ab);refine qE rfl (AS func46 kQ kQ rfl) ((ZK _ _ _ r0.args al (λb hb=>hb.2) ao bm).mono (R':=λr w=>DQ (λb=>S b∨n1≤b) N r w∧Ah _ w) (λr w h=>by obtain ⟨⟨us,h1,h2⟩,h3⟩:=h;rw[←ag] at h2;exact ⟨CI (λb hb=>by rcases hb with hb|hb;exact hb.1;exact .inr qO) ⟨us,h1,h2⟩,h3⟩)) ?_;rintro _ bq ⟨⟨xa,xc,ya,yc,rfl,ah⟩,aj⟩;have Br:=aj.keep Br;have Bo:=aj.keep Bo;have ad:=dL ad aj.size;have ab:=AR.ext aj r0 ab;have E:=E.ext aj;refine Aa (b:=bo) (o:=0) (c':=(R6 N xa xc ya yc)) rfl rfl qS AG rfl Bo qL rfl ?_;intro w3 S3;have ab:=AR.chg S3.chg (λy hy h=>by have h2:y=_:=h;first|exact (af y hy).1 h2|exact (af y hy).2 h2) r0 ab;have ad:=dL ad S3.chg.size;have ah:=AR.chg S3.chg (λb hb h=>(af b hb).2 h) N ah;have Br:=S3.keep qO Br;have E:=S3.step E (by first|exact dH qO|assumption|exact dG rfl|exact dG (by assumption)|exact dG qP|exact dG qO|exact dG (by dsimp only;omega));have Bo:=S3.blk;refine AB (AO (Ac (AK (A2 jL (vs:=(oJ N xa xc ya yc)) (b:=bo) rfl Ad AG rfl (Bo.cells rfl) ?_))));exact ⟨⟨_,rfl,AR.mono ap _ ah⟩,E⟩
  · refine AH (AA (qV (Ai rfl rfl) (qA _ rfl (AB (qC rfl (λh4=>?_) (λh4=>?_))))))
    · have bx:=decide_eq_true h4;have ag:=aH aq ao qO;rw[hN] at ag;refine AM (AC (Aq (Ar bx) (AA (qF br 0 0 rfl dI rfl Al rfl (qV (AJ rfl Ag (Br.cell rfl)) (qF br 0 2 rfl dI rfl BF rfl (qV (AJ rfl A9 (Br.cell rfl)) ?_)))))));have al:=CE.lt (GO ab);refine qE rfl (AS func47 kQ kQ rfl) ((SX _ _ _ _ r0.args al (λb hb=>hb.2) qO ao bm).mono (R':=λr w=>DQ (λb=>S b∨n1≤b) N r w∧Ah _ w) (λr w h=>by obtain ⟨⟨us,h1,h2⟩,h3⟩:=h;rw[←ag] at h2;exact ⟨CI (λb hb=>by rcases hb with hb|hb;exact hb.1;exact .inr qO) ⟨us,h1,h2⟩,h3⟩)) ?_;rintro _ bq ⟨⟨xa,xc,ya,yc,rfl,ah⟩,aj⟩;have Br:=aj.keep Br;have Bo:=aj.keep Bo;have ad:=dL ad aj.size;have ab:=AR.ext aj r0 ab;have E:=E.ext aj;refine Aa (b:=bo) (o:=0) (c':=(R6 N xa xc ya yc)) rfl rfl qS AG rfl Bo qL rfl ?_;intro w5 S5;have ab:=AR.chg S5.chg (λy hy h=>by have h2:y=_:=h;first|exact (af y hy).1 h2|exact (af y hy).2 h2) r0 ab;have ad:=dL ad S5.chg.size;have ah:=AR.chg S5.chg (λb hb h=>(af b hb).2 h) N ah;have Br:=S5.keep qO Br;have E:=S5.step E (by first|exact dH qO|assumption|exact dG rfl|exact dG (by assumption)|exact dG qP|exact dG qO|exact dG (by dsimp only;omega));have Bo:=S5.blk;refine AB (AO (Ac (AK (A2 jL (vs:=(oJ N xa xc ya yc)) (b:=bo) rfl Ad AG rfl (Bo.cells rfl) ?_))));exact ⟨⟨_,rfl,AR.mono ap _ ah⟩,E⟩
    · have bx:=decide_eq_false h4;refine AN (qV (Ai rfl rfl) (qA _ rfl (AB (AC (qC rfl (λh7=>?_) (λh7=>?_))))))
      · have ag:=aH aq ao qO;rw[hN] at ag;refine AA (qF br 0 0 rfl dI rfl Al rfl (qV (AJ rfl Ag (Br.cell rfl)) (qF br 0 2 rfl dI rfl BF rfl (qV (AJ rfl A9 (Br.cell rfl)) ?_))));have al:=CE.lt (GO ab);refine qE rfl (AS func47 kQ kQ rfl) ((SX _ _ _ _ r0.args al (λb hb=>hb.2) qO ao bm).mono (R':=λr w=>DQ (λb=>S b∨n1≤b) N r w∧Ah _ w) (λr w h=>by obtain ⟨⟨us,h1,h2⟩,h3⟩:=h;rw[←ag] at h2;exact ⟨CI (λb hb=>by rcases hb with hb|hb;exact hb.1;exact .inr qO) ⟨us,h1,h2⟩,h3⟩)) ?_;rintro _ bq ⟨⟨xa,xc,ya,yc,rfl,ah⟩,aj⟩;have Br:=aj.keep Br;have Bo:=aj.keep Bo;have ad:=dL ad aj.size;have ab:=AR.ext aj r0 ab;have E:=E.ext aj;refine Aa (b:=bo) (o:=0) (c':=(R6 N xa xc ya yc)) rfl rfl qS AG rfl Bo qL rfl ?_;intro w7 S7;have ab:=AR.chg S7.chg (λy hy h=>by have h2:y=_:=h;first|exact (af y hy).1 h2|exact (af y hy).2 h2) r0 ab;have ad:=dL ad S7.chg.size;have ah:=AR.chg S7.chg (λb hb h=>(af b hb).2 h) N ah;have Br:=S7.keep qO Br;have E:=S7.step E (by first|exact dH qO|assumption|exact dG rfl|exact dG (by assumption)|exact dG qP|exact dG qO|exact dG (by dsimp only;omega));have Bo:=S7.blk;refine AB (AO (Ac (AK (A2 jL (vs:=(oJ N xa xc ya yc)) (b:=bo) rfl Ad AG rfl (Bo.cells rfl) ?_))));exact ⟨⟨_,rfl,AR.mono ap _ ah⟩,E⟩
      · refine AA (qV (Ai rfl rfl) (qA _ rfl (AB (qC rfl (λh5=>?_) (λh5=>?_)))))
        · have bh:=aq.one qO;obtain ⟨y,hy⟩:=AU (l:=r0.args) (i:=0) qO;have a7:=ao y (dK hy);obtain ⟨yb,yo,rfl,am⟩:=CE.cells (GO ab) qO;obtain ⟨ys,av,au⟩:=am 0 y hy;have ak:=au;obtain ⟨az,ax,ay,ar,rfl,_,_,bv⟩:=au.form;refine AH (AA (qF br 0 2 rfl dI rfl BF rfl (qV (AJ rfl A9 (Br.cell rfl)) (qV (AL (b:=yb) (o:=yo) (len:=r0.args.length) (cap:=ai) (i:=0) (o':=yo+0*6) rfl rfl rfl dJ AG qO qO) (qF _ _ _ rfl dI rfl Al rfl (qV (AJ rfl Ag (av.at0)) (qV (ER rfl rfl) (AB (qC rfl (λc1=>?_) (λc1=>?_))))))))))
          · have ag:=bX aq hy a7 h5 c1;rw[hN] at ag;refine AA (qE rfl (AS func48 kQ kQ rfl) (JK _) ?_);rintro _ w29 ⟨rfl,bf⟩;have Br:=bf.keep Br;have Bo:=bf.keep Bo;have ad:=dL ad bf.size;have ab:=AR.ext bf r0 ab;have E:=E.ext bf;refine Aa (b:=bo) (o:=0) (c':=#[(I6 1),(.slice none 0 0),(.slice none 0 0),(I6 0),(I6 0),(.bool false)]) rfl rfl qS AG rfl Bo qL rfl ?_;intro w10 bd;have ab:=AR.chg bd.chg (λy hy h=>by have h2:y=_:=h;first|exact (af y hy).1 h2|exact (af y hy).2 h2) r0 ab;have ad:=dL ad bd.chg.size;have Br:=bd.keep qO Br;have E:=bd.step E (by first|exact dH qO|assumption|exact dG rfl|exact dG (by assumption)|exact dG qP|exact dG qO|exact dG (by dsimp only;omega));have Bo:=bd.blk;refine AB (AO (AK (Ac (AK (A2 jL (vs:=[(I6 1),(.slice none 0 0),(.slice none 0 0),(I6 0),(I6 0),(.bool false)]) (b:=bo) rfl Ad AG rfl (Bo.cells rfl) ?_)))));exact ⟨⟨_,rfl,by rw[ag];exact CF _ _ _⟩,E⟩
          · refine AM (AC (AA (qF br 0 2 rfl dI rfl BF rfl (qV (AJ rfl A9 (Br.cell rfl)) (qV (AL (b:=yb) (o:=yo) (len:=r0.args.length) (cap:=ai) (i:=0) (o':=yo+0*6) rfl rfl rfl dJ AG qO qO) (qF _ _ _ rfl dI rfl Al rfl (qV (AJ rfl Ag (av.at0)) (qV (Ai rfl rfl) (AB (qC rfl (λc5=>?_) (λc5=>?_)))))))))))
            · have ag:=bW hy h5 c1 c5;rw[hN] at ag;refine AA (qF br 0 2 rfl dI rfl BF rfl (qV (AJ rfl A9 (Br.cell rfl)) (qV (AL (b:=yb) (o:=yo) (len:=r0.args.length) (cap:=ai) (i:=0) (o':=yo+0*6) rfl rfl rfl dJ AG qO qO) (qV (AI rfl Ad AG rfl (av)) (Aa (b:=bo) (o:=0) (c':=(R6 y az ax ay ar)) rfl rfl qS AG rfl Bo qL rfl ?_)))));intro w12 a8;have ab:=AR.chg a8.chg (λy hy h=>by have h2:y=_:=h;first|exact (af y hy).1 h2|exact (af y hy).2 h2) r0 ab;have ad:=dL ad a8.chg.size;have ak:=AR.chg a8.chg (λb hb h=>(af b hb).2 h) y ak;have Br:=a8.keep qO Br;have E:=a8.step E (by first|exact dH qO|assumption|exact dG rfl|exact dG (by assumption)|exact dG qP|exact dG qO|exact dG (by dsimp only;omega));have Bo:=a8.blk;refine AB (AO (Ac (AK (A2 jL (vs:=(oJ y az ax ay ar)) (b:=bo) rfl Ad AG rfl (Bo.cells rfl) ?_))));exact ⟨⟨_,rfl,by rw[ag];exact AR.mono ap _ ak⟩,E⟩
            · have ag:=bV hy h5 c1 c5;rw[hN] at ag;have an:=ab;refine AM (AV (AC (AA (qV (AI (vs:=(oJ r0 ka kc (oI yb yo) ai)) rfl Ad AG rfl (Br.cells rfl)) (Aa (b:=bo) (o:=0) (c':=(R6 r0 ka kc (oI yb yo) ai)) rfl rfl qS AG rfl Bo qL rfl ?_)))));intro w13 a6;have ab:=AR.chg a6.chg (λy hy h=>by have h2:y=_:=h;first|exact (af y hy).1 h2|exact (af y hy).2 h2) r0 ab;have ad:=dL ad a6.chg.size;have an:=AR.chg a6.chg (λb hb h=>(af b hb).2 h) r0 an;have Br:=a6.keep qO Br;have E:=a6.step E (by first|exact dH qO|assumption|exact dG rfl|exact dG (by assumption)|exact dG qP|exact dG qO|exact dG (by dsimp only;omega));have Bo:=a6.blk;refine AB (AO (A2 jL (vs:=(oJ r0 ka kc (oI yb yo) ai)) (b:=bo) rfl Ad AG rfl (Bo.cells rfl) ?_));exact ⟨⟨_,rfl,by rw[ag];exact AR.mono ap _ an⟩,E⟩
        · refine AA (qV (Ai rfl rfl) (qA _ rfl (AB (qC rfl (λh6=>?_) (λh6=>?_)))))
          · have bh:=aq.one qO;obtain ⟨y,hy⟩:=AU (l:=r0.args) (i:=0) qO;have a7:=ao y (dK hy);obtain ⟨yb,yo,rfl,am⟩:=CE.cells (GO ab) qO;obtain ⟨ys,av,au⟩:=am 0 y hy;have ak:=au;obtain ⟨az,ax,ay,ar,rfl,_,_,bv⟩:=au.form;have ag:=cX aq hy a7 h6;rw[hN] at ag;have bn:=AR.lt y ak;have b2:w0.heap.size≤w1.heap.size:=E.size;have bb:br<w1.heap.size:=Br.lt;have bi:bo<w1.heap.size:=Bo.lt;refine AH ?_;obtain ⟨bu,ae⟩:∃Fs:List Fact,Fs=[.eq (P6 br 2),.eq (.slice (oI yb yo) r0.args.length ai),.eq (.pointer (some ⟨yb,yo+0*6,none⟩)),.eq (.agg (R6 y az ax ay ar)),.eq (P6 br 3),.eq (I6 r0.mn),.eq (P6 br 4),.eq (I6 r0.mx),.gen (DQ (λb=>S b∨n1≤b) N) (BD _ _),.eq undef]:=⟨_,rfl⟩;refine FQ [true,true,true,true,true,true,true,true,true,false] [9] [41,42,43,44,45,46,47,48,49,75] [[],[0],[1],[2],[],[4],[],[6],[3,5,7],[]] bu ae mixed qK qK qK qK ?_ ?_
            · intro wd X0;refine DagStepsP.cons (λs' w' X U H=>dH ⟨?_,?_⟩) ?_
              · exact AE rfl
              · exact AP (AQ (U 1 rfl) dI rfl BF rfl) (Ah.refl _) rfl
              refine DagStepsP.cons (λs' w' X U H=>dH ⟨?_,?_⟩) ?_
              · exact AE rfl
              · have b5:s' 41=(P6 br 2):=H 0 rfl 41 (.eq (P6 br 2)) rfl (by rw[ae];rfl);exact AP (AJ b5 A9 (((X0.trans X).keep Br).cell rfl)) (Ah.refl _) rfl
              refine DagStepsP.cons (λs' w' X U H=>dH ⟨?_,?_⟩) ?_
              · exact AE rfl
              · have ch:s' 42=(.slice (oI yb yo) r0.args.length ai):=H 1 rfl 42 (.eq (.slice (oI yb yo) r0.args.length ai)) rfl (by rw[ae];rfl);exact AP (AL (i:=0) ch rfl rfl dJ AG qO qO) (Ah.refl _) rfl
              refine DagStepsP.cons (λs' w' X U H=>dH ⟨?_,?_⟩) ?_
              · exact AE rfl
              · have cg:s' 43=(.pointer (some ⟨yb,yo+0*6,none⟩)):=H 2 rfl 43 (.eq (.pointer (some ⟨yb,yo+0*6,none⟩))) rfl (by rw[ae];rfl);exact AP (AI cg Ad AG rfl (av.ext (X0.trans X))) (Ah.refl _) rfl
              refine DagStepsP.cons (λs' w' X U H=>dH ⟨?_,?_⟩) ?_
              · exact AE rfl
              · exact AP (AQ (U 1 rfl) dI rfl Al rfl) (Ah.refl _) rfl
              refine DagStepsP.cons (λs' w' X U H=>dH ⟨?_,?_⟩) ?_
              · exact AE rfl
              · have ca:s' 45=(P6 br 3):=H 4 rfl 45 (.eq (P6 br 3)) rfl (by rw[ae];rfl);exact AP (AJ ca Ag (((X0.trans X).keep Br).cell rfl)) (Ah.refl _) rfl
              refine DagStepsP.cons (λs' w' X U H=>dH ⟨?_,?_⟩) ?_
              · exact AE rfl
              · exact AP (AQ (U 1 rfl) dI rfl Al rfl) (Ah.refl _) rfl
              refine DagStepsP.cons (λs' w' X U H=>dH ⟨?_,?_⟩) ?_
              · exact AE rfl
              · have cb:s' 47=(P6 br 4):=H 6 rfl 47 (.eq (P6 br 4)) rfl (by rw[ae];rfl);exact AP (AJ cb Ag (((X0.trans X).keep Br).cell rfl)) (Ah.refl _) rfl
              refine DagStepsP.cons (λs' w' X U H=>dH ⟨?_,?_⟩) ?_
              · exact AE rfl
              · have b6:s' 44=(.agg (R6 y az ax ay ar)):=H 3 rfl 44 (.eq (.agg (R6 y az ax ay ar))) rfl (by rw[ae];rfl);have b8:s' 46=(I6 r0.mn):=H 5 rfl 46 (.eq (I6 r0.mn)) rfl (by rw[ae];rfl);have b7:s' 48=(I6 r0.mx):=H 7 rfl 48 (.eq (I6 r0.mx)) rfl (by rw[ae];rfl);exact A7 (AS func49 kQ kQ (aR b6 b8 b7)) ((Ut _ _ y r0.mn r0.mx _ (AR.ext (X0.trans X) y bn) (λb hb=>by have:=hb.2;have:=X0.size;have:=X.size;omega)).mono (λr w h=>by obtain ⟨⟨us,h1,h2⟩,h3⟩:=h;rw[←ag] at h2;exact ⟨CI (λb hb=>by rcases hb with hb|hb;exact hb.1;exact .inr (by have:=X0.size;have:=X.size;omega)) ⟨us,h1,h2⟩,h3⟩))
              refine DagStepsP.tail ?_;exact DagStepsP.nil
            · intro s' w15 bc U H;obtain ⟨a3,aw,a0,a2,cd,bt⟩:=H 8 rfl 49 (.gen (DQ (λb=>S b∨n1≤b) N) (BD _ _)) rfl (by rw[ae];rfl);obtain ⟨j15,rfl⟩:=Ak.out (σ:=s') (l:=[(2,(P6 bo 0)),(49,(.agg (R6 N a3 aw a0 a2)))]) ⟨U 2 rfl,cd,trivial⟩;clear U H;have Br:=bc.keep Br;have Bo:=bc.keep Bo;have ad:=dL ad bc.size;have ab:=AR.ext bc r0 ab;have E:=E.ext bc;refine Aa (b:=bo) (o:=0) (c':=(R6 N a3 aw a0 a2)) rfl rfl qS AG rfl Bo qL rfl ?_;intro w16 a5;have ab:=AR.chg a5.chg (λy hy h=>by have h2:y=_:=h;first|exact (af y hy).1 h2|exact (af y hy).2 h2) r0 ab;have ad:=dL ad a5.chg.size;have bt:=AR.chg a5.chg (λb hb h=>(af b hb).2 h) N bt;have Br:=a5.keep qO Br;have E:=a5.step E (by first|exact dH qO|assumption|exact dG rfl|exact dG (by assumption)|exact dG qP|exact dG qO|exact dG (by dsimp only;omega));have Bo:=a5.blk;refine AB (AC (AO (Ac (AK (A2 jL (vs:=(oJ N a3 aw a0 a2)) (b:=bo) rfl Ad AG rfl (Bo.cells rfl) ?_)))));exact ⟨⟨_,rfl,AR.mono ap _ bt⟩,E⟩
          · refine AA (qV (Ai rfl rfl) (qA _ rfl (AB (qC rfl (λh8=>?_) (λh8=>?_)))))
            · have bh:=aq.one qO;obtain ⟨y,hy⟩:=AU (l:=r0.args) (i:=0) qO;have a7:=ao y (dK hy);obtain ⟨yb,yo,rfl,am⟩:=CE.cells (GO ab) qO;obtain ⟨ys,av,au⟩:=am 0 y hy;have ak:=au;obtain ⟨az,ax,ay,ar,rfl,_,_,bv⟩:=au.form;refine AA (qF br 0 2 rfl dI rfl BF rfl (qV (AJ rfl A9 (Br.cell rfl)) (qV (AL (b:=yb) (o:=yo) (len:=r0.args.length) (cap:=ai) (i:=0) (o':=yo+0*6) rfl rfl rfl dJ AG qO qO) (qF _ _ _ rfl dI rfl Al rfl (qV (AJ rfl Ag (av.at0)) (qV (Ai rfl rfl) (AB (qC rfl (λc8=>?_) (λc8=>?_)))))))))
              · obtain ⟨z,hz⟩:=AU (l:=y.args) (i:=0) (gT.2 ((Cm a7).2 c8));have hzl:=AX hz;obtain ⟨zb,zo,_,rfl,b9⟩:=bv.resolve_left ((Cm a7).2 c8);obtain ⟨zs,cf,b0⟩:=BM.get b9 hz;have a1:=b0;obtain ⟨b4,bz,bw,b3,rfl,_,_,_⟩:=b0.form;have ag:=bU hy h8 c8 hz;rw[hN] at ag;refine AA (qF br 0 2 rfl dI rfl BF rfl (qV (AJ rfl A9 (Br.cell rfl)) (qV (AL (b:=yb) (o:=yo) (len:=r0.args.length) (cap:=ai) (i:=0) (o':=yo+0*6) rfl rfl rfl dJ AG qO qO) (qF _ _ _ rfl dI rfl BF rfl (qV (AJ rfl A9 (av 2 _ rfl)) (qV (AL (b:=zb) (o:=zo) (len:=y.args.length) (cap:=ar) (i:=0) (o':=zo+0*6) rfl rfl rfl dJ AG qO qO) (qV (AI rfl Ad AG rfl (cf)) (Aa (b:=bo) (o:=0) (c':=(R6 z b4 bz bw b3)) rfl rfl qS AG rfl Bo qL rfl ?_))))))));intro bq ba;have ab:=AR.chg ba.chg (λy hy h=>by have h2:y=_:=h;first|exact (af y hy).1 h2|exact (af y hy).2 h2) r0 ab;have ad:=dL ad ba.chg.size;have a1:=AR.chg ba.chg (λb hb h=>(af b hb).2 h) z a1;have Br:=ba.keep qO Br;have E:=ba.step E (by first|exact dH qO|assumption|exact dG rfl|exact dG (by assumption)|exact dG qP|exact dG qO|exact dG (by dsimp only;omega));have Bo:=ba.blk;refine AB (AO (Ac (AK (A2 jL (vs:=(oJ z b4 bz bw b3)) (b:=bo) rfl Ad AG rfl (Bo.cells rfl) ?_))));exact ⟨⟨_,rfl,by rw[ag];exact AR.mono ap _ a1⟩,E⟩
              · have ag:=bT hy h8 c8;rw[hN] at ag;have an:=ab;refine AM (AV (AC (AA (qV (AI (vs:=(oJ r0 ka kc (oI yb yo) ai)) rfl Ad AG rfl (Br.cells rfl)) (Aa (b:=bo) (o:=0) (c':=(R6 r0 ka kc (oI yb yo) ai)) rfl rfl qS AG rfl Bo qL rfl ?_)))));intro w20 a4;have ab:=AR.chg a4.chg (λy hy h=>by have h2:y=_:=h;first|exact (af y hy).1 h2|exact (af y hy).2 h2) r0 ab;have ad:=dL ad a4.chg.size;have an:=AR.chg a4.chg (λb hb h=>(af b hb).2 h) r0 an;have Br:=a4.keep qO Br;have E:=a4.step E (by first|exact dH qO|assumption|exact dG rfl|exact dG (by assumption)|exact dG qP|exact dG qO|exact dG (by dsimp only;omega));have Bo:=a4.blk;refine AB (AO (A2 jL (vs:=(oJ r0 ka kc (oI yb yo) ai)) (b:=bo) rfl Ad AG rfl (Bo.cells rfl) ?_));exact ⟨⟨_,rfl,by rw[ag];exact AR.mono ap _ an⟩,E⟩
            · have ag:N=r0:=hN.symm.trans (cL ⟨h3,h4,h5,h6,h7,h8⟩);have an:=ab;refine AM (AV (AC (AA (qV (AI (vs:=(oJ r0 ka kc bj ai)) rfl Ad AG rfl (Br.cells rfl)) (Aa (b:=bo) (o:=0) (c':=(R6 r0 ka kc bj ai)) rfl rfl qS AG rfl Bo qL rfl ?_)))));intro w21 a9;have ab:=AR.chg a9.chg (λy hy h=>by have h2:y=_:=h;first|exact (af y hy).1 h2|exact (af y hy).2 h2) r0 ab;have ad:=dL ad a9.chg.size;have an:=AR.chg a9.chg (λb hb h=>(af b hb).2 h) r0 an;have Br:=a9.keep qO Br;have E:=a9.step E (by first|exact dH qO|assumption|exact dG rfl|exact dG (by assumption)|exact dG qP|exact dG qO|exact dG (by dsimp only;omega));have Bo:=a9.blk;refine AB (AO (A2 jL (vs:=(oJ r0 ka kc bj ai)) (b:=bo) rfl Ad AG rfl (Bo.cells rfl) ?_));exact ⟨⟨_,rfl,by rw[ag];exact AR.mono ap _ an⟩,E⟩
end Go.Proofs
namespace Go.Proofs
open Go Go.Eng
set_option maxRecDepth 100000
theorem Ss {t:Re} (h:C' t) (a:t.kind≠6):t.mx=0:=by
 have:=(FA h).2.2;unfold Dj at this;simp[a] at this;omega
def aN (t:Re):Prop:=(t.kind=3∧0<t.args.length∧DC t.args∧t.mx=0)∨(C' t∧t.kind≠3)
theorem Dq {t:Re} (h:C' t):aN t:=by
 by_cases a:t.kind=3
 .exact .inl ⟨a,by have:=Py h (.inl a);omega,C8 h,Ss h qO⟩
 .exact .inr ⟨h,a⟩
theorem Hz {t:Re} (h:aN t):t.mx.toNat<=8:=by
 rcases h with ⟨_,_,_,h⟩|⟨h,_⟩
 .omega
 .by_cases a:t.kind=6
  .have:=Lu h a;omega
  .have:=Ss h a;omega
theorem Vc {t:Re} (h:aN t):DC t.args:=by
 rcases h with ⟨_,_,h,_⟩|⟨h,_⟩
 .exact h
 .exact C8 h
theorem GJ {b:Bool} (h:b=true):Value.bool true=.bool b:=by rw[h]
theorem FH {b:Bool} (h:¬b=true):Value.bool false=.bool b:=by simp at h;rw[h]
theorem Gh {P:oD} {lo k:Nat} (c:∀m,lo<=m->m<k->¬P m) (b:¬P k):∀m,lo<=m->m<k+1->¬P m:=by
 intro m a h2;rcases eI m k with h|h
 .exact c m a h
 .obtain rfl:m=k:=qO
  exact b
end Go.Proofs
namespace Go.Proofs
open Go Go.Eng Go.Sort
set_option maxRecDepth 100000
theorem Ru (ts:List Re):C6 ts=ts.all BN:=by
 induction ts with
 | nil=>rfl
 | cons t ts ih=>simp[C6,ih]
theorem QW (ts:List Re):FO ts=ts.any BN:=by
 induction ts with
 | nil=>rfl
 | cons t ts ih=>simp[FO,ih]
end Go.Proofs
namespace Go.Proofs
open Go Go.Eng
set_option maxRecDepth 100000
def Xs (t:Re):Nat:=t.size*50+t.mx.toNat
theorem F7 {t x:Re} (hs:x.size<t.size) (hx:x.mx.toNat<=8):Xs x<Xs t:=by
 unfold Xs;omega
def Ww (text:oB) (M:Nat):Prop:=∀t (i j:Nat),i=0->j=0->Xs t<M->aN t->∀(w0:World) (vs:n_) (vt:Value),A3 w0 t vs->Bw w0 vt text->
  Bj prog 94 #[.agg vs.toArray,vt,I6 (i:Int),I6 (j:Int)] w0 λv w=>v=.bool (BN t)∧Ah w0 w
theorem Zb (text:oB) (hn:text=[]) (M:Nat) (ih:Ww text M) (t:Re) (i j:Nat) (hij:i=0) (hj:j=0) (hM:Xs t<=M) (C:C' t) (h6:t.kind=6) (K:World) (vs:n_) (vt:Value) (ht:A3 K t vs) (u:Bw K vt text) :
 Bj prog 122 #[.agg vs.toArray,vt,I6 (i:Int),I6 (j:Int)] K λv w=>v=.bool (BN t)∧Ah K w:=by
 have ht0:=ht;obtain ⟨sa,sc,aa,ac,rfl,hset,V,J⟩:=ht.form;obtain ⟨ta,tc,rfl⟩:=BX.form u;simp only[dW] at u⊢;have T:=HA C qO;have hrep:=Lu C h6;obtain ⟨x,X⟩:=AU (l:=t.args) (i:=0) qO;have G:=Do (C8 C) X;have ai:=Re.size_arg X;have F:t.args=[x]:=by
  match h:t.args,T,X with
  | [y],_,hy=>simp at hy;rw[hy]
 have B:BN t=(decide (t.mn=0) || BN x):=by rw[MQ,if_neg qO,if_neg qO,if_neg qO,if_pos h6,F];simp[C6]
 have aj:BN (.mk 6 [] t.args (max 0 (t.mn - 1)) (t.mx - 1) false)=(decide (max 0 (t.mn - 1)=0) || BN x):=by rw[F];simp[BN,C6]
 obtain ⟨g,f,rfl,A⟩:=EV J qO;obtain ⟨us,ad,R⟩:=A.get X;refine qR func122 O ntmps122 O (λE=>(AA (BC (v:=(.agg (R6 t sa sc (oI g f) ac))) (c:=(R6 t sa sc (oI g f) ac)) qD O O ?_)));intro z w1 N1;have E:=E.ext N1.ext;have a:=N1.blk;refine qA _ O (AB (AH (AA (qF z 0 3 O dI O Al O (qV (AJ O Ag (a.cell O)) ?_)))));obtain ⟨r,Q⟩:∃e,(decide ((t.mn:Int)=0))=e:=⟨_,O⟩;refine qV ((Ai O O).trans (by rw[Q];try rfl)) (qM _ O (qG (.bool r) (yU r (I6 (i:Int))) (by cases r<;>first|exact gA|exact gB|exact .inl ⟨O,Am O⟩) (qG (.bool r) (yU r (I6 (j:Int))) (by cases r<;>first|exact gA|exact gB|exact .inl ⟨O,Am O⟩) ?_)));obtain ⟨e3,W⟩:∃e,(decide ((((i:Nat):Int):Int)=((j:Nat):Int)))=e:=⟨_,O⟩;refine qG (.bool r) (yU r (.bool e3)) (by cases r<;>first|exact gA|exact gB|exact .inl ⟨O,(Ai O O).trans (by rw[W];try rfl)⟩) ?_;obtain ⟨e4,L⟩:∃e,(r && e3)=e:=⟨_,O⟩;refine qV (Af (v:=.bool e4) O (by rw[<-L];cases r<;>rfl)) (AB ?_);subst L;subst W;subst Q;refine A4 O (λD=>?_) (λD=>?_)
 .have ae:=D;simp at D;refine AA (qA _ O (AB (AO (AK (AY nI (v:=(.bool true)) O ?_)))));exact ⟨GJ (by rw[B];simp[D.1]),E⟩
 .have ae:=D;simp at D;refine AM (AC (AH (AA (qF z 0 4 O dI O Al O (qV (AJ O Ag (a.cell O)) (qV (Ai O O) (AB (qC O (λP=>?_) (λP=>?_)))))))))
  .refine AA (qA _ O (AB (AO (AK (AY nI (v:=(.bool false)) O ?_)))));exact absurd P (by have:=D;omega)
  .refine AM (AC (AA (qF z 0 3 O dI O Al O (qV (AJ O Ag (a.cell O)) (qV (DZ O O (A8 qO)) (qV (VQ (c:=max 0 (t.mn - 1)) O O O) (qF z 0 4 O dI O Al O (qV (AJ O Ag (a.cell O)) (qV (DZ O O (A8 qO)) (qF z 0 2 O dI O BF O (qV (AJ O A9 (a.cell O)) (qV (B0 (ps:=[(0,(I6 6)),(3,(I6 (max 0 (t.mn - 1)))),(4,(I6 (t.mx - 1))),(2,(.slice (oI g f) t.args.length ac))]) (v:=(.agg #[(I6 6),(.slice none 0 0),(.slice (oI g f) t.args.length ac),(I6 (max 0 (t.mn - 1))),(I6 (t.mx - 1)),(.bool false)])) O qK) (As (v:=(.agg #[(I6 6),(.slice none 0 0),(.slice (oI g f) t.args.length ac),(I6 (max 0 (t.mn - 1))),(I6 (t.mx - 1)),(.bool false)])) (c:=#[(I6 6),(.slice none 0 0),(.slice (oI g f) t.args.length ac),(I6 (max 0 (t.mn - 1))),(I6 (t.mx - 1)),(.bool false)]) (n:=6) qD A1 O AG O O O qS ?_)))))))))))));intro b7 w7 N7;have a:=N7.keep a;have E:=E.ext N7.ext;have s:=N7.blk;refine AB (AH (AA (qM _ O (qA _ O (AB (AW ?_))))));have I:A3 K (.mk 6 [] t.args (max 0 (t.mn - 1)) (t.mx - 1) false) [I6 6,.slice none 0 0,.slice (oI g f) t.args.length ac,I6 (max 0 (t.mn - 1)),I6 (t.mx - 1),.bool false]:=A3.of (set:=[]) (BX.nil _ _ _ _) V (.inr ⟨g,f,O,A⟩);have N:C' (.mk 6 [] t.args (max 0 (t.mn - 1)) (t.mx - 1) false):=by
    rw[F];simp only[C',DC];exact ⟨Ve qO qO qO x,G,trivial⟩
   have U:∀k,i<=k->k<=j->Xs (.mk 6 [] t.args (max 0 (t.mn - 1)) (t.mx - 1) false)<M:=by
    intro k h1 h2;have hz:(Re.mk 6 [] t.args (max 0 (t.mn - 1)) (t.mx - 1) false).size=t.size:=by rw[Re.size_eq,Re.size_eq];rfl
    have e1:(t.mx - 1).toNat+1=t.mx.toNat:=qO
    unfold Xs at hM⊢;rw[hz,show (Re.mk 6 [] t.args (max 0 (t.mn - 1)) (t.mx - 1) false).mx=t.mx - 1 from rfl];clear hz;generalize (t.mx - 1).toNat=p at e1⊢;generalize t.mx.toNat=q at e1 hM;omega
   refine Ax (λnn_ σ Z=>∃(k:Nat),(∃jj_,σ=BW jj_ [(1,(.slice ta text.length tc)),(2,(I6 (i:Int))),(3,(I6 (j:Int))),(4,(P6 z 0)),(9,(P6 b7 0)),(10,(I6 (k:Int)))])∧Chg Aj K Z∧BV Z z (R6 t sa sc (oI g f) ac) 25∧BV Z b7 #[(I6 6),(.slice none 0 0),(.slice (oI g f) t.args.length ac),(I6 (max 0 (t.mn - 1))),(I6 (t.mx - 1)),(.bool false)] 25∧(i<=k∧k<=j+1)∧(∀m,i<=m->m<k->¬(BN x=true∧BN (.mk 6 [] t.args (max 0 (t.mn - 1)) (t.mx - 1) false)=true))∧nn_=j+1 - k) (n:=j+1 - i) ?_ ?_
   .exact ⟨i,oH,E,a,s,qO,(λm h1 h2=>qO),O⟩
   .clear E a s;rintro _ _ Z ⟨k,⟨j8,rfl⟩,E,a,s,hk,hp,rfl⟩;refine AH (AA (qM _ O (qM _ O (qV (ER O O) (AB (qC O (λah=>?_) (λah=>?_)))))))
    .refine AM (AC (AH (AW (AA (qF z 0 2 O dI O BF O (qV (AJ O A9 (a.cell O)) (qV (AL (b:=g) (o:=f) (len:=t.args.length) (cap:=ac) (i:=0) (o':=f+0*6) O O O dJ AG qO qO) (qV (AI O Ad AG R.len (ad.ext E)) (qM _ O (qM _ O (qM _ O (qE O (AS kL kQ kQ O) (ih x i k qO qO (fD (F7 ai (Hz (Dq G))) hM) (Dq G) _ us _ (A3.ext E x R) (u.ext E)) ?_))))))))))));rintro _ w9 ⟨rfl,X9⟩;have a:=X9.keep a;have s:=X9.keep s;have E:=E.ext X9;refine qM _ O ?_;rcases dT (BN x) with d|d
     .have ag:=d;refine AF O O qD (Ar d) (qV (AI (vs:=[(I6 6),(.slice none 0 0),(.slice (oI g f) t.args.length ac),(I6 (max 0 (t.mn - 1))),(I6 (t.mx - 1)),(.bool false)]) O Ad AG O (s.cells O)) (AF O O qD (Ar d) (qM _ O (AF O O qD (Ar d) (qM _ O (AF O O qD (Ar d) (qM _ O (AF O O qD (Ar d) (qE O (AS kL kQ kQ O) (ih _ k j qO qO (U k qO qO) (Dq N) _ _ _ (A3.ext E _ I) (u.ext E)) ?_)))))))));rintro _ w19 ⟨rfl,H⟩;have a:=H.keep a;have s:=H.keep s;have E:=E.ext H;refine qV (Af (v:=(.bool (BN (.mk 6 [] t.args (max 0 (t.mn - 1)) (t.mx - 1) false)))) O (by rw[d];rfl)) (AB (A4 O (λhB=>?_) (λhB=>?_)))
      .have af:=hB;refine AA (qA _ O (AB (AO (Ac (AK (AK (Ac (AK (AY nI (v:=(.bool true)) O ?_)))))))));exact ⟨GJ (by rw[B,d];simp),E⟩
      .have af:=hB;refine AM (AV (AC (AN (qM _ O (qV (A0 O O (A8 qO)) (qA _ O (AB (AC ?_))))))));exact ⟨j+1 - (k+1),qO,k+1,oH,E,a,s,qO,Gh hp (λh=>absurd h.2 (by rw[hB];decide)),O⟩
     .have ag:=d;refine AD O O qD (v:=.bool false) (Ar d) (dH O) (AD O O qD (v:=.bool false) (Ar d) (dH O) (AD O O qD (v:=.bool false) (Ar d) (dH O) (AD O O qD (v:=.bool false) (Ar d) (dH O) (AD O O qD (v:=.bool false) (Ar d) (dH O) (qV (Af (v:=(.bool false)) O (by rw[d];rfl)) (AB (Ae O (AM (AV (AC (AN (qM _ O (qV (A0 O O (A8 qO)) (qA _ O (AB (AC ?_))))))))))))))));exact ⟨j+1 - (k+1),qO,k+1,oH,E,a,s,qO,Gh hp (λh=>absurd h.1 (by rw[d];decide)),O⟩
    .refine Av (AZ (AZ (Ao (AC (AA (qA _ O (AB (AO (AY nI (v:=(.bool false)) O ?_)))))))));exact ⟨FH (λh=>by rw[B] at h;have S:BN x=true:=(by simpa[show ¬t.mn=0 by omega] using h);exact hp 0 qO qO ⟨S,by simp[aj,S]⟩),E⟩
theorem QV {t x:Re} {l:List Re} (h:BN t=C6 t.args) (a:t.args=x::l):BN t=(BN x && BN (.mk 3 [] l 0 0 false)):=by
 rw[h,a];simp[C6,BN]
theorem Xu (text:oB) (hn:text=[]):∀M,Ww text M:=by
 intro M
 induction M with
 | zero=>intro t i j _ _ h;omega
 | succ M ih=>
 intro t i j ad hj hM ag w0 vs vt ht P;have bb:=ht;have hok0:=ag;have A:=Vc ag;obtain ⟨sa,sc,aa,ac,rfl,hset,hlen,B⟩:=ht.form;obtain ⟨ta,tc,rfl⟩:=BX.form P;simp only[dW] at P⊢;have W:Xs t<=M:=qO
 have L:=MQ t;refine qR kL O ntmps94 O (λE=>(AA (BC (v:=(.agg (R6 t sa sc aa ac))) (c:=(R6 t sa sc aa ac)) qD O O ?_)));intro b1 w1 N1;have E:=E.ext N1.ext;have g:=N1.blk;refine qA _ O (AB (AH (AA (qF b1 0 0 O dI O Al O (qV (AJ O Ag (g.cell O)) (AB (AW (AA (qV (Ai O O) (qA _ O (AB (qC O (λh1=>?_) (λh1=>?_)))))))))))))
 .refine AA (qM _ O (qM _ O (qV (Ai O O) (qA _ O (AB (AO (Ac (AK (AY iH (v:=(.bool (decide ((((i:Nat):Int):Int)=((j:Nat):Int))))) O ?_)))))))));exact ⟨A' (by rw[L,if_pos (.inl h1)];exact decide_eq_true qO),E⟩
 .refine AA (qV (Ai O O) (qA _ O (AB (qC O (λh2=>?_) (λh2=>?_)))))
  .have a8:decide (((j:Nat):Int)=((i:Nat):Int)+1)=false:=decide_eq_false qO;refine AH ?_;obtain ⟨bd,p⟩:∃Fs:List Fact,Fs=[.eq (I6 (j:Int)),.eq (I6 (i:Int)),.eq (I6 ((i:Int)+1)),.eq (.bool false),.eq (.bool false),.eq undef,.eq undef,.eq undef,.eq undef,.eq undef,.eq undef,.eq undef,.eq (.bool false),.eq (.bool false)]:=⟨_,O⟩;refine Ga [27,28,29,30,31,32,33,34,35,36,37,38,39,8] [[],[],[1],[0,2],[3],[4],[4,5],[4],[4],[4,7,8],[4,9],[4,6,10],[4,11],[0,1,2,3,4,5,6,7,8,9,10,11,12]] bd p mixed qK qK ?_ ?_
   .intro wd X0;refine DagSteps.cons (λQ w' X U H=>dH ⟨?_,?_⟩) ?_
    .exact AE O
    .exact AP (Am (U 3 O)) (Ah.refl _) O
    refine DagSteps.cons (λQ w' X U H=>dH ⟨?_,?_⟩) ?_
    .exact AE O
    .exact AP (Am (U 2 O)) (Ah.refl _) O
    refine DagSteps.cons (λQ w' X U H=>dH ⟨?_,?_⟩) ?_
    .exact AE O
    .have I:Q 28=(I6 ((i:Nat):Int)):=H 1 O 28 (.eq (I6 ((i:Nat):Int))) O (by rw[p];rfl);exact AP (A0 I O (A8 qO)) (Ah.refl _) O
    refine DagSteps.cons (λQ w' X U H=>dH ⟨?_,?_⟩) ?_
    .exact AE O
    .have be:Q 27=(I6 ((j:Nat):Int)):=H 0 O 27 (.eq (I6 ((j:Nat):Int))) O (by rw[p];rfl);have ah:Q 29=(I6 (((i:Nat):Int)+1)):=H 2 O 29 (.eq (I6 (((i:Nat):Int)+1))) O (by rw[p];rfl);exact AP (Eq.trans (Ai be ah) (by rw[a8])) (Ah.refl _) O
    refine DagSteps.cons (λQ w' X U H=>dH ⟨?_,?_⟩) ?_
    .exact AE O
    .have ap:Q 30=(.bool false):=H 3 O 30 (.eq (.bool false)) O (by rw[p];rfl);exact AP (Am ap) (Ah.refl _) O
    refine DagSteps.cons (λQ w' X U H=>dG ⟨?_,O⟩) ?_
    .exact Gd O O (d:=31) (dH (H 4 O 31 (.eq (.bool false)) O (by rw[p];rfl)))
    refine DagSteps.cons (λQ w' X U H=>dG ⟨?_,O⟩) ?_
    .exact Gd O O (d:=31) (dH (H 4 O 31 (.eq (.bool false)) O (by rw[p];rfl)))
    refine DagSteps.cons (λQ w' X U H=>dG ⟨?_,O⟩) ?_
    .exact Gd O O (d:=31) (dH (H 4 O 31 (.eq (.bool false)) O (by rw[p];rfl)))
    refine DagSteps.cons (λQ w' X U H=>dG ⟨?_,O⟩) ?_
    .exact Gd O O (d:=31) (dH (H 4 O 31 (.eq (.bool false)) O (by rw[p];rfl)))
    refine DagSteps.cons (λQ w' X U H=>dG ⟨?_,O⟩) ?_
    .exact Gd O O (d:=31) (dH (H 4 O 31 (.eq (.bool false)) O (by rw[p];rfl)))
    refine DagSteps.cons (λQ w' X U H=>dG ⟨?_,O⟩) ?_
    .exact Gd O O (d:=31) (dH (H 4 O 31 (.eq (.bool false)) O (by rw[p];rfl)))
    refine DagSteps.cons (λQ w' X U H=>dG ⟨?_,O⟩) ?_
    .exact Gd O O (d:=31) (dH (H 4 O 31 (.eq (.bool false)) O (by rw[p];rfl)))
    refine DagSteps.cons (λQ w' X U H=>dH ⟨?_,?_⟩) ?_
    .exact AE O
    .have bf:Q 31=(.bool false):=H 4 O 31 (.eq (.bool false)) O (by rw[p];rfl);exact AP (Af bf O) (Ah.refl _) O
    refine DagSteps.cons (λQ w' X U H=>dH ⟨?_,?_⟩) ?_
    .exact AE O
    .have bg:Q 39=(.bool false):=H 12 O 39 (.eq (.bool false)) O (by rw[p];rfl);exact AP (Dg bg) (Ah.refl _) O
    exact DagSteps.nil
   .intro Q w4 X4 U H;obtain ⟨j4,rfl⟩:=Ak.out (σ:=Q) (l:=[(8,(.bool false))]) ⟨(show Q 8=(.bool false) from H 13 8 (.eq (.bool false)) O (by rw[p];rfl)),trivial⟩;clear U H;have g:=X4.keep g;have E:=E.ext X4;refine AC (AO (Ac (AK (AY iH (v:=(.bool false)) O ?_))));exact ⟨FH (by rw[L];simp[h2]),E⟩
  .refine AA (qV (Ai O O) (qA _ O (AB (qC O (λh3=>?_) (λh3=>?_)))))
   .have hlen0:0<t.args.length:=by
     rcases ag with ⟨_,h,_,_⟩|⟨_,h⟩
     .exact h
     .exact absurd h3 h
    obtain ⟨x,z⟩:=AU (l:=t.args) (i:=0) qO;have u:=Do A z;have F:=Re.size_arg z;obtain ⟨D,w,rfl,r⟩:=EV B qO;obtain ⟨us,G,f⟩:=r.get z;have Z:t.args=x::t.args.drop 1:=by rw[<-Bi z];rfl
    refine AH (AA (qF b1 0 2 O dI O BF O (qV (AJ O A9 (g.cell O)) (qV (AT dJ O) (qV (Ai O O) (AB (qC O (λbc=>?_) (λbc=>?_))))))))
    .refine AA (qF b1 0 2 O dI O BF O (qV (AJ O A9 (g.cell O)) (qV (AL (b:=D) (o:=w) (len:=t.args.length) (cap:=ac) (i:=0) (o':=w+0*6) O O O dJ AG qO qO) (qV (AI O Ad AG f.len (G.ext E)) (qM _ O (qM _ O (qM (I6 (j:Int)) O (qE O (AS (vs:=[(.agg us.toArray),(.slice ta text.length tc),(I6 (i:Int)),(I6 (j:Int))]) kL kQ kQ O) (ih x i j ad hj (fD (F7 F (Hz (Dq u))) W) (Dq u) _ us _ (A3.ext E x f) (P.ext E)) ?_))))))));rintro _ w9 ⟨rfl,J⟩;have g:=J.keep g;have E:=E.ext J;refine qA (.bool (BN x)) O (AB (AO (AK (Ac (AK (AY iH (v:=(.bool (BN x))) O ?_))))));exact ⟨A' (by rw[L,if_neg qO,if_pos (.inl h3),Z,fR qO];simp[C6]),E⟩
    .have R:BN t=(BN x && BN (.mk 3 [] (t.args.drop 1) 0 0 false)):=QV (by rw[L,if_neg qO,if_pos (.inl h3)]) Z;refine AM (AC (AA (qF b1 0 2 O dI O BF O (qV (AJ (v:=(.slice (oI D w) t.args.length ac)) O A9 (g.cell O)) ?_))));obtain ⟨sl,ai⟩:∃a':oE,(if ac=1 then (oI D w) else Option.map (λq:Addr=>q.add (1*6)) (oI D w))=a':=⟨_,O⟩;refine qV (E' (a:=(oI D w)) (len:=t.args.length) (cap:=ac) (lo:=1) (l:=1) (n':=(t.args.length - 1)) (c':=(ac - 1)) dJ AG O O qO qO ai qO qO) ?_;rw[if_neg qO] at ai;simp only[iF,Addr.add_lit] at ai;subst ai;have bi:(t.args.drop 1).length=t.args.length - 1:=qP
     have ay:A3 w0 (.mk 3 [] (t.args.drop 1) 0 0 false) [I6 3,.slice none 0 0,.slice (some ⟨D,w+1*6,none⟩) (t.args.length - 1) (ac - 1),I6 0,I6 0,.bool false]:=by
      rw[<-bi];refine A3.of (set:=[]) (BX.nil _ _ _ _) ⟨qO,qO⟩ (.inr ⟨D,w+1*6,O,CY.mk λi' t' a6=>?_⟩);rw[jJ] at a6;have:=r.get a6
      rwa [show w+(1+i')*6=w+1*6+i'*6 from qO] at this
     have a1:DC (t.args.drop 1):=by rw[Z] at A;simp only[DC] at A;exact A.2
     have a5:aN (.mk 3 [] (t.args.drop 1) 0 0 false):=.inl ⟨O,by show 0<(t.args.drop 1).length;omega,a1,O⟩;have bh:(Re.mk 3 [] (t.args.drop 1) 0 0 false).size<t.size:=by
      have hz:Re.sizes t.args=x.size+Re.sizes (t.args.drop 1):=by rw[Z];simp[Re.sizes]
      have hp:=x.size_pos;rw[Re.size_eq,Re.size_eq t];show Re.sizes (t.args.drop 1)+1<_;omega
     refine qV (B0 (ps:=[(0,(I6 3)),(2,(.slice (some ⟨D,w+1*6,none⟩) (t.args.length - 1) (ac - 1)))]) (v:=(.agg #[(I6 3),(.slice none 0 0),(.slice (some ⟨D,w+1*6,none⟩) (t.args.length - 1) (ac - 1)),(I6 0),(I6 0),(.bool false)])) O qK) (As (v:=(.agg #[(I6 3),(.slice none 0 0),(.slice (some ⟨D,w+1*6,none⟩) (t.args.length - 1) (ac - 1)),(I6 0),(I6 0),(.bool false)])) (c:=#[(I6 3),(.slice none 0 0),(.slice (some ⟨D,w+1*6,none⟩) (t.args.length - 1) (ac - 1)),(I6 0),(I6 0),(.bool false)]) (n:=6) qD A1 O AG O O O qS ?_);intro bq wq Nq;have g:=Nq.keep g;have E:=E.ext Nq.ext;have Bq:=Nq.blk;refine AB (AA (qM _ O (qA _ O (AB (AW (Ax (λnn_ σ W7=>∃(k:Nat),(∃jj_,σ=BW jj_ [(1,(.slice ta text.length tc)),(2,(I6 (i:Int))),(3,(I6 (j:Int))),(4,(P6 b1 0)),(9,(P6 bq 0)),(10,(I6 (k:Int)))])∧Chg Aj w0 W7∧BV W7 b1 (R6 t sa sc (oI D w) ac) 25∧BV W7 bq #[(I6 3),(.slice none 0 0),(.slice (some ⟨D,w+1*6,none⟩) (t.args.length - 1) (ac - 1)),(I6 0),(I6 0),(.bool false)] 25∧(i<=k∧k<=j+1)∧(∀m,i<=m->m<k->¬(BN x=true∧BN (.mk 3 [] (t.args.drop 1) 0 0 false)=true))∧nn_=j+1 - k) (n:=j+1 - i) ?_ ?_))))))
     .exact ⟨i,oH,E,g,Bq,qO,(λm h1 h2=>qO),O⟩
     .clear E g Bq;rintro _ _ W7 ⟨k,⟨j7,rfl⟩,E,g,Bq,hk,hp,rfl⟩;refine AH (AA (qM _ O (qM _ O (qV (ER O O) (AB (qC O (λK=>?_) (λK=>?_)))))))
      .refine AM (AC (AH (AW (AA (qF b1 0 2 O dI O BF O (qV (AJ O A9 (g.cell O)) (qV (AL (b:=D) (o:=w) (len:=t.args.length) (cap:=ac) (i:=0) (o':=w+0*6) O O O dJ AG qO qO) (qV (AI O Ad AG f.len (G.ext E)) (qM _ O (qM _ O (qM _ O (qE O (AS kL kQ kQ O) (ih x i k qO qO (fD (F7 F (Hz (Dq u))) W) (Dq u) _ us _ (A3.ext E x f) (P.ext E)) ?_))))))))))));rintro _ w9 ⟨rfl,J⟩;have g:=J.keep g;have Bq:=J.keep Bq;have E:=E.ext J;refine qM _ O ?_;rcases dT (BN x) with hA|hA
       .have a9:=hA;refine AF O O qD (Ar hA) (qV (AI (vs:=[(I6 3),(.slice none 0 0),(.slice (some ⟨D,w+1*6,none⟩) (t.args.length - 1) (ac - 1)),(I6 0),(I6 0),(.bool false)]) O Ad AG O (Bq.cells O)) (AF O O qD (Ar hA) (qM _ O (AF O O qD (Ar hA) (qM _ O (AF O O qD (Ar hA) (qM _ O (AF O O qD (Ar hA) (qE O (AS kL kQ kQ O) (ih _ k j qO qO (fD (F7 bh (dR _)) W) a5 _ _ _ (A3.ext E _ ay) (P.ext E)) ?_)))))))));rintro _ w19 ⟨rfl,aw⟩;have g:=aw.keep g;have Bq:=aw.keep Bq;have E:=E.ext aw;refine qV (Af (v:=(.bool (BN (.mk 3 [] (t.args.drop 1) 0 0 false)))) O (by rw[hA];rfl)) (AB (A4 O (λS=>?_) (λS=>?_)))
        .have af:=S;refine AA (qA _ O (AB (AO (Ac (AK (AK (Ac (Ac (AK (AY iH (v:=(.bool true)) O ?_))))))))));exact ⟨GJ (by rw[R,hA,S];rfl),E⟩
        .have af:=S;refine AM (AV (AC (AN (qM _ O (qV (A0 O O (A8 qO)) (qA _ O (AB (AC ?_))))))));exact ⟨j+1 - (k+1),qO,k+1,oH,E,g,Bq,qO,Gh hp (λh=>absurd h.2 (by rw[S];decide)),O⟩
       .have a9:=hA;refine AD O O qD (v:=.bool false) (Ar hA) (dH O) (AD O O qD (v:=.bool false) (Ar hA) (dH O) (AD O O qD (v:=.bool false) (Ar hA) (dH O) (AD O O qD (v:=.bool false) (Ar hA) (dH O) (AD O O qD (v:=.bool false) (Ar hA) (dH O) (qV (Af (v:=(.bool false)) O (by rw[hA];rfl)) (AB (Ae O (AM (AV (AC (AN (qM _ O (qV (A0 O O (A8 qO)) (qA _ O (AB (AC ?_))))))))))))))));exact ⟨j+1 - (k+1),qO,k+1,oH,E,g,Bq,qO,Gh hp (λh=>absurd h.1 (by rw[hA];decide)),O⟩
      .refine Av (AZ (AZ (Ao (AV (AC (AA (qA _ O (AB (AO (AY iH (v:=(.bool false)) O ?_))))))))));exact ⟨FH (λh=>by rw[R,dP] at h;exact hp 0 qO qO h),E⟩
   .have V:C' t:=by
     rcases ag with ⟨h,_⟩|⟨h,_⟩
     .exact absurd h h3
     .exact h
    refine AA (qV (Ai O O) (qA _ O (AB (qC O (λh4=>?_) (λh4=>?_)))))
    .have R:BN t=t.args.any BN:=by rw[L,if_neg qO,if_neg qO,if_pos h4,QW]
     refine AA (qF b1 0 2 O dI O BF O (qV (AJ O A9 (g.cell O)) (qV (AT dJ O) (qM _ O (AB (AW (Ax (λnn_ σ az=>∃(k:Nat),(∃jj_,σ=BW jj_ [(1,(.slice ta text.length tc)),(2,(I6 (i:Int))),(3,(I6 (j:Int))),(82,(.slice aa t.args.length ac)),(83,(I6 (t.args.length:Int))),(84,(I6 (k:Int)))])∧Chg Aj w0 az∧BV az b1 (R6 t sa sc aa ac) 25∧(k<=t.args.length)∧(t.args.any BN=(t.args.drop k).any BN)∧nn_=t.args.length - k) (n:=t.args.length - 0) ?_ ?_)))))))
     .exact ⟨0,oH,E,g,dR _,O,O⟩
     .clear E g;rintro _ _ az ⟨k,⟨j12,rfl⟩,E,g,hk,hp,rfl⟩;refine AA (qV (A6 O O) (AB (AH (qC O (λK=>?_) (λK=>?_)))))
      .obtain ⟨x,z⟩:=AU (l:=t.args) (i:=k) qO;have u:=Do A z;have F:=Re.size_arg z;obtain ⟨D,w,rfl,r⟩:=EV B qO;obtain ⟨us,G,f⟩:=r.get z;have hd:=Bi z;refine AM (AC (AH (AW (AA (qV (AL (b:=D) (o:=w) (len:=t.args.length) (cap:=ac) (i:=k) (o':=w+k*6) O O O dJ AG qO qO) (qV (AI O Ad AG f.len (G.ext E)) (As (v:=(.agg us.toArray)) (c:=us.toArray) (n:=6) qD A1 O AG O O (by simpa using f.len) (by simpa using A3.one f) ?_)))))));intro b14 w14 aq;have E:=E.ext aq.ext;have av:=aq.blk;refine AB (AA (qV (AI O Ad AG f.len (av.cells qP)) (qM _ O (qM _ O (qM _ O (qE O (AS kL kQ kQ O) (ih x i j ad hj (fD (F7 F (Hz (Dq u))) W) (Dq u) _ us _ (A3.ext E x f) (P.ext E)) ?_))))));rintro _ w9 ⟨rfl,J⟩;have g:=J.keep (aq.keep g);have av:=J.keep av;have E:=E.ext J;refine AB (A4 O (λS=>?_) (λS=>?_))
       .have af:=S;refine AA (qA _ O (AB (AO (Ac (AK (AK (Ac (Ac (AK (AY iH (v:=(.bool true)) O ?_))))))))));exact ⟨GJ (by rw[R,hp,hd,kX,S];rfl),E⟩
       .have af:=S;refine AM (AV (AC (AN (qV (A0 O O (A8 qO)) (qM _ O (AB (AC ?_)))))));exact ⟨t.args.length - (k+1),qO,k+1,oH,E,g,qO,(by rw[hp,hd,kX,S];rfl),O⟩
      .have ar:t.args.drop k=[]:=fR qO;refine Av (AZ (AZ (Ao (AV (AC (AA (qA _ O (AB (AO (AY iH (v:=(.bool false)) O ?_))))))))));exact ⟨FH (by rw[R,hp,ar];simp),E⟩
    .refine AA (qV (Ai O O) (qA _ O (AB (qC O (λh5=>?_) (λh5=>?_)))))
     .have T:=HA V qO;obtain ⟨x,z⟩:=AU (l:=t.args) (i:=0) qO;have u:=Do A z;have F:=Re.size_arg z;obtain ⟨D,w,rfl,r⟩:=EV B qO;obtain ⟨us,G,f⟩:=r.get z;refine AH (AA (qM _ O (qM _ O (qV (Ai O O) (AB ?_)))));have a3:(decide ((((i:Nat):Int):Int)=((j:Nat):Int)))=true:=decide_eq_true qO;refine Aq (Ar a3) (AA (qA _ O (AB (AO (AK (Ac (AK (AY iH (v:=(.bool true)) O ?_))))))));exact ⟨GJ (by rw[L,if_pos (.inr h5)]),E⟩
     .refine AA (qV (Ai O O) (qA _ O (AB (qC O (λh6=>?_) (λh6=>?_)))))
      .refine AA (qV (AI (vs:=(oJ t sa sc aa ac)) O Ad AG O (g.cells O)) (qM _ O (qM _ O (qM _ O (qE O (AS func122 kQ kQ O) (Zb text hn M ih t i j ad hj W V h6 _ _ _ (A3.ext E t bb) (P.ext E)) ?_)))));rintro _ w9 ⟨rfl,J⟩;have g:=J.keep g;have E:=E.ext J;refine qA _ O (AB (AO (Ac (AK (AY iH (v:=(.bool (BN t))) O ?_)))));exact ⟨O,E⟩
      .refine AA (qV (Ai O O) (qA _ O (AB (qC O (λh7=>?_) (λh7=>?_)))))
       .have R:BN t=t.args.all BN:=by rw[L,if_neg qO,if_pos qO,Ru]
        refine AH (AA (qF b1 0 2 O dI O BF O (qV (AJ O A9 (g.cell O)) (qV (AT dJ O) (qM _ O (AB (AW (Ax (λnn_ σ a0=>∃(k:Nat),(∃jj_,σ=BW jj_ [(1,(.slice ta text.length tc)),(2,(I6 (i:Int))),(3,(I6 (j:Int))),(131,(.slice aa t.args.length ac)),(132,(I6 (t.args.length:Int))),(133,(I6 (k:Int)))])∧Chg Aj w0 a0∧BV a0 b1 (R6 t sa sc aa ac) 25∧(k<=t.args.length)∧(t.args.all BN=(t.args.drop k).all BN)∧nn_=t.args.length - k) (n:=t.args.length - 0) ?_ ?_))))))))
        .exact ⟨0,oH,E,g,dR _,O,O⟩
        .clear E g;rintro _ _ a0 ⟨k,⟨j20,rfl⟩,E,g,hk,hp,rfl⟩;refine AA (qV (A6 O O) (AB (AH (qC O (λK=>?_) (λK=>?_)))))
         .obtain ⟨x,z⟩:=AU (l:=t.args) (i:=k) qO;have u:=Do A z;have F:=Re.size_arg z;obtain ⟨D,w,rfl,r⟩:=EV B qO;obtain ⟨us,G,f⟩:=r.get z;have hd:=Bi z;refine AM (AC (AH (AW (AA (qV (AL (b:=D) (o:=w) (len:=t.args.length) (cap:=ac) (i:=k) (o':=w+k*6) O O O dJ AG qO qO) (qV (AI O Ad AG f.len (G.ext E)) (As (v:=(.agg us.toArray)) (c:=us.toArray) (n:=6) qD A1 O AG O O (by simpa using f.len) (by simpa using A3.one f) ?_)))))));intro b22 w22 ax;have E:=E.ext ax.ext;have au:=ax.blk;refine AB (AA (qV (AI O Ad AG f.len (au.cells qP)) (qM _ O (qM _ O (qM _ O (qE O (AS kL kQ kQ O) (ih x i j ad hj (fD (F7 F (Hz (Dq u))) W) (Dq u) _ us _ (A3.ext E x f) (P.ext E)) ?_))))));rintro _ w9 ⟨rfl,J⟩;have g:=J.keep (ax.keep g);have au:=J.keep au;have E:=E.ext J;refine qV (C1 O) (AB (A4 O (λS=>?_) (λS=>?_)))
          .have af:=S;have S:=by simpa using S
           refine AA (qA _ O (AB (AO (Ac (AK (AK (Ac (AK (Ac (AK (AY iH (v:=(.bool false)) O ?_)))))))))));exact ⟨FH (by rw[R,hp,hd,List.all_cons,S];simp),E⟩
          .have af:=S;have S:=by simpa using S
           refine AM (AV (AC (AN (qV (A0 O O (A8 qO)) (qM _ O (AB (AC ?_)))))));exact ⟨t.args.length - (k+1),qO,k+1,oH,E,g,qO,(by rw[hp,hd,List.all_cons,S];rfl),O⟩
         .have ar:t.args.drop k=[]:=fR qO;refine Av (AZ (AZ (Ao (AC (AA (qA _ O (AB (AO (Ac (AK (AY iH (v:=(.bool true)) O ?_)))))))))));exact ⟨GJ (by rw[R,hp,ar];rfl),E⟩
       .refine AA (qV (Ai O O) (qA _ O (AB (qC O (λh8=>?_) (λh8=>?_)))))
        .have T:=HA V qO;obtain ⟨x,z⟩:=AU (l:=t.args) (i:=0) qO;have u:=Do A z;have F:=Re.size_arg z;obtain ⟨D,w,rfl,r⟩:=EV B qO;obtain ⟨us,G,f⟩:=r.get z;refine AA (qF b1 0 2 O dI O BF O (qV (AJ O A9 (g.cell O)) (qV (AL (b:=D) (o:=w) (len:=t.args.length) (cap:=ac) (i:=0) (o':=w+0*6) O O O dJ AG qO qO) (qV (AI O Ad AG f.len (G.ext E)) (qM _ O (qM _ O (qM _ O (qE O (AS kL kQ kQ O) (ih x i j ad hj (fD (F7 F (Hz (Dq u))) W) (Dq u) _ us _ (A3.ext E x f) (P.ext E)) ?_))))))));rintro _ w9 ⟨rfl,J⟩;have g:=J.keep g;have E:=E.ext J;have ae:t.args=[x]:=by
          match h:t.args,T,z with
          | [y],_,hy=>simp at hy;rw[hy]
         refine qV (C1 O) (qA _ O (AB (AO (Ac (AK (AY iH (v:=(.bool (!(BN x)))) O ?_))))));exact ⟨A' (by rw[L,if_neg qO,if_neg qO,if_neg qO,if_neg qO,if_pos h8,ae];simp[C6]),E⟩
        .refine AA (qV (Ai O O) (qA _ O (AB (qC O (λh9=>?_) (λh9=>?_)))))
         .have T:=HA V qO;obtain ⟨x,z⟩:=AU (l:=t.args) (i:=0) qO;have u:=Do A z;have F:=Re.size_arg z;obtain ⟨D,w,rfl,r⟩:=EV B qO;obtain ⟨us,G,f⟩:=r.get z;refine AA (qF b1 0 2 O dI O BF O (qV (AJ O A9 (g.cell O)) (qV (AL (b:=D) (o:=w) (len:=t.args.length) (cap:=ac) (i:=0) (o':=w+0*6) O O O dJ AG qO qO) (qV (AI O Ad AG f.len (G.ext E)) (qM _ O (qM _ O (qM _ O (qE O (AS kL kQ kQ O) (ih x i j ad hj (fD (F7 F (Hz (Dq u))) W) (Dq u) _ us _ (A3.ext E x f) (P.ext E)) ?_))))))));rintro _ w9 ⟨rfl,J⟩;have g:=J.keep g;have E:=E.ext J;have ae:t.args=[x]:=by
           match h:t.args,T,z with
           | [y],_,hy=>simp at hy;rw[hy]
          refine qA _ O (AB (AO (Ac (AK (AY iH (v:=(.bool (BN x))) O ?_)))));exact ⟨A' (by rw[L,if_neg qO,if_pos qO,ae];simp[C6]),E⟩
         .refine AA (qV (Ai O O) (qA _ O (AB (qC O (λa4=>?_) (λa4=>?_)))))
          .have T:=HA V qO;obtain ⟨x,z⟩:=AU (l:=t.args) (i:=0) qO;have u:=Do A z;have F:=Re.size_arg z;obtain ⟨D,w,rfl,r⟩:=EV B qO;obtain ⟨us,G,f⟩:=r.get z;have ae:t.args=[x]:=by
            match h:t.args,T,z with
            | [y],_,hy=>simp at hy;rw[hy]
           have R:BN t=(BN x != t.neg):=by rw[L,if_neg qO,if_neg qO,if_neg qO,if_neg qO,if_neg qO,if_pos a4,ae];simp[C6]
           refine AA (qA _ O (AB (AH (AA (qM _ O (qA _ O (AB (AW (Ax (λnn_ σ a2=>∃(k:Nat) (s:Bool),(∃jj_,σ=BW jj_ [(1,(.slice ta text.length tc)),(2,(I6 (i:Int))),(3,(I6 (j:Int))),(4,(P6 b1 0)),(17,(I6 (k:Int))),(16,(.bool s))])∧Chg Aj w0 a2∧BV a2 b1 (R6 t sa sc (oI D w) ac) 25∧(k<=1)∧(s=(decide (k=1) && BN x))∧nn_=1 - k) (n:=1 - i) ?_ ?_)))))))))
           .exact ⟨i,false,oH,E,g,qO,(by rw[ad];rfl),O⟩
           .clear E g;rintro _ _ a2 ⟨k,s,⟨j27,rfl⟩,E,g,hk,hp,rfl⟩;refine AH (AA (qM _ O (qM _ O (qV (AT eA O) ?_))));obtain ⟨I,al⟩:∃e,(decide ((((k:Nat):Int):Int)<=((text.length:Nat):Int)))=e:=⟨_,O⟩;refine qV ((ER O O).trans (by rw[al];try rfl)) (qM _ O (qG (.bool I) (yU I (I6 (i:Int))) (by cases I<;>first|exact gA|exact gB|exact .inl ⟨O,Am O⟩) (qG (.bool I) (yU I (I6 (j:Int))) (by cases I<;>first|exact gA|exact gB|exact .inl ⟨O,Am O⟩) ?_)));obtain ⟨ah,aj⟩:∃e,(decide ((((i:Nat):Int):Int)=((j:Nat):Int)))=e:=⟨_,O⟩;refine qG (.bool I) (yU I (.bool ah)) (by cases I<;>first|exact gA|exact gB|exact .inl ⟨O,(Ai O O).trans (by rw[aj];try rfl)⟩) ?_;obtain ⟨ap,ak⟩:∃e,(I && ah)=e:=⟨_,O⟩;refine qV (Af (v:=.bool ap) O (by rw[<-ak];cases I<;>rfl)) (AB ?_);subst ak;subst aj;subst al;refine A4 O (λK=>?_) (λK=>?_)
            .have a7:=K;simp[hn] at K;refine AM (AC (AH (AW (AN (qM _ O (qM _ O ?_))))));rcases dT (s) with N|N
             .have ba:=N;refine AD O O qD (v:=.bool true) (Ar N) (dH O) (AD O O qD (v:=.bool true) (Ar N) (dH O) (AD O O qD (v:=.bool true) (Ar N) (dH O) (AD O O qD (v:=.bool true) (Ar N) (dH O) (AD O O qD (v:=.bool true) (Ar N) (dH O) (AD O O qD (v:=.bool true) (Ar N) (dH O) (AD O O qD (v:=.bool true) (Ar N) (dH O) (AD O O qD (v:=.bool true) (Ar N) (dH O) (qV (Af (v:=(.bool true)) O (by rw[N];rfl)) (qA _ O (AB (AV (AC (AN (qM _ O (qV (A0 O O (A8 qO)) (qA _ O (AB (AC ?_))))))))))))))))));exact ⟨1 - (k+1),qO,k+1,true,oH,E,g,qO,(by rw[hp] at N;simp at N;omega),O⟩
             .have ba:=N;refine AF O O qD (Ar N) (qF b1 0 2 O dI O BF O (AF O O qD (Ar N) (qV (AJ O A9 (g.cell O)) (AF O O qD (Ar N) (qV (AL (b:=D) (o:=w) (len:=t.args.length) (cap:=ac) (i:=0) (o':=w+0*6) O O O dJ AG qO qO) (AF O O qD (Ar N) (qV (AI O Ad AG f.len (G.ext E)) (AF O O qD (Ar N) (qM _ O (AF O O qD (Ar N) (qM _ O (AF O O qD (Ar N) (qM _ O (AF O O qD (Ar N) ?_))))))))))))));refine qE O (AS kL kQ kQ O) (ih x i k ad qO (fD (F7 F (Hz (Dq u))) W) (Dq u) _ us _ (A3.ext E x f) (P.ext E)) ?_;rintro _ w9 ⟨rfl,J⟩;have g:=J.keep g;have E:=E.ext J;refine qV (Af (v:=(.bool (BN x))) O (by rw[N];rfl)) (qA _ O (AB (AV (AC (AN (qM _ O (qV (A0 O O (A8 qO)) (qA _ O (AB (AC ?_))))))))));exact ⟨1 - (k+1),qO,k+1,BN x,oH,E,g,qO,(by rw[decide_eq_true (show k+1=1 by omega)];rfl),O⟩
            .have a7:=K;simp[hn] at K;refine Av (AZ (AZ (Ao (AC (AA (qM _ O (qM _ O ?_)))))));obtain ⟨C,am⟩:∃e,(decide ((((i:Nat):Int):Int)=((j:Nat):Int)))=e:=⟨_,O⟩;refine qV ((Ai O O).trans (by rw[am];try rfl)) (qM _ O (qG (.bool C) (yU C (.bool s)) (by cases C<;>first|exact gA|exact gB|exact .inl ⟨O,Am O⟩) (qG (.bool C) (yU C (P6 b1 5)) (by cases C<;>first|exact gA|exact gB|exact .inl ⟨O,AQ O dI O G8 O⟩) (qG (.bool C) (yU C (.bool t.neg)) (by cases C<;>first|exact gA|exact gB|exact .inl ⟨O,AJ O HG (g.cell O)⟩) (qG (.bool C) (yU C (.bool (s != t.neg))) (by cases C<;>first|exact gA|exact gB|exact .inl ⟨O,J7 hU O O⟩) ?_)))));obtain ⟨bj,an⟩:∃e,(C && (s != t.neg))=e:=⟨_,O⟩;refine qV (Af (v:=.bool bj) O (by rw[<-an];cases C<;>rfl)) (qA _ O (AB ?_));subst an;subst am;refine AO (Ac (AK (AY iH (v:=(.bool ((decide ((((i:Nat):Int):Int)=((j:Nat):Int))) && (s != t.neg)))) O ?_)));exact ⟨A' (by rw[R,hp,decide_eq_true (show k=1 by omega),decide_eq_true (show ((i:Nat):Int)=((j:Nat):Int) by omega)];simp),E⟩
          .have h0:t.kind=0:=by have:=FA V;omega
           refine AM (AV (AC (AA (qA _ O (AB (AO (AY iH (v:=(.bool false)) O ?_)))))));exact ⟨FH (by rw[L];simp[h0]),E⟩
theorem St (b:World) (t:Re) (vs:n_) (e:A3 b t vs) (h:C' t) :
 Bj prog 56 #[.agg vs.toArray] b λv w=>v=.bool (BN t)∧Ah b w:=by
 have d:=e;obtain ⟨sa,sc,aa,ac,rfl,_,_,_⟩:=e.form;refine qR func56 O ntmps56 O (λE=>(AA (BC (v:=(.agg (R6 t sa sc aa ac))) (c:=(R6 t sa sc aa ac)) qD O O ?_)));intro br wr g;have E:=E.ext g.ext;have a:=g.blk;refine qA _ O (AB (AA (qV (AI (vs:=(oJ t sa sc aa ac)) O Ad AG O (a.cells O)) (qE O (AS kL kQ kQ O) (Xu [] O (Xs t+1) t 0 0 O O (Nat.lt_succ_self _) (Dq h) _ _ _ (A3.ext E t d) (BX.nil _ _ _ _)) ?_))));rintro _ w9 ⟨rfl,f⟩;have a:=f.keep a;have E:=E.ext f;refine qA _ O (AB (AO (AY results56 (v:=(.bool (BN t))) O ?_)));exact ⟨O,E⟩
end Go.Proofs
namespace Go.Proofs
open Go Go.Eng Go.Sort
set_option maxRecDepth 100000
theorem RP (a:World) (t:Re) (vs:n_) (b:A3 a t vs) (c:Au t) :
 Bj prog 56 #[.agg vs.toArray] a λv w=>v=.bool (BN t)∧Ah a w:=
 St a t vs b (EZ c).1
def Tb (t:Re):Prop:=(t.kind≠3∧Au t)∨(t.kind=3∧t.args≠[]∧∀x∈t.args,Au x)
theorem GH {t:Re} (h:Au t):Tb t:=by
 by_cases b:t.kind=3
 .exact .inr ⟨b,λe=>by have:=(h.n.k3 b).1;rw[e] at this;simp at this,h.a⟩
 .exact .inl ⟨b,h⟩
theorem IL (c:Int) (t:Re):Cv c t=if t.kind=2 then (if Ca t.set c=true then BT else BO) else if t.kind=3 then GP c t.args
 else if t.kind=4∨t.kind=7∨t.kind=8 then .mk t.kind t.set (t.args.map (Cv c)) t.mn t.mx t.neg
 else if t.kind=5 then .mk 3 [] [(t.args.map (Cv c)).headD BO,t] 0 0 false
 else if t.kind=6 then (if t.mx=0 then BO else .mk 3 [] [(t.args.map (Cv c)).headD BO,.mk 6 [] t.args (max 0 (t.mn - 1)) (t.mx - 1) false] 0 0 false)
 else BO:=by
 cases t;simp only[Cv,NO];rfl
section
variable {c : Int} {t x : Re}
theorem cK (h:t.kind=2):Cv c t=if Ca t.set c=true then BT else BO:=by rw[IL,if_pos h]
theorem bY (h:t.kind=3):Cv c t=GP c t.args:=by rw[IL,if_neg qO,if_pos h]
theorem aK (h:t.kind=4∨t.kind=7∨t.kind=8):Cv c t=.mk t.kind t.set (t.args.map (Cv c)) t.mn t.mx t.neg:=by rw[IL,if_neg qO,if_neg qO,if_pos h]
theorem dB (h:t.kind=5) (a:t.args=[x]):Cv c t=.mk 3 [] [Cv c x,t] 0 0 false:=by rw[IL,if_neg qO,if_neg qO,if_neg qO,if_pos h,a];rfl
theorem c_ (h:t.kind=6) (a:t.args=[x]) (b:t.mx≠0):Cv c t=.mk 3 [] [Cv c x,.mk 6 [] [x] (max 0 (t.mn - 1)) (t.mx - 1) false] 0 0 false:=by rw[IL,if_neg qO,if_neg qO,if_neg qO,if_neg qO,if_pos h,if_neg b,a];rfl
theorem cZ (h:t.kind=0∨t.kind=1):Cv c t=BO:=by rw[IL,if_neg qO,if_neg qO,if_neg qO,if_neg qO,if_neg qO]
theorem dD:GP c [x]=Cv c x:=by simp[GP]
theorem dC {l:List Re} (h:l≠[]):GP c (x::l)=if BN x=true then .mk 4 [] [.mk 3 [] [Cv c x,.mk 3 [] l 0 0 false] 0 0 false,GP c l] 0 0 false else .mk 3 [] [Cv c x,.mk 3 [] l 0 0 false] 0 0 false:=by
 conv=>lhs;unfold GP
 rw[if_neg h]
end
def SF (c:Int) (n:Nat):Prop:=∀(t:Re) (w0:World) (S:oD) (vs:n_),t.size<n->Tb t->AR S w0 t vs->(∀x,S x->x<w0.heap.size)->
  Bj prog 81 #[.agg vs.toArray,I6 c] w0 λr w=>(∃us,r=.agg us.toArray∧AR (λb=>S b∨w0.heap.size<=b) w (Cv c t) us)∧Ah w0 w
section
variable {N : Nat} {σ : CZ} {w : World} {dst : Option Tmp} {ty : TypeId} {pos : String} {af : Array Edge} {g : Option (Nat × Bool)} {S : Nat → Prop} {x : Operand}
theorem Ho {k:Int} {b n:Nat} {l:List Re} (a:ev σ x=.slice (oI b 0) n n) (h:CE S w (.slice (oI b 0) n n) l) (hn:l.length=n) :
 Ka prog N ⟨dst,.build 25 #[(0,.const (I6 k)),(2,x)],ty,pos,af,g⟩ (DQ S (.mk k [] l 0 0 false)) σ w:=by
 subst hn;exact AP (B0 (parts:=[(0,.const (I6 k)),(2,x)]) (ps:=[(0,I6 k),(2,.slice (oI b 0) l.length l.length)]) (v:=.agg #[I6 k,.slice none 0 0,.slice (oI b 0) l.length l.length,I6 0,I6 0,.bool false]) (by simp only[List.map,a];rfl) qK) (Ah.refl _) ⟨none,0,oI b 0,l.length,O,VE h O⟩
end
theorem ZR (c:Int) (t:Re) (hk:t.kind=2) (w0:World) (S:Nat→Prop) (vs:n_) (ht:AR S w0 t vs) :
  Bj prog 81 #[.agg vs.toArray,I6 c] w0 λr w=>(∃us,r=.agg us.toArray∧AR (λb=>S b∨w0.heap.size≤b) w (Cv c t) us)∧Ah w0 w:=by
 have ht0:=ht;obtain ⟨sa,sc,aa,ac,rfl,af,aj,ag⟩:=ht.form;refine qR jS rfl ntmps81 rfl (λE=>(AA (BC (v:=(.agg (R6 t sa sc aa ac))) (c:=(R6 t sa sc aa ac)) qD rfl rfl ?_)));intro br wr Nr;have Fr:=Nr.ge E;have E:=E.ext Nr.ext;have Br:=Nr.blk;refine BC (v:=(I6 c)) (c:=#[(I6 c)]) qD rfl rfl ?_;intro bu wu Nu;have Fu:=Nu.ge E;have Ou_br:=Nu.lt Br;have Br:=Nu.keep Br;have E:=E.ext Nu.ext;have Bu:=Nu.blk;refine BK (c:=#[(I6 0),(.slice none 0 0),(.slice none 0 0),(I6 0),(I6 0),(.bool false)]) qD A1 rfl ?_;intro bo wo No;have Fo:=No.ge E;have Oo_br:=No.lt Br;have Oo_bu:=No.lt Bu;have Br:=No.keep Br;have Bu:=No.keep Bu;have E:=E.ext No.ext;have Bo:=No.blk;refine AB (AH (AA (qF br 0 0 rfl dI rfl Al rfl (qV (AJ rfl Ag (Br.cell rfl)) (AB (AW (AA (qV (Ai rfl rfl) (qA _ rfl (AB ?_))))))))));have ah:(decide ((t.kind:Int)=2))=true:=decide_eq_true hk;refine Aq (Ar ah) (AA (qF br 0 1 rfl dI rfl Bc rfl (qV (AJ rfl Bf (Br.cell rfl)) (qV (AJ rfl Ag (Bu.cell rfl)) (qE rfl (AS func36 kQ kQ rfl) (JV _ _ t.set c (af.at.ext E)) ?_)))));rintro _ w9 ⟨rfl,X9⟩;have Br:=X9.keep Br;have Bu:=X9.keep Bu;have Bo:=X9.keep Bo;have E:=E.ext X9;refine AB (A4 rfl (λad=>?_) (λad=>?_))
 ·have ae:=ad;refine AA (qE rfl (AS func48 kQ kQ rfl) (JK _) ?_);rintro _ ai ⟨rfl,ab⟩;have Br:=ab.keep Br;have Bu:=ab.keep Bu;have Bo:=ab.keep Bo;have E:=E.ext ab;refine Aa (b:=bo) (o:=0) (c':=#[(I6 1),(.slice none 0 0),(.slice none 0 0),(I6 0),(I6 0),(.bool false)]) rfl rfl qS AG rfl Bo qL rfl ?_;intro w3 S3;have Br:=S3.keep qO Br;have Bu:=S3.keep qO Bu;have E:=S3.step E (by first|exact dH qO|assumption|exact dG rfl|exact dG (by assumption)|exact dG qP|exact dG qO|exact dG (by dsimp only;omega));have Bo:=S3.blk;refine AB (AO (Ac (AK (A2 jU (vs:=[(I6 1),(.slice none 0 0),(.slice none 0 0),(I6 0),(I6 0),(.bool false)]) (b:=bo) rfl Ad AG rfl (Bo.cells rfl) ?_))));exact ⟨⟨_,rfl,by rw[cK hk,if_pos ad];exact CF _ _ _⟩,E⟩
 ·have ae:=ad;refine AM (AV (AC (AA (qE rfl (AS func82 kQ kQ rfl) (JI _) ?_))));rintro _ ai ⟨rfl,ab⟩;have Br:=ab.keep Br;have Bu:=ab.keep Bu;have Bo:=ab.keep Bo;have E:=E.ext ab;refine Aa (b:=bo) (o:=0) (c':=#[(I6 0),(.slice none 0 0),(.slice none 0 0),(I6 0),(I6 0),(.bool false)]) rfl rfl qS AG rfl Bo qL rfl ?_;intro w4 S4;have Br:=S4.keep qO Br;have Bu:=S4.keep qO Bu;have E:=S4.step E (by first|exact dH qO|assumption|exact dG rfl|exact dG (by assumption)|exact dG qP|exact dG qO|exact dG (by dsimp only;omega));have Bo:=S4.blk;refine AB (AO (A2 jU (vs:=[(I6 0),(.slice none 0 0),(.slice none 0 0),(I6 0),(I6 0),(.bool false)]) (b:=bo) rfl Ad AG rfl (Bo.cells rfl) ?_));exact ⟨⟨_,rfl,by rw[cK hk,if_neg (by rw[ad];decide)];exact CF _ _ _⟩,E⟩
theorem VM (c:Int) (t:Re) (hk:t.kind=0∨t.kind=1) (w0:World) (S:Nat→Prop) (vs:n_) (ht:AR S w0 t vs) :
  Bj prog 81 #[.agg vs.toArray,I6 c] w0 λr w=>(∃us,r=.agg us.toArray∧AR (λb=>S b∨w0.heap.size≤b) w (Cv c t) us)∧Ah w0 w:=by
 have ht0:=ht;obtain ⟨sa,sc,aa,ac,rfl,ak,al,ad⟩:=ht.form;refine qR jS rfl ntmps81 rfl (λE=>(AA (BC (v:=(.agg (R6 t sa sc aa ac))) (c:=(R6 t sa sc aa ac)) qD rfl rfl ?_)));intro br wr Nr;have Fr:=Nr.ge E;have E:=E.ext Nr.ext;have Br:=Nr.blk;refine BC (v:=(I6 c)) (c:=#[(I6 c)]) qD rfl rfl ?_;intro bu wu Nu;have Fu:=Nu.ge E;have Ou_br:=Nu.lt Br;have Br:=Nu.keep Br;have E:=E.ext Nu.ext;have Bu:=Nu.blk;refine BK (c:=#[(I6 0),(.slice none 0 0),(.slice none 0 0),(I6 0),(I6 0),(.bool false)]) qD A1 rfl ?_;intro bo wo No;have Fo:=No.ge E;have Oo_br:=No.lt Br;have Oo_bu:=No.lt Bu;have Br:=No.keep Br;have Bu:=No.keep Bu;have E:=E.ext No.ext;have Bo:=No.blk;refine AB (AH (AA (qF br 0 0 rfl dI rfl Al rfl (qV (AJ rfl Ag (Br.cell rfl)) (AB (AW (AA (qV (Ai rfl rfl) (qA _ rfl (AB ?_))))))))));have aj:(decide ((t.kind:Int)=2))=false:=decide_eq_false qO;refine Ae (Ar aj) (AA (qV (Ai rfl rfl) (qA _ rfl (AB ?_))));have ag:(decide ((t.kind:Int)=3))=false:=decide_eq_false qO;refine Ae (Ar ag) (AH (AA (qV (Ai rfl rfl) (qA _ rfl (AB ?_)))));have af:(decide ((t.kind:Int)=4))=false:=decide_eq_false qO;refine Ae (Ar af) (AA (qV (Ai rfl rfl) (qA _ rfl (AB ?_))));have ai:(decide ((t.kind:Int)=7))=false:=decide_eq_false qO;refine Ae (Ar ai) (AN (qV (Ai rfl rfl) (qA _ rfl (AB (AC ?_)))));have am:(decide ((t.kind:Int)=8))=false:=decide_eq_false qO;refine Ae (Ar am) (AA (qV (Ai rfl rfl) (qA _ rfl (AB ?_))));have ah:(decide ((t.kind:Int)=5))=false:=decide_eq_false qO;refine Ae (Ar ah) (AA (qV (Ai rfl rfl) (qA _ rfl (AB ?_))));have ae:(decide ((t.kind:Int)=6))=false:=decide_eq_false qO;refine Ae (Ar ae) (AM (AV (AC (AA (qE rfl (AS func82 kQ kQ rfl) (JI _) ?_)))));rintro _ w29 ⟨rfl,ab⟩;have Br:=ab.keep Br;have Bu:=ab.keep Bu;have Bo:=ab.keep Bo;have E:=E.ext ab;refine Aa (b:=bo) (o:=0) (c':=#[(I6 0),(.slice none 0 0),(.slice none 0 0),(I6 0),(I6 0),(.bool false)]) rfl rfl qS AG rfl Bo qL rfl ?_;intro w8 S8;have Br:=S8.keep qO Br;have Bu:=S8.keep qO Bu;have E:=S8.step E (by first|exact dH qO|assumption|exact dG rfl|exact dG (by assumption)|exact dG qP|exact dG qO|exact dG (by dsimp only;omega));have Bo:=S8.blk;refine AB (AO (A2 jU (vs:=[(I6 0),(.slice none 0 0),(.slice none 0 0),(I6 0),(I6 0),(.bool false)]) (b:=bo) rfl Ad AG rfl (Bo.cells rfl) ?_));exact ⟨⟨_,rfl,by rw[cZ hk];exact CF _ _ _⟩,E⟩
theorem ZQ (c:Int) (n:Nat) (ih:SF c n) (t:Re) (hn:t.size≤n) (hok:Au t) (hk:t.kind=5) (w0:World) (S:Nat→Prop) (vs:n_) (ht:AR S w0 t vs) (hS:∀x,S x→x<w0.heap.size) :
  Bj prog 81 #[.agg vs.toArray,I6 c] w0 λr w=>(∃us,r=.agg us.toArray∧AR (λb=>S b∨w0.heap.size≤b) w (Cv c t) us)∧Ah w0 w:=by
 have bg:=ht;obtain ⟨sa,sc,aa,ac,rfl,a9,bw,ai⟩:=ht.form;obtain ⟨x,au,bf⟩:∃x,t.args=[x]∧Au x:=by obtain ⟨y,hy,_⟩:=hok.n.k5 hk;exact ⟨y,hy,hok.a y (by rw[hy];simp)⟩
 have hx:t.args[0]?=some x:=by rw[au];rfl
 have a2:t.args.length=1:=by rw[au];rfl
 have hxz:=Re.size_arg hx;obtain ⟨ab,ao,hab,rfl,ax⟩:=ai.resolve_left (λh=>by rw[h] at hx;cases hx);obtain ⟨us,a3,ay⟩:=ax.get hx;have av:=ay;obtain ⟨aw,am,ar,ap,rfl,_,_,_⟩:=ay.form;obtain ⟨D,hD⟩:∃D,D=Cv c x:=⟨_,rfl⟩;have az:Cv c t=.mk 3 [] [D,t] 0 0 false:=by rw[hD];exact dB hk au
 rw[az];clear az;refine qR jS rfl ntmps81 rfl (λE=>(AA (BC (v:=(.agg (R6 t sa sc (oI ab ao) ac))) (c:=(R6 t sa sc (oI ab ao) ac)) qD rfl rfl ?_)));intro br wr Nr;have Fr:=Nr.ge E;have E:=E.ext Nr.ext;have Br:=Nr.blk;refine BC (v:=(I6 c)) (c:=#[(I6 c)]) qD rfl rfl ?_;intro bu wu Nu;have Fu:=Nu.ge E;have Ou_br:=Nu.lt Br;have Br:=Nu.keep Br;have E:=E.ext Nu.ext;have Bu:=Nu.blk;refine BK (c:=#[(I6 0),(.slice none 0 0),(.slice none 0 0),(I6 0),(I6 0),(.bool false)]) qD A1 rfl ?_;intro bo wo No;have Fo:=No.ge E;have Oo_br:=No.lt Br;have Oo_bu:=No.lt Bu;have Br:=No.keep Br;have Bu:=No.keep Bu;have E:=E.ext No.ext;have Bo:=No.blk;refine AB (AH (AA (qF br 0 0 rfl dI rfl Al rfl (qV (AJ rfl Ag (Br.cell rfl)) (AB (AW (AA (qV (Ai rfl rfl) (qA _ rfl (AB ?_))))))))));obtain ⟨n1,aq⟩:∃n1,n1=wo.heap.size:=⟨_,rfl⟩;have hob:br<n1∧bo<n1∧w0.heap.size≤bo∧w0.heap.size≤n1:=⟨by rw[aq];exact Br.lt,by rw[aq];exact Bo.lt,qO,by rw[aq];exact E.size⟩;have a4:n1≤wo.heap.size:=qO
 have a6:(decide ((t.kind:Int)=2))=false:=decide_eq_false qO;refine Ae (Ar a6) (AA (qV (Ai rfl rfl) (qA _ rfl (AB ?_))));have bm:(decide ((t.kind:Int)=3))=false:=decide_eq_false qO;refine Ae (Ar bm) (AH (AA (qV (Ai rfl rfl) (qA _ rfl (AB ?_)))));have a1:(decide ((t.kind:Int)=4))=false:=decide_eq_false qO;refine Ae (Ar a1) (AA (qV (Ai rfl rfl) (qA _ rfl (AB ?_))));have a5:(decide ((t.kind:Int)=7))=false:=decide_eq_false qO;refine Ae (Ar a5) (AN (qV (Ai rfl rfl) (qA _ rfl (AB (AC ?_)))));have bx:(decide ((t.kind:Int)=8))=false:=decide_eq_false qO;refine Ae (Ar bx) (AA (qV (Ai rfl rfl) (qA _ rfl (AB ?_))));have bn:(decide ((t.kind:Int)=5))=true:=decide_eq_true hk;refine Aq (Ar bn) ?_;have bb:w0.heap.size≤wo.heap.size:=E.size;have ak:br<wo.heap.size:=Br.lt;have al:bu<wo.heap.size:=Bu.lt;have aj:bo<wo.heap.size:=Bo.lt;refine AH ?_;obtain ⟨ba,ad⟩:∃Fs:List Fact,Fs=[.eq (P6 br 2),.eq (.slice (oI ab ao) t.args.length ac),.eq (.pointer (some ⟨ab,ao+0*6,none⟩)),.eq (.agg (R6 x aw am ar ap)),.eq (I6 c),.gen (DQ (λb=>S b∨n1≤b) D) (BD _ _),.eq (.agg (R6 t sa sc (oI ab ao) ac)),.gen (Lf (λb=>S b∨n1≤b) [D,t]) (DE _ _),.gen (DQ (λb=>S b∨n1≤b) (.mk 3 [] [D,t] 0 0 false)) (BD _ _),.eq undef]:=⟨_,rfl⟩;refine FQ [true,true,true,true,true,true,true,true,true,false] [9] [64,65,66,67,68,69,70,71,72,108] [[],[0],[1],[2],[],[3,4],[],[5,6],[7],[]] ba ad mixed qK qK qK qK ?_ ?_
 ·intro wd X0;refine DagStepsP.cons (λs' w' X U H=>dH ⟨?_,?_⟩) ?_
  ·exact AE rfl
  ·exact AP (AQ (U 2 rfl) dI rfl BF rfl) (Ah.refl _) rfl
  refine DagStepsP.cons (λs' w' X U H=>dH ⟨?_,?_⟩) ?_
  ·exact AE rfl
  ·have a7:s' 64=(P6 br 2):=H 0 rfl 64 (.eq (P6 br 2)) rfl (by rw[ad];rfl);exact AP (AJ a7 A9 (((X0.trans X).keep Br).cell rfl)) (Ah.refl _) rfl
  refine DagStepsP.cons (λs' w' X U H=>dH ⟨?_,?_⟩) ?_
  ·exact AE rfl
  ·have a8:s' 65=(.slice (oI ab ao) t.args.length ac):=H 1 rfl 65 (.eq (.slice (oI ab ao) t.args.length ac)) rfl (by rw[ad];rfl);exact AP (AL (i:=0) a8 rfl rfl dJ AG qO qO) (Ah.refl _) rfl
  refine DagStepsP.cons (λs' w' X U H=>dH ⟨?_,?_⟩) ?_
  ·exact AE rfl
  ·have bq:s' 66=(.pointer (some ⟨ab,ao+0*6,none⟩)):=H 2 rfl 66 (.eq (.pointer (some ⟨ab,ao+0*6,none⟩))) rfl (by rw[ad];rfl);exact AP (AI bq Ad AG rfl (a3.ext (Ah.trans E (X0.trans X)))) (Ah.refl _) rfl
  refine DagStepsP.cons (λs' w' X U H=>dH ⟨?_,?_⟩) ?_
  ·exact AE rfl
  ·exact AP (AJ (U 3 rfl) Ag (((X0.trans X).keep Bu).cell rfl)) (Ah.refl _) rfl
  refine DagStepsP.cons (λs' w' X U H=>dH ⟨?_,?_⟩) ?_
  ·exact AE rfl
  ·have bv:s' 67=(.agg (R6 x aw am ar ap)):=H 3 rfl 67 (.eq (.agg (R6 x aw am ar ap))) rfl (by rw[ad];rfl);have bi:s' 68=(I6 c):=H 4 rfl 68 (.eq (I6 c)) rfl (by rw[ad];rfl);exact A7 (AS jS kQ kQ (F_ bv bi)) ((ih x _ S _ qO (GH bf) (AR.ext (Ah.trans E (X0.trans X)) x av) (λy hy=>by have:=hS y hy;have:=E.size;have:=X0.size;have:=X.size;omega)).mono (λr w h=>⟨CI (S':=λb=>S b∨w'.heap.size≤b) (λb hb=>by rcases hb with h1|h1;exact .inl h1;exact .inr (by have:=E.size;have:=X0.size;have:=X.size;omega)) (by rw[hD];exact h.1),h.2⟩))
  refine DagStepsP.cons (λs' w' X U H=>dH ⟨?_,?_⟩) ?_
  ·exact AE rfl
  ·exact AP (AI (U 2 rfl) Ad AG rfl (((X0.trans X).keep Br).cells rfl)) (Ah.refl _) rfl
  refine DagStepsP.cons (λs' w' X U H=>dH ⟨?_,?_⟩) ?_
  ·exact AE rfl
  ·obtain ⟨bp,bs,bj,bh,a0,bd⟩:=H 5 rfl 69 (.gen (DQ (λb=>S b∨n1≤b) D) (BD _ _)) rfl (by rw[ad];rfl);have bc:s' 70=(.agg (R6 t sa sc (oI ab ao) ac)):=H 6 rfl 70 (.eq (.agg (R6 t sa sc (oI ab ao) ac))) rfl (by rw[ad];rfl);exact Fb a0 bc bd (AR.mono (λy hy=>.inl hy) t (AR.ext (Ah.trans E (X0.trans X)) t bg)) (λb hb=>.inr (by have:=E.size;have:=X0.size;have:=X.size;omega))
  refine DagStepsP.cons (λs' w' X U H=>dH ⟨?_,?_⟩) ?_
  ·exact AE rfl
  ·obtain ⟨b71,bk,be⟩:=H 7 rfl 71 (.gen (Lf (λb=>S b∨n1≤b) [D,t]) (DE _ _)) rfl (by rw[ad];rfl);exact Ho bk be rfl
  refine DagStepsP.tail ?_;exact DagStepsP.nil
 ·intro s' w7 X7 U H;obtain ⟨ah,af,ae,ag,bt,an⟩:=H 8 rfl 72 (.gen (DQ (λb=>S b∨n1≤b) (.mk 3 [] [D,t] 0 0 false)) (BD _ _)) rfl (by rw[ad];rfl);obtain ⟨j7,rfl⟩:=Ak.out (σ:=s') (l:=[(4,(P6 bo 0)),(72,(.agg #[(I6 3),(.slice ah 0 af),(.slice ae 2 ag),(I6 0),(I6 0),(.bool false)]))]) ⟨U 4 rfl,bt,trivial⟩;clear U H;have Br:=X7.keep Br;have Bu:=X7.keep Bu;have Bo:=X7.keep Bo;have E:=E.ext X7;refine Aa (b:=bo) (o:=0) (c':=#[(I6 3),(.slice ah 0 af),(.slice ae 2 ag),(I6 0),(I6 0),(.bool false)]) rfl rfl qS AG rfl Bo qL rfl ?_;intro w8 S8;have an:=AR.chg S8.chg (λy hy h=>by have h2:y=bo:=h;rcases hy with h1|h1;have:=hS y h1;omega;omega) _ an;have Br:=S8.keep qO Br;have Bu:=S8.keep qO Bu;have E:=S8.step E (by first|exact dH qO|assumption|exact dG rfl|exact dG (by assumption)|exact dG qP|exact dG qO|exact dG (by dsimp only;omega));have Bo:=S8.blk;refine AB (AC (AO (Ac (AK (A2 jU (vs:=[(I6 3),(.slice ah 0 af),(.slice ae 2 ag),(I6 0),(I6 0),(.bool false)]) (b:=bo) rfl Ad AG rfl (Bo.cells rfl) ?_)))));exact ⟨⟨_,rfl,AR.mono (λy hy=>by rcases hy with h1|h1;exact .inl h1;exact .inr qO) _ an⟩,E⟩
theorem ZM {S:oD} {w:World} {a:oE} {n c:Nat} {x:Re} {m u:Int} (h:CE S w (.slice a n c) [x]):AR S w (.mk 6 [] [x] m u false) [I6 6,.slice none 0 0,.slice a n c,I6 m,I6 u,.bool false]:=by
 obtain ⟨aa,ac,b,e,d⟩:=h;simp only[Value.slice.injEq] at b;obtain ⟨rfl,rfl,rfl⟩:=b;exact AR.of (set:=[]) (B_.nil _ _ _ _ _) e d
theorem ZP (c:Int) (n:Nat) (ih:SF c n) (t:Re) (hn:t.size≤n) (hok:Au t) (hk:t.kind=6) (w0:World) (S:Nat→Prop) (vs:n_) (ht:AR S w0 t vs) (hS:∀x,S x→x<w0.heap.size) :
  Bj prog 81 #[.agg vs.toArray,I6 c] w0 λr w=>(∃us,r=.agg us.toArray∧AR (λb=>S b∨w0.heap.size≤b) w (Cv c t) us)∧Ah w0 w:=by
 have a9:=ht;obtain ⟨sa,sc,aa,ac,rfl,bt,b0,ak⟩:=ht.form;obtain ⟨x,ae,b6,b2,hm1,hm2,hm3,hm4,hm5⟩:=hok.n.k6 hk;have ba:Au x:=hok.a x (by rw[ae];simp);have hx:t.args[0]?=some x:=by rw[ae];rfl
 have bb:t.args.length=1:=by rw[ae];rfl
 have hxz:=Re.size_arg hx;have b8:CE S w0 (.slice aa t.args.length ac) t.args:=GO a9;obtain ⟨ab,ao,hab,rfl,az⟩:=ak.resolve_left (λh=>by rw[h] at hx;cases hx);obtain ⟨us,be,a0⟩:=az.get hx;have aw:=a0;obtain ⟨ax,au,ar,ay,rfl,_,_,_⟩:=a0.form;obtain ⟨D,hD⟩:∃D,D=Cv c x:=⟨_,rfl⟩;obtain ⟨m1,a3⟩:∃m1,m1=max 0 (t.mn - 1):=⟨_,rfl⟩;obtain ⟨x1,a1⟩:∃x1,x1=t.mx - 1:=⟨_,rfl⟩;have a2:Cv c t=.mk 3 [] [D,.mk 6 [] [x] m1 x1 false] 0 0 false:=by rw[hD,a3,a1];exact c_ hk ae qO
 rw[a2];clear a2;have bx:AR S w0 (.mk 6 [] [x] m1 x1 false) [I6 6,.slice none 0 0,.slice (oI ab ao) t.args.length ac,I6 m1,I6 x1,.bool false]:=by
  have h2:=b8;rw[ae] at h2;rw[ae];exact ZM h2
 refine qR jS rfl ntmps81 rfl (λE=>(AA (BC (v:=(.agg (R6 t sa sc (oI ab ao) ac))) (c:=(R6 t sa sc (oI ab ao) ac)) qD rfl rfl ?_)));intro br wr Nr;have Fr:=Nr.ge E;have E:=E.ext Nr.ext;have Br:=Nr.blk;refine BC (v:=(I6 c)) (c:=#[(I6 c)]) qD rfl rfl ?_;intro bu wu Nu;have Fu:=Nu.ge E;have Ou_br:=Nu.lt Br;have Br:=Nu.keep Br;have E:=E.ext Nu.ext;have Bu:=Nu.blk;refine BK (c:=#[(I6 0),(.slice none 0 0),(.slice none 0 0),(I6 0),(I6 0),(.bool false)]) qD A1 rfl ?_;intro bo wo No;have Fo:=No.ge E;have Oo_br:=No.lt Br;have Oo_bu:=No.lt Bu;have Br:=No.keep Br;have Bu:=No.keep Bu;have E:=E.ext No.ext;have Bo:=No.blk;refine AB (AH (AA (qF br 0 0 rfl dI rfl Al rfl (qV (AJ rfl Ag (Br.cell rfl)) (AB (AW (AA (qV (Ai rfl rfl) (qA _ rfl (AB ?_))))))))));obtain ⟨n1,aq⟩:∃n1,n1=wo.heap.size:=⟨_,rfl⟩;have hob:br<n1∧bo<n1∧w0.heap.size≤bo∧w0.heap.size≤n1:=⟨by rw[aq];exact Br.lt,by rw[aq];exact Bo.lt,qO,by rw[aq];exact E.size⟩;have bj:n1≤wo.heap.size:=qO
 have bm:(decide ((t.kind:Int)=2))=false:=decide_eq_false qO;refine Ae (Ar bm) (AA (qV (Ai rfl rfl) (qA _ rfl (AB ?_))));have bg:(decide ((t.kind:Int)=3))=false:=decide_eq_false qO;refine Ae (Ar bg) (AH (AA (qV (Ai rfl rfl) (qA _ rfl (AB ?_)))));have a8:(decide ((t.kind:Int)=4))=false:=decide_eq_false qO;refine Ae (Ar a8) (AA (qV (Ai rfl rfl) (qA _ rfl (AB ?_))));have bn:(decide ((t.kind:Int)=7))=false:=decide_eq_false qO;refine Ae (Ar bn) (AN (qV (Ai rfl rfl) (qA _ rfl (AB (AC ?_)))));have b7:(decide ((t.kind:Int)=8))=false:=decide_eq_false qO;refine Ae (Ar b7) (AA (qV (Ai rfl rfl) (qA _ rfl (AB ?_))));have bh:(decide ((t.kind:Int)=5))=false:=decide_eq_false qO;refine Ae (Ar bh) (AA (qV (Ai rfl rfl) (qA _ rfl (AB ?_))));have a5:(decide ((t.kind:Int)=6))=true:=decide_eq_true hk;refine Aq (Ar a5) (AH (AA (qF br 0 4 rfl dI rfl Al rfl (qV (AJ rfl Ag (Br.cell rfl)) (qV (Ai rfl rfl) (AB ?_))))));have a7:(decide ((t.mx:Int)=0))=false:=decide_eq_false qO;refine Ae (Ar a7) (AM (AC (AA (qF br 0 3 rfl dI rfl Al rfl (qV (AJ rfl Ag (Br.cell rfl)) (qV (DZ rfl rfl (A8 qO)) (qV (RH (c:=m1) rfl rfl a3.symm) (qF br 0 4 rfl dI rfl Al rfl (qV (AJ rfl Ag (Br.cell rfl)) (qV (DZ rfl rfl (A8 qO)) (qF br 0 2 rfl dI rfl BF rfl (qV (AJ rfl A9 (Br.cell rfl)) (qV (B0 (ps:=[(0,(I6 6)),(3,(I6 m1)),(4,(I6 (t.mx - 1))),(2,(.slice (oI ab ao) t.args.length ac))]) (v:=(.agg #[(I6 6),(.slice none 0 0),(.slice (oI ab ao) t.args.length ac),(I6 m1),(I6 (t.mx - 1)),(.bool false)])) rfl qK) (As (v:=(.agg #[(I6 6),(.slice none 0 0),(.slice (oI ab ao) t.args.length ac),(I6 m1),(I6 (t.mx - 1)),(.bool false)])) (c:=#[(I6 6),(.slice none 0 0),(.slice (oI ab ao) t.args.length ac),(I6 m1),(I6 (t.mx - 1)),(.bool false)]) (n:=6) qD A1 rfl AG rfl rfl rfl qS ?_))))))))))))));intro bq wq Nq;have Fq:=Nq.ge E;have Oq_br:=Nq.lt Br;have Oq_bu:=Nq.lt Bu;have Oq_bo:=Nq.lt Bo;have Br:=Nq.keep Br;have Bu:=Nq.keep Bu;have Bo:=Nq.keep Bo;have E:=E.ext Nq.ext;have Bq:=Nq.blk;refine AB ?_;have bz:w0.heap.size≤wq.heap.size:=E.size;have al:br<wq.heap.size:=Br.lt;have am:bu<wq.heap.size:=Bu.lt;have an:bo<wq.heap.size:=Bo.lt;have ap:bq<wq.heap.size:=Bq.lt;refine AH ?_;obtain ⟨bk,ad⟩:∃Fs:List Fact,Fs=[.eq (P6 br 2),.eq (.slice (oI ab ao) t.args.length ac),.eq (.pointer (some ⟨ab,ao+0*6,none⟩)),.eq (.agg (R6 x ax au ar ay)),.eq (I6 c),.gen (DQ (λb=>S b∨n1≤b) D) (BD _ _),.eq (.agg #[(I6 6),(.slice none 0 0),(.slice (oI ab ao) t.args.length ac),(I6 m1),(I6 (t.mx - 1)),(.bool false)]),.gen (Lf (λb=>S b∨n1≤b) [D,.mk 6 [] [x] m1 x1 false]) (DE _ _),.gen (DQ (λb=>S b∨n1≤b) (.mk 3 [] [D,.mk 6 [] [x] m1 x1 false] 0 0 false)) (BD _ _),.eq undef]:=⟨_,rfl⟩;refine FQ [true,true,true,true,true,true,true,true,true,false] [9] [89,90,91,92,93,94,95,96,97,108] [[],[0],[1],[2],[],[3,4],[],[5,6],[7],[]] bk ad mixed qK qK qK qK ?_ ?_
 ·intro wd X0;refine DagStepsP.cons (λs' w' X U H=>dH ⟨?_,?_⟩) ?_
  ·exact AE rfl
  ·exact AP (AQ (U 2 rfl) dI rfl BF rfl) (Ah.refl _) rfl
  refine DagStepsP.cons (λs' w' X U H=>dH ⟨?_,?_⟩) ?_
  ·exact AE rfl
  ·have bv:s' 89=(P6 br 2):=H 0 rfl 89 (.eq (P6 br 2)) rfl (by rw[ad];rfl);exact AP (AJ bv A9 (((X0.trans X).keep Br).cell rfl)) (Ah.refl _) rfl
  refine DagStepsP.cons (λs' w' X U H=>dH ⟨?_,?_⟩) ?_
  ·exact AE rfl
  ·have bs:s' 90=(.slice (oI ab ao) t.args.length ac):=H 1 rfl 90 (.eq (.slice (oI ab ao) t.args.length ac)) rfl (by rw[ad];rfl);exact AP (AL (i:=0) bs rfl rfl dJ AG qO qO) (Ah.refl _) rfl
  refine DagStepsP.cons (λs' w' X U H=>dH ⟨?_,?_⟩) ?_
  ·exact AE rfl
  ·have bp:s' 91=(.pointer (some ⟨ab,ao+0*6,none⟩)):=H 2 rfl 91 (.eq (.pointer (some ⟨ab,ao+0*6,none⟩))) rfl (by rw[ad];rfl);exact AP (AI bp Ad AG rfl (be.ext (Ah.trans E (X0.trans X)))) (Ah.refl _) rfl
  refine DagStepsP.cons (λs' w' X U H=>dH ⟨?_,?_⟩) ?_
  ·exact AE rfl
  ·exact AP (AJ (U 3 rfl) Ag (((X0.trans X).keep Bu).cell rfl)) (Ah.refl _) rfl
  refine DagStepsP.cons (λs' w' X U H=>dH ⟨?_,?_⟩) ?_
  ·exact AE rfl
  ·have b3:s' 92=(.agg (R6 x ax au ar ay)):=H 3 rfl 92 (.eq (.agg (R6 x ax au ar ay))) rfl (by rw[ad];rfl);have bd:s' 93=(I6 c):=H 4 rfl 93 (.eq (I6 c)) rfl (by rw[ad];rfl);exact A7 (AS jS kQ kQ (F_ b3 bd)) ((ih x _ S _ qO (GH ba) (AR.ext (Ah.trans E (X0.trans X)) x aw) (λy hy=>by have:=hS y hy;have:=E.size;have:=X0.size;have:=X.size;omega)).mono (λr w h=>⟨CI (S':=λb=>S b∨w'.heap.size≤b) (λb hb=>by rcases hb with h1|h1;exact .inl h1;exact .inr (by have:=Nq.ext.size;have:=X0.size;have:=X.size;omega)) (by rw[hD];exact h.1),h.2⟩))
  refine DagStepsP.cons (λs' w' X U H=>dH ⟨?_,?_⟩) ?_
  ·exact AE rfl
  ·exact AP (AI (U 7 rfl) Ad AG rfl (((X0.trans X).keep Bq).cells rfl)) (Ah.refl _) rfl
  refine DagStepsP.cons (λs' w' X U H=>dH ⟨?_,?_⟩) ?_
  ·exact AE rfl
  ·obtain ⟨bc,b4,bf,b5,bi,b9⟩:=H 5 rfl 94 (.gen (DQ (λb=>S b∨n1≤b) D) (BD _ _)) rfl (by rw[ad];rfl);have b1:s' 95=(.agg #[(I6 6),(.slice none 0 0),(.slice (oI ab ao) t.args.length ac),(I6 m1),(I6 (t.mx - 1)),(.bool false)]):=H 6 rfl 95 (.eq (.agg #[(I6 6),(.slice none 0 0),(.slice (oI ab ao) t.args.length ac),(I6 m1),(I6 (t.mx - 1)),(.bool false)])) rfl (by rw[ad];rfl);exact Fb (Y:=.mk 6 [] [x] m1 x1 false) bi (b1.trans (by rw[ae,a1];rfl)) b9 (by have h5:=AR.mono (S':=λb=>S b∨n1≤b) (λy hy=>.inl hy) _ (AR.ext (Ah.trans E (X0.trans X)) _ bx);rw[ae] at h5;exact h5) (λb hb=>.inr (by have:=Nq.ext.size;have:=X0.size;have:=X.size;omega))
  refine DagStepsP.cons (λs' w' X U H=>dH ⟨?_,?_⟩) ?_
  ·exact AE rfl
  ·obtain ⟨b96,a4,a6⟩:=H 7 rfl 96 (.gen (Lf (λb=>S b∨n1≤b) [D,.mk 6 [] [x] m1 x1 false]) (DE _ _)) rfl (by rw[ad];rfl);exact Ho a4 a6 rfl
  refine DagStepsP.tail ?_;exact DagStepsP.nil
 ·intro s' w9 X9 U H;obtain ⟨ag,ah,ai,af,bw,av⟩:=H 8 rfl 97 (.gen (DQ (λb=>S b∨n1≤b) (.mk 3 [] [D,.mk 6 [] [x] m1 x1 false] 0 0 false)) (BD _ _)) rfl (by rw[ad];rfl);obtain ⟨j9,rfl⟩:=Ak.out (σ:=s') (l:=[(4,(P6 bo 0)),(97,(.agg #[(I6 3),(.slice ag 0 ah),(.slice ai 2 af),(I6 0),(I6 0),(.bool false)]))]) ⟨U 4 rfl,bw,trivial⟩;clear U H;have Br:=X9.keep Br;have Bu:=X9.keep Bu;have Bo:=X9.keep Bo;have Bq:=X9.keep Bq;have E:=E.ext X9;refine Aa (b:=bo) (o:=0) (c':=#[(I6 3),(.slice ag 0 ah),(.slice ai 2 af),(I6 0),(I6 0),(.bool false)]) rfl rfl qS AG rfl Bo qL rfl ?_;intro w10 aj;have av:=AR.chg aj.chg (λy hy h=>by have h2:y=bo:=h;rcases hy with h1|h1;have:=hS y h1;omega;omega) _ av;have Br:=aj.keep qO Br;have Bu:=aj.keep qO Bu;have Bq:=aj.keep qO Bq;have E:=aj.step E (by first|exact dH qO|assumption|exact dG rfl|exact dG (by assumption)|exact dG qP|exact dG qO|exact dG (by dsimp only;omega));have Bo:=aj.blk;refine AB (AC (AO (Ac (AK (A2 jU (vs:=[(I6 3),(.slice ag 0 ah),(.slice ai 2 af),(I6 0),(I6 0),(.bool false)]) (b:=bo) rfl Ad AG rfl (Bo.cells rfl) ?_)))));exact ⟨⟨_,rfl,AR.mono (λy hy=>by rcases hy with h1|h1;exact .inl h1;exact .inr qO) _ av⟩,E⟩
theorem Xh (c:Int) (n:Nat) (ih:SF c n) (w0:World) (S:Nat→Prop) (x:Re) (xs:n_) (bu:Nat) (hxz:x.size<n) (hox:Tb x) (hB:BV w0 bu #[I6 c] 3) (hx:AR S w0 x xs) (hS:∀y,S y→y<w0.heap.size) :
  Bj prog 114 #[.agg xs.toArray,P6 bu 0] w0 λr w'=>(∃us,r=.agg us.toArray∧AR (λb=>S b∨w0.heap.size≤b) w' (Cv c x) us)∧Ah w0 w':=by
 have ad:=hx;obtain ⟨sa,sc,aa,ac,rfl,_,_,_⟩:=hx.form;obtain ⟨D,hD⟩:∃D,D=Cv c x:=⟨_,rfl⟩;rw[←hD];refine qR func114 rfl ntmps114 rfl (λE=>(AA (BC (v:=(.agg (R6 x sa sc aa ac))) (c:=(R6 x sa sc aa ac)) qD rfl rfl ?_)));intro br wr Nr;have Fr:=Nr.ge E;have Or_bu:=Nr.lt hB;have hB:=Nr.keep hB;have E:=E.ext Nr.ext;have Br:=Nr.blk;refine BK (c:=#[(I6 0),(.slice none 0 0),(.slice none 0 0),(I6 0),(I6 0),(.bool false)]) qD A1 rfl ?_;intro bo wo No;have Fo:=No.ge E;have Oo_bu:=No.lt hB;have Oo_br:=No.lt Br;have hB:=No.keep hB;have Br:=No.keep Br;have E:=E.ext No.ext;have Bo:=No.blk;refine AB (AA (qV (AI (vs:=(oJ x sa sc aa ac)) rfl Ad AG rfl (Br.cells rfl)) (qV (AJ rfl Ag (hB.cell rfl)) ?_)));obtain ⟨n1,ab⟩:∃n1,n1=wo.heap.size:=⟨_,rfl⟩;have hob:w0.heap.size≤bo∧bo<n1∧w0.heap.size≤n1:=⟨by have:=No.eq;have:=Nr.ext.size;omega,by rw[ab];exact Bo.lt,by rw[ab];exact E.size⟩;refine qE rfl (AS jS kQ kQ rfl) ((ih x _ S _ hxz hox (AR.ext E x ad) (λy hy=>by have:=hS y hy;have:=E.size;omega)).mono (R':=λr w=>DQ (λb=>S b∨n1≤b) D r w∧Ah _ w) (λr w h=>⟨CI (S':=λb=>S b∨wo.heap.size≤b) (λb hb=>by rcases hb with h1|h1;exact .inl h1;exact .inr (by rw[ab];exact h1)) (by rw[hD];exact h.1),h.2⟩)) ?_;rintro _ w9 ⟨⟨xa,xc,ya,yc,rfl,hR⟩,X9⟩;have hB:=X9.keep hB;have Br:=X9.keep Br;have Bo:=X9.keep Bo;have E:=E.ext X9;refine Aa (b:=bo) (o:=0) (c':=(R6 D xa xc ya yc)) rfl rfl qS AG rfl Bo qL rfl ?_;intro w1 S1;have hR:=AR.chg S1.chg (λy hy h=>by have h2:y=bo:=h;rcases hy with h1|h1;have:=hS y h1;omega;omega) _ hR;have hB:=S1.keep qO hB;have Br:=S1.keep qO Br;have E:=S1.step E (by first|exact dH qO|assumption|exact dG rfl|exact dG (by assumption)|exact dG qP|exact dG qO|exact dG (by dsimp only;omega));have Bo:=S1.blk;refine AB (AO (A2 results114 (vs:=(oJ D xa xc ya yc)) (b:=bo) rfl Ad AG rfl (Bo.cells rfl) ?_));exact ⟨⟨_,rfl,AR.mono (λy hy=>by rcases hy with h1|h1;exact .inl h1;exact .inr qO) _ hR⟩,E⟩
theorem RG (c:Int) (n:Nat) (ih:SF c n) (t:Re) (hn:t.size≤n) (h300:t.size≤1000000) (hok:Au t) (hk:t.kind=4∨t.kind=7∨t.kind=8) (w0:World) (S:Nat→Prop) (vs:n_) (ht:AR S w0 t vs) (hS:∀x,S x→x<w0.heap.size) :
  Bj prog 81 #[.agg vs.toArray,I6 c] w0 λr w=>(∃us,r=.agg us.toArray∧AR (λb=>S b∨w0.heap.size≤b) w (Cv c t) us)∧Ah w0 w:=by
 have ai:=ht;obtain ⟨sa,sc,aa,ac,rfl,af,ah,ae⟩:=ht.form;obtain ⟨N,hN⟩:∃N,N=Cv c t:=⟨_,rfl⟩;have ag:N=.mk t.kind t.set (t.args.map (Cv c)) t.mn t.mx t.neg:=by rw[hN];exact aK hk
 rw[←hN];refine qR jS rfl ntmps81 rfl (λE=>(AA (BC (v:=(.agg (R6 t sa sc aa ac))) (c:=(R6 t sa sc aa ac)) qD rfl rfl ?_)));intro br wr Nr;have Fr:=Nr.ge E;have E:=E.ext Nr.ext;have Br:=Nr.blk;refine BC (v:=(I6 c)) (c:=#[(I6 c)]) qD rfl rfl ?_;intro bu wu Nu;have Fu:=Nu.ge E;have Ou_br:=Nu.lt Br;have Br:=Nu.keep Br;have E:=E.ext Nu.ext;have Bu:=Nu.blk;refine BK (c:=#[(I6 0),(.slice none 0 0),(.slice none 0 0),(I6 0),(I6 0),(.bool false)]) qD A1 rfl ?_;intro bo wo No;have Fo:=No.ge E;have Oo_br:=No.lt Br;have Oo_bu:=No.lt Bu;have Br:=No.keep Br;have Bu:=No.keep Bu;have E:=E.ext No.ext;have Bo:=No.blk;refine AB (AH (AA (qF br 0 0 rfl dI rfl Al rfl (qV (AJ rfl Ag (Br.cell rfl)) (AB (AW (AA (qV (Ai rfl rfl) (qA _ rfl (AB ?_))))))))));obtain ⟨n1,ad⟩:∃n1,n1=wo.heap.size:=⟨_,rfl⟩;have hob:br<n1∧bo<n1∧w0.heap.size≤bo∧w0.heap.size≤n1:=⟨by rw[ad];exact Br.lt,by rw[ad];exact Bo.lt,qO,by rw[ad];exact E.size⟩;have ab:n1≤wo.heap.size:=qO
 have aj:(decide ((t.kind:Int)=2))=false:=decide_eq_false qO;refine Ae (Ar aj) (AA (qV (Ai rfl rfl) (qA _ rfl (AB ?_))));have ak:(decide ((t.kind:Int)=3))=false:=decide_eq_false qO;refine Ae (Ar ak) (Gb (λσ W3=>∃(q:Bool),(∃jj_,σ=BW jj_ [(2,(P6 br 0)),(3,(P6 bu 0)),(4,(P6 bo 0)),(9,(I6 t.kind)),(55,(.bool q))])∧Chg Aj w0 W3∧BV W3 br (R6 t sa sc aa ac) 25∧BV W3 bu #[(I6 c)] 3∧BV W3 bo #[(I6 0),(.slice none 0 0),(.slice none 0 0),(I6 0),(I6 0),(.bool false)] 25∧(q=true)∧(n1≤W3.heap.size)) ?_ ?_)
 ·skip
  refine AA (qV (Ai rfl rfl) (qA _ rfl (AB (qC rfl (λh4=>?_) (λh4=>?_)))))
  ·refine AM (AC ?_);exact ⟨(decide ((t.kind:Int)=4)),oH,E,Br,Bu,Bo,decide_eq_true h4,ab⟩
  ·refine AA (qV (Ai rfl rfl) (qA _ rfl (AB (qC rfl (λh7=>?_) (λh7=>?_)))))
   ·refine AM (AC ?_);exact ⟨(decide ((t.kind:Int)=7)),oH,E,Br,Bu,Bo,decide_eq_true h7,ab⟩
   ·refine AN (qV (Ai rfl rfl) (qA _ rfl (AB (AC ?_))));exact ⟨(decide ((t.kind:Int)=8)),oH,E,Br,Bu,Bo,decide_eq_true qO,ab⟩
 ·clear E Br Bu Bo;rintro _ W3 ⟨q,⟨j3,rfl⟩,E,Br,Bu,Bo,hq,ab⟩;have al:(q)=true:=hq;refine Aq (Ar al) (AA (qV (AI (vs:=(oJ t sa sc aa ac)) rfl Ad AG rfl (Br.cells rfl)) (qV (Da rfl rfl) (qE rfl (AS func45 kQ kQ rfl) ((P4 _ S t _ _ (Cv c) (AR.ext E t ai) (λy hy=>by have:=hS y hy;have:=E.size;omega) h300 (λw x xs hE hx h=>CG.mk (first:=#[]) (cap:=#[P6 bu 0]) func114 kQ kQ rfl (by obtain ⟨i,hi⟩:=eS.1 hx;exact (Xh c n ih w S x xs bu (by have:=Re.size_arg hi;omega) (GH (hok.a x hx)) (hE.keep Bu) h (λy hy=>by have:=hS y hy;have:=E.size;have:=hE.size;omega)).mono λv w h=>by obtain ⟨⟨us,h1,h2⟩,h3⟩:=h;exact ⟨us,h1,h2,h3⟩))).mono (R':=λr w=>DQ (λb=>S b∨n1≤b) N r w∧Ah _ w) (λr w h=>by obtain ⟨us,h1,h2,h3⟩:=h;rw[←ag] at h2;exact ⟨CI (λb hb=>by rcases hb with h4|h4;exact .inl h4;exact .inr qO) ⟨us,h1,h2⟩,h3⟩)) ?_))));rintro _ w9 ⟨⟨xa,xc,ya,yc,rfl,hR⟩,X9⟩;have Br:=X9.keep Br;have Bu:=X9.keep Bu;have Bo:=X9.keep Bo;have E:=E.ext X9;refine Aa (b:=bo) (o:=0) (c':=(R6 N xa xc ya yc)) rfl rfl qS AG rfl Bo qL rfl ?_;intro w7 S7;have hR:=AR.chg S7.chg (λy hy h=>by have h2:y=bo:=h;rcases hy with h1|h1;have:=hS y h1;omega;omega) _ hR;have Br:=S7.keep qO Br;have Bu:=S7.keep qO Bu;have E:=S7.step E (by first|exact dH qO|assumption|exact dG rfl|exact dG (by assumption)|exact dG qP|exact dG qO|exact dG (by dsimp only;omega));have Bo:=S7.blk;refine AB (AO (Ac (AK (A2 jU (vs:=(oJ N xa xc ya yc)) (b:=bo) rfl Ad AG rfl (Bo.cells rfl) ?_))));exact ⟨⟨_,rfl,AR.mono (λy hy=>by rcases hy with h1|h1;exact .inl h1;exact .inr qO) _ hR⟩,E⟩
theorem ZN {S:oD} {w:World} {a:oE} {n c:Nat} {l:List Re} (h:CE S w (.slice a n c) l):AR S w (.mk 3 [] l 0 0 false) [I6 3,.slice none 0 0,.slice a n c,I6 0,I6 0,.bool false]:=by
 obtain ⟨aa,ac,b,e,d⟩:=h;simp only[Value.slice.injEq] at b;obtain ⟨rfl,rfl,rfl⟩:=b;exact AR.of (set:=[]) (B_.nil _ _ _ _ _) e d
theorem Xj (c:Int) (n:Nat) (ih:SF c n) (t:Re) (hn:t.size≤n) (x:Re) (hax:t.args=[x]) (hox:Au x) (hk:t.kind=3) (w0:World) (S:Nat→Prop) (vs:n_) (ht:AR S w0 t vs) (hS:∀x,S x→x<w0.heap.size) :
  Bj prog 81 #[.agg vs.toArray,I6 c] w0 λr w=>(∃us,r=.agg us.toArray∧AR (λb=>S b∨w0.heap.size≤b) w (Cv c t) us)∧Ah w0 w:=by
 have ht0:=ht;obtain ⟨sa,sc,aa,ac,rfl,a7,bd,ai⟩:=ht.form;have hx:t.args[0]?=some x:=by rw[hax];rfl
 have a1:t.args.length=1:=by rw[hax];rfl
 have hxz:=Re.size_arg hx;obtain ⟨ab,ao,hab,rfl,aw⟩:=ai.resolve_left (λh=>by rw[h] at hx;cases hx);obtain ⟨us,a2,ax⟩:=aw.get hx;have au:=ax;obtain ⟨av,am,aq,an,rfl,_,_,_⟩:=ax.form;obtain ⟨D,hD⟩:∃D,D=Cv c x:=⟨_,rfl⟩;have ay:Cv c t=D:=by rw[hD,bY hk,hax,dD]
 rw[ay];clear ay;refine qR jS rfl ntmps81 rfl (λE=>(AA (BC (v:=(.agg (R6 t sa sc (oI ab ao) ac))) (c:=(R6 t sa sc (oI ab ao) ac)) qD rfl rfl ?_)));intro br wr Nr;have Fr:=Nr.ge E;have E:=E.ext Nr.ext;have Br:=Nr.blk;refine BC (v:=(I6 c)) (c:=#[(I6 c)]) qD rfl rfl ?_;intro bu wu Nu;have Fu:=Nu.ge E;have Ou_br:=Nu.lt Br;have Br:=Nu.keep Br;have E:=E.ext Nu.ext;have Bu:=Nu.blk;refine BK (c:=#[(I6 0),(.slice none 0 0),(.slice none 0 0),(I6 0),(I6 0),(.bool false)]) qD A1 rfl ?_;intro bo wo No;have Fo:=No.ge E;have Oo_br:=No.lt Br;have Oo_bu:=No.lt Bu;have Br:=No.keep Br;have Bu:=No.keep Bu;have E:=E.ext No.ext;have Bo:=No.blk;refine AB (AH (AA (qF br 0 0 rfl dI rfl Al rfl (qV (AJ rfl Ag (Br.cell rfl)) (AB (AW (AA (qV (Ai rfl rfl) (qA _ rfl (AB ?_))))))))));obtain ⟨n1,ap⟩:∃n1,n1=wo.heap.size:=⟨_,rfl⟩;have hob:br<n1∧bo<n1∧w0.heap.size≤bo∧w0.heap.size≤n1:=⟨by rw[ap];exact Br.lt,by rw[ap];exact Bo.lt,qO,by rw[ap];exact E.size⟩;have a4:n1≤wo.heap.size:=qO
 have a5:(decide ((t.kind:Int)=2))=false:=decide_eq_false qO;refine Ae (Ar a5) (AA (qV (Ai rfl rfl) (qA _ rfl (AB ?_))));have bb:(decide ((t.kind:Int)=3))=true:=decide_eq_true hk;refine Aq (Ar bb) (AH (AA (qF br 0 2 rfl dI rfl BF rfl (qV (AJ rfl A9 (Br.cell rfl)) (qV (AT dJ rfl) (qV (Ai rfl rfl) (AB ?_)))))));have az:(decide ((((t.args.length:Nat):Int):Int)=1))=true:=decide_eq_true qO;refine Aq (Ar az) ?_;have a6:w0.heap.size≤wo.heap.size:=E.size;have ak:br<wo.heap.size:=Br.lt;have aj:bu<wo.heap.size:=Bu.lt;have al:bo<wo.heap.size:=Bo.lt;refine AH ?_;obtain ⟨a9,ad⟩:∃Fs:List Fact,Fs=[.eq (P6 br 2),.eq (.slice (oI ab ao) t.args.length ac),.eq (.pointer (some ⟨ab,ao+0*6,none⟩)),.eq (.agg (R6 x av am aq an)),.eq (I6 c),.gen (DQ (λb=>S b∨n1≤b) D) (BD _ _),.eq undef]:=⟨_,rfl⟩;refine FQ [true,true,true,true,true,true,false] [6] [23,24,25,26,27,28,105] [[],[0],[1],[2],[],[3,4],[]] a9 ad mixed qK qK qK qK ?_ ?_
 ·intro wd X0;refine DagStepsP.cons (λs' w' X U H=>dH ⟨?_,?_⟩) ?_
  ·exact AE rfl
  ·exact AP (AQ (U 2 rfl) dI rfl BF rfl) (Ah.refl _) rfl
  refine DagStepsP.cons (λs' w' X U H=>dH ⟨?_,?_⟩) ?_
  ·exact AE rfl
  ·have a3:s' 23=(P6 br 2):=H 0 rfl 23 (.eq (P6 br 2)) rfl (by rw[ad];rfl);exact AP (AJ a3 A9 (((X0.trans X).keep Br).cell rfl)) (Ah.refl _) rfl
  refine DagStepsP.cons (λs' w' X U H=>dH ⟨?_,?_⟩) ?_
  ·exact AE rfl
  ·have a8:s' 24=(.slice (oI ab ao) t.args.length ac):=H 1 rfl 24 (.eq (.slice (oI ab ao) t.args.length ac)) rfl (by rw[ad];rfl);exact AP (AL (i:=0) a8 rfl rfl dJ AG qO qO) (Ah.refl _) rfl
  refine DagStepsP.cons (λs' w' X U H=>dH ⟨?_,?_⟩) ?_
  ·exact AE rfl
  ·have a0:s' 25=(.pointer (some ⟨ab,ao+0*6,none⟩)):=H 2 rfl 25 (.eq (.pointer (some ⟨ab,ao+0*6,none⟩))) rfl (by rw[ad];rfl);exact AP (AI a0 Ad AG rfl (a2.ext (Ah.trans E (X0.trans X)))) (Ah.refl _) rfl
  refine DagStepsP.cons (λs' w' X U H=>dH ⟨?_,?_⟩) ?_
  ·exact AE rfl
  ·exact AP (AJ (U 3 rfl) Ag (((X0.trans X).keep Bu).cell rfl)) (Ah.refl _) rfl
  refine DagStepsP.cons (λs' w' X U H=>dH ⟨?_,?_⟩) ?_
  ·exact AE rfl
  ·have be:s' 26=(.agg (R6 x av am aq an)):=H 3 rfl 26 (.eq (.agg (R6 x av am aq an))) rfl (by rw[ad];rfl);have bc:s' 27=(I6 c):=H 4 rfl 27 (.eq (I6 c)) rfl (by rw[ad];rfl);exact A7 (AS jS kQ kQ (F_ be bc)) ((ih x _ S _ qO (GH hox) (AR.ext (Ah.trans E (X0.trans X)) x au) (λy hy=>by have:=hS y hy;have:=E.size;have:=X0.size;have:=X.size;omega)).mono (λr w h=>⟨CI (S':=λb=>S b∨w'.heap.size≤b) (λb hb=>by rcases hb with h1|h1;exact .inl h1;exact .inr (by have:=X0.size;have:=X.size;omega)) (by rw[hD];exact h.1),h.2⟩))
  refine DagStepsP.tail ?_;exact DagStepsP.nil
 ·intro s' w4 X4 U H;obtain ⟨af,ag,ae,ah,ba,ar⟩:=H 5 rfl 28 (.gen (DQ (λb=>S b∨n1≤b) D) (BD _ _)) rfl (by rw[ad];rfl);obtain ⟨j4,rfl⟩:=Ak.out (σ:=s') (l:=[(4,(P6 bo 0)),(28,(.agg (R6 D af ag ae ah)))]) ⟨U 4 rfl,ba,trivial⟩;clear U H;have Br:=X4.keep Br;have Bu:=X4.keep Bu;have Bo:=X4.keep Bo;have E:=E.ext X4;refine Aa (b:=bo) (o:=0) (c':=(R6 D af ag ae ah)) rfl rfl qS AG rfl Bo qL rfl ?_;intro w5 S5;have ar:=AR.chg S5.chg (λy hy h=>by have h2:y=bo:=h;rcases hy with h1|h1;have:=hS y h1;omega;omega) _ ar;have Br:=S5.keep qO Br;have Bu:=S5.keep qO Bu;have E:=S5.step E (by first|exact dH qO|assumption|exact dG rfl|exact dG (by assumption)|exact dG qP|exact dG qO|exact dG (by dsimp only;omega));have Bo:=S5.blk;refine AB (AC (AO (AK (Ac (AK (A2 jU (vs:=(oJ D af ag ae ah)) (b:=bo) rfl Ad AG rfl (Bo.cells rfl) ?_))))));exact ⟨⟨_,rfl,AR.mono (λy hy=>by rcases hy with h1|h1;exact .inl h1;exact .inr qO) _ ar⟩,E⟩
theorem Xi (c:Int) (n:Nat) (ih:SF c n) (t:Re) (hn:t.size≤n) (h300:t.size≤1000000) (x:Re) (l:List Re) (hl0:l≠[]) (hax:t.args=x::l) (hox:Au x) (hol:∀y∈l,Au y) (hk:t.kind=3) (w0:World) (S:Nat→Prop) (vs:n_) (ht:AR S w0 t vs) (hS:∀x,S x→x<w0.heap.size) :
  Bj prog 81 #[.agg vs.toArray,I6 c] w0 λr w=>(∃us,r=.agg us.toArray∧AR (λb=>S b∨w0.heap.size≤b) w (Cv c t) us)∧Ah w0 w:=by
 have cs:=ht;obtain ⟨sa,sc,aa,ac,rfl,cl,cc,a2⟩:=ht.form;have c2:CE S w0 (.slice aa t.args.length ac) t.args:=GO cs;have hal:=Ch t;have ax:=t.size_eq;have hx:t.args[0]?=some x:=by rw[hax];rfl
 have bz:t.args.length=l.length+1:=by rw[hax];rfl
 have hl1:0<l.length:=gT.2 hl0;have hxz:=Re.size_arg hx;have hxp:=x.size_pos;have b4:t.size=x.size+Re.sizes l+1:=by rw[ax,hax];simp only[Re.sizes]
 obtain ⟨ab,ao,hab,rfl,bj⟩:=a2.resolve_left (λh=>by rw[h] at hx;cases hx);obtain ⟨us,bm,bk⟩:=bj.get hx;have a1:=bk;obtain ⟨be,bc,bi,bg,rfl,_,_,_⟩:=bk.form;have cg:CE S w0 (.slice (some ⟨ab,ao+6,none⟩) l.length (ac - 1)) l:=by
  refine Sh (x:=x) ?_;rw[←hax];exact c2
 obtain ⟨R,hR⟩:∃R,R=Re.mk 3 [] l 0 0 false:=⟨_,rfl⟩;have bd:AR S w0 R [I6 3,.slice none 0 0,.slice (some ⟨ab,ao+6,none⟩) l.length (ac - 1),I6 0,I6 0,.bool false]:=by rw[hR];exact ZN cg
 have b2:Tb R:=.inr ⟨by rw[hR];rfl,by rw[hR];exact hl0,by rw[hR];exact hol⟩;have b7:R.size<n:=by
  have:R.size=Re.sizes l+1:=by rw[hR];simp[Re.size]
  omega
 obtain ⟨D,hD⟩:∃D,D=Cv c x:=⟨_,rfl⟩;obtain ⟨F,hF⟩:∃F,F=Re.mk 3 [] [D,R] 0 0 false:=⟨_,rfl⟩;obtain ⟨G,hG⟩:∃G,G=Cv c R:=⟨_,rfl⟩;obtain ⟨N,hN⟩:∃N,N=Re.mk 4 [] [F,G] 0 0 false:=⟨_,rfl⟩;have bn:Cv c t=if BN x=true then N else F:=by rw[hN,hG,hF,hD,bY (t:=R) (by rw[hR];rfl),bY hk,hax,dC hl0,hR];rfl
 rw[bn];clear bn ax;refine qR jS rfl ntmps81 rfl (λE=>(AA (BC (v:=(.agg (R6 t sa sc (oI ab ao) ac))) (c:=(R6 t sa sc (oI ab ao) ac)) qD rfl rfl ?_)));intro br wr Nr;have Fr:=Nr.ge E;have E:=E.ext Nr.ext;have Br:=Nr.blk;refine BC (v:=(I6 c)) (c:=#[(I6 c)]) qD rfl rfl ?_;intro bu wu Nu;have Fu:=Nu.ge E;have Ou_br:=Nu.lt Br;have Br:=Nu.keep Br;have E:=E.ext Nu.ext;have Bu:=Nu.blk;refine BK (c:=#[(I6 0),(.slice none 0 0),(.slice none 0 0),(I6 0),(I6 0),(.bool false)]) qD A1 rfl ?_;intro bo wo No;have Fo:=No.ge E;have Oo_br:=No.lt Br;have Oo_bu:=No.lt Bu;have Br:=No.keep Br;have Bu:=No.keep Bu;have E:=E.ext No.ext;have Bo:=No.blk;refine AB (AH (AA (qF br 0 0 rfl dI rfl Al rfl (qV (AJ rfl Ag (Br.cell rfl)) (AB (AW (AA (qV (Ai rfl rfl) (qA _ rfl (AB ?_))))))))));obtain ⟨n1,bh⟩:∃n1,n1=wo.heap.size:=⟨_,rfl⟩;have hob:br<n1∧bo<n1∧w0.heap.size≤bo∧w0.heap.size≤n1:=⟨by rw[bh];exact Br.lt,by rw[bh];exact Bo.lt,qO,by rw[bh];exact E.size⟩;have cj:n1≤wo.heap.size:=qO
 have E1:Chg Aj wo wo:=Chg.refl _ _;have ck:(decide ((t.kind:Int)=2))=false:=decide_eq_false qO;refine Ae (Ar ck) (AA (qV (Ai rfl rfl) (qA _ rfl (AB ?_))));have cx:(decide ((t.kind:Int)=3))=true:=decide_eq_true hk;refine Aq (Ar cx) (AH (AA (qF br 0 2 rfl dI rfl BF rfl (qV (AJ (v:=(.slice (oI ab ao) t.args.length ac)) rfl A9 (Br.cell rfl)) (qV (AT (ad:=oI ab ao) (n:=t.args.length) (cap:=ac) dJ rfl) (qV (Ai (k:=.i64) (a:=(t.args.length:Int)) (b:=1) rfl rfl) (AB ?_)))))));have bx:(decide ((((t.args.length:Nat):Int):Int)=1))=false:=decide_eq_false qO;refine Ae (Ar bx) (AM (AC (AA (qF br 0 2 rfl dI rfl BF rfl (qV (AJ (v:=(.slice (oI ab ao) t.args.length ac)) rfl A9 (Br.cell rfl)) ?_)))));obtain ⟨ak,av⟩:∃a':oE,(if ac=1 then (oI ab ao) else Option.map (λq:Addr=>q.add (1*6)) (oI ab ao))=a':=⟨_,rfl⟩;refine qV (E' (a:=(oI ab ao)) (len:=t.args.length) (cap:=ac) (lo:=1) (l:=1) (n':=l.length) (c':=ac - 1) dJ AG rfl rfl qO qO av qO qO) ?_;have aw:ak=some ⟨ab,ao+6,none⟩:=by rw[←av,if_neg qO];rfl
 rw[←aw] at bd;refine qV (B0 (ps:=[(0,(I6 3)),(2,(.slice ak l.length (ac - 1)))]) (v:=(.agg #[(I6 3),(.slice none 0 0),(.slice ak l.length (ac - 1)),(I6 0),(I6 0),(.bool false)])) rfl qK) (As (v:=(.agg #[(I6 3),(.slice none 0 0),(.slice ak l.length (ac - 1)),(I6 0),(I6 0),(.bool false)])) (c:=#[(I6 3),(.slice none 0 0),(.slice ak l.length (ac - 1)),(I6 0),(I6 0),(.bool false)]) (n:=6) qD A1 rfl AG rfl rfl rfl qS ?_);intro bq wq Nq;have Fq:=Nq.ge E;have Fq_E1:=Nq.ge E1;have Oq_br:=Nq.lt Br;have Oq_bu:=Nq.lt Bu;have Oq_bo:=Nq.lt Bo;have Br:=Nq.keep Br;have Bu:=Nq.keep Bu;have Bo:=Nq.keep Bo;have E:=E.ext Nq.ext;have Bq:=Nq.blk;have E1:=E1.ext Nq.ext;refine AB ?_;have b3:w0.heap.size≤wq.heap.size:=E.size;have a5:br<wq.heap.size:=Br.lt;have ba:bu<wq.heap.size:=Bu.lt;have a8:bo<wq.heap.size:=Bo.lt;have a7:bq<wq.heap.size:=Bq.lt;refine AH ?_;obtain ⟨cv,ae⟩:∃Fs:(Nat→Prop)→List Fact,Fs=λRR=>[.eq (P6 br 2),.eq (.slice (oI ab ao) t.args.length ac),.eq (.pointer (some ⟨ab,ao+0*6,none⟩)),.eq (.agg (R6 x be bc bi bg)),.eq (I6 c),.gen (DQ RR D) (BD _ _),.eq (.agg #[(I6 3),(.slice none 0 0),(.slice ak l.length (ac - 1)),(I6 0),(I6 0),(.bool false)]),.gen (Lf RR [D,R]) (DE _ _),.gen (DQ RR (.mk 3 [] [D,R] 0 0 false)) (BD _ _),.gen (OW 25 #[(I6 0),(.slice none 0 0),(.slice none 0 0),(I6 0),(I6 0),(.bool false)] wq.heap.size) (Dv _ _ _),.eq undef]:=⟨_,rfl⟩;refine Ig [true,true,true,true,true,true,true,true,true,true,false] [10] 11 10 [] [33,34,35,36,37,38,39,40,41,6,109] [[],[0],[1],[2],[],[3,4],[],[5,6],[7],[],[]] cv ae (λb=>S b∨n1≤b) (λy hy=>.inr (by have:=E1.size;omega)) 9 6 (lo:=wq.heap.size) (dU _) rfl rfl (PD.mk' A1 rfl) (λRR=>⟨_,by rw[ae];rfl⟩) (λn=>by rw[ae];repeat (first|exact Cvs.nil|refine Cvs.same ?_|refine Cvs.cons (λv w e h=>by first|exact J5 e h|exact J2 e h|exact IG e h) ?_)) mixed qK qK rfl qK qK qK ?_ ?_ (λh9=>absurd h9 qD)
 ·intro wd X0 RR az a0;refine DagStepsP.cons (λs' w' X U H=>dH ⟨?_,?_⟩) ?_
  ·exact AE rfl
  ·exact AP (AQ (U 2 rfl) dI rfl BF rfl) (Ah.refl _) rfl
  refine DagStepsP.cons (λs' w' X U H=>dH ⟨?_,?_⟩) ?_
  ·exact AE rfl
  ·have ca:s' 33=(P6 br 2):=H 0 rfl 33 (.eq (P6 br 2)) rfl (by rw[ae];rfl);exact AP (AJ ca A9 (((X0.trans X).keep Br).cell rfl)) (Ah.refl _) rfl
  refine DagStepsP.cons (λs' w' X U H=>dH ⟨?_,?_⟩) ?_
  ·exact AE rfl
  ·have b9:s' 34=(.slice (oI ab ao) t.args.length ac):=H 1 rfl 34 (.eq (.slice (oI ab ao) t.args.length ac)) rfl (by rw[ae];rfl);exact AP (AL (i:=0) b9 rfl rfl dJ AG qO qO) (Ah.refl _) rfl
  refine DagStepsP.cons (λs' w' X U H=>dH ⟨?_,?_⟩) ?_
  ·exact AE rfl
  ·have co:s' 35=(.pointer (some ⟨ab,ao+0*6,none⟩)):=H 2 rfl 35 (.eq (.pointer (some ⟨ab,ao+0*6,none⟩))) rfl (by rw[ae];rfl);exact AP (AI co Ad AG rfl (bm.ext (Ah.trans E (X0.trans X)))) (Ah.refl _) rfl
  refine DagStepsP.cons (λs' w' X U H=>dH ⟨?_,?_⟩) ?_
  ·exact AE rfl
  ·exact AP (AJ (U 3 rfl) Ag (((X0.trans X).keep Bu).cell rfl)) (Ah.refl _) rfl
  refine DagStepsP.cons (λs' w' X U H=>dH ⟨?_,?_⟩) ?_
  ·exact AE rfl
  ·have b8:s' 36=(.agg (R6 x be bc bi bg)):=H 3 rfl 36 (.eq (.agg (R6 x be bc bi bg))) rfl (by rw[ae];rfl);have c3:s' 37=(I6 c):=H 4 rfl 37 (.eq (I6 c)) rfl (by rw[ae];rfl);exact A7 (AS jS kQ kQ (F_ b8 c3)) ((ih x _ S _ qO (GH hox) (AR.ext (Ah.trans E (X0.trans X)) x a1) (λy hy=>by have:=hS y hy;have:=E.size;have:=X0.size;have:=X.size;omega)).mono (λr w h=>⟨CI (S':=λb=>S b∨w'.heap.size≤b) (λb hb=>by rcases hb with h1|h1;exact az b (by have:=hS b h1;have:=E.size;omega) (.inl h1);exact a0 b (by have:=X.size;omega)) (by rw[hD];exact h.1),h.2⟩))
  refine DagStepsP.cons (λs' w' X U H=>dH ⟨?_,?_⟩) ?_
  ·exact AE rfl
  ·exact AP (AI (U 5 rfl) Ad AG rfl (((X0.trans X).keep Bq).cells rfl)) (Ah.refl _) rfl
  refine DagStepsP.cons (λs' w' X U H=>dH ⟨?_,?_⟩) ?_
  ·exact AE rfl
  ·obtain ⟨cd,cw,cf,ct,b5,ch⟩:=H 5 rfl 38 (.gen (DQ RR D) (BD _ _)) rfl (by rw[ae];rfl);have c0:s' 39=(.agg #[(I6 3),(.slice none 0 0),(.slice ak l.length (ac - 1)),(I6 0),(I6 0),(.bool false)]):=H 6 rfl 39 (.eq (.agg #[(I6 3),(.slice none 0 0),(.slice ak l.length (ac - 1)),(I6 0),(I6 0),(.bool false)])) rfl (by rw[ae];rfl);exact Fb (Y:=R) (sa':=none) (sc':=0) (aa':=ak) (ac':=ac - 1) b5 (c0.trans (by rw[hR];rfl)) ch (AR.mono (λy hy=>az y (by have:=hS y hy;have:=E.size;omega) (.inl hy)) R (by have h5:=AR.ext (Ah.trans E (X0.trans X)) R bd;rw[hR] at h5⊢;exact h5)) (λb hb=>a0 b (by have:=X.size;omega))
  refine DagStepsP.cons (λs' w' X U H=>dH ⟨?_,?_⟩) ?_
  ·exact AE rfl
  ·obtain ⟨b40,bs,cu⟩:=H 7 rfl 40 (.gen (Lf RR [D,R]) (DE _ _)) rfl (by rw[ae];rfl);exact Ho bs cu rfl
  refine DagStepsP.cons (λs' w' X U H=>dH ⟨?_,?_⟩) ?_
  ·exact AE rfl
  ·exact FM (c:=#[(I6 0),(.slice none 0 0),(.slice none 0 0),(I6 0),(I6 0),(.bool false)]) A1 rfl (by have:=X0.size;have:=X.size;omega)
  refine DagStepsP.tail ?_;exact DagStepsP.nil
 ·intro s' w4 RR β X4 U ay hβ H;obtain ⟨ai,af,ah,ag,b0,al⟩:=H 8 rfl 41 (.gen (DQ RR (.mk 3 [] [D,R] 0 0 false)) (BD _ _)) rfl (by rw[ae];rfl);obtain ⟨b6,e6,B6,g6⟩:=H 9 rfl 6 (.gen (OW 25 #[(I6 0),(.slice none 0 0),(.slice none 0 0),(I6 0),(I6 0),(.bool false)] wq.heap.size) (Dv _ _ _)) rfl (by rw[ae];rfl);have bp:β=b6:=by have h9:=e6.symm.trans hβ;simpa using h9.symm
  rw[bp] at ay;clear hβ bp β;obtain ⟨j4,rfl⟩:=Ak.out (σ:=s') (l:=[(2,(P6 br 0)),(3,(P6 bu 0)),(4,(P6 bo 0)),(5,(P6 bq 0)),(41,(.agg #[(I6 3),(.slice ai 0 af),(.slice ah 2 ag),(I6 0),(I6 0),(.bool false)])),(6,(P6 b6 0))]) ⟨U 2 rfl,U 3 rfl,U 4 rfl,U 5 rfl,b0,e6,trivial⟩;clear U H;have Br:=X4.keep Br;have Bu:=X4.keep Bu;have Bo:=X4.keep Bo;have Bq:=X4.keep Bq;have E:=E.ext X4;have E1:=E1.ext X4;refine Aa (b:=b6) (o:=0) (c':=#[(I6 3),(.slice ai 0 af),(.slice ah 2 ag),(I6 0),(I6 0),(.bool false)]) rfl rfl qS AG rfl B6 qL rfl ?_;intro w5 S5;have al:=AR.chg S5.chg (λy hy h=>by have h2:y=b6:=h;have:=(ay y hy).2;omega) _ al;have Br:=S5.keep qO Br;have Bu:=S5.keep qO Bu;have Bo:=S5.keep qO Bo;have Bq:=S5.keep qO Bq;have E:=S5.step E (by first|exact dH qO|assumption|exact dG rfl|exact dG (by assumption)|exact dG qP|exact dG qO|exact dG (by dsimp only;omega));have E1:=S5.step E1 (dH qO);have B6:=S5.blk;refine AB (AC (AH (AA (qF br 0 2 rfl dI rfl BF rfl (qV (AJ rfl A9 (Br.cell rfl)) (qV (AL (b:=ab) (o:=ao) (len:=t.args.length) (cap:=ac) (i:=0) (o':=ao+0*6) rfl rfl rfl dJ AG qO qO) (qV (AI rfl Ad AG rfl (bm.ext E)) (qE rfl (AS func56 kQ kQ rfl) (RP _ x _ (AR.at x (AR.ext E x a1)) hox) ?_))))))));rintro _ au ⟨rfl,am⟩;have Br:=am.keep Br;have Bu:=am.keep Bu;have Bo:=am.keep Bo;have Bq:=am.keep Bq;have B6:=am.keep B6;have al:=AR.ext am _ al;have E:=E.ext am;have E1:=E1.ext am;refine qV (C1 rfl) (AB (A4 rfl (λhe=>?_) (λhe=>?_)))
  ·have cp:=he;have he:=by simpa using he
   refine AA (qV (AI (vs:=[(I6 3),(.slice ai 0 af),(.slice ah 2 ag),(I6 0),(I6 0),(.bool false)]) rfl Ad AG rfl (B6.cells rfl)) (Aa (b:=bo) (o:=0) (c':=#[(I6 3),(.slice ai 0 af),(.slice ah 2 ag),(I6 0),(I6 0),(.bool false)]) rfl rfl qS AG rfl Bo qL rfl ?_));intro w7 S7;have al:=AR.chg S7.chg (λy hy h=>by have h2:y=bo:=h;rcases (ay y hy).1 with h1|h1;have:=hS y h1;omega;omega) _ al;have Br:=S7.keep qO Br;have Bu:=S7.keep qO Bu;have Bq:=S7.keep qO Bq;have B6:=S7.keep qO B6;have E:=S7.step E (by first|exact dH qO|assumption|exact dG rfl|exact dG (by assumption)|exact dG qP|exact dG qO|exact dG (by dsimp only;omega));have Bo:=S7.blk;refine AB (AO (AK (Ac (AK (A2 jU (vs:=[(I6 3),(.slice ai 0 af),(.slice ah 2 ag),(I6 0),(I6 0),(.bool false)]) (b:=bo) rfl Ad AG rfl (Bo.cells rfl) ?_)))));exact ⟨⟨_,rfl,by rw[if_neg (by simpa using he),hF];exact AR.mono (λy hy=>by rcases (ay y hy).1 with h1|h1;exact .inl h1;exact .inr qO) _ al⟩,E⟩
  ·have cp:=he;have he:=by simpa using he
   refine AM (AC ?_);have bt:w0.heap.size≤au.heap.size:=E.size;have a6:br<au.heap.size:=Br.lt;have a4:bu<au.heap.size:=Bu.lt;have a3:bo<au.heap.size:=Bo.lt;have a9:bq<au.heap.size:=Bq.lt;have bb:b6<au.heap.size:=B6.lt;refine AH ?_;obtain ⟨ci,aj⟩:∃Fs:List Fact,Fs=[.eq (.agg #[(I6 3),(.slice ai 0 af),(.slice ah 2 ag),(I6 0),(I6 0),(.bool false)]),.eq (.agg #[(I6 3),(.slice none 0 0),(.slice ak l.length (ac - 1)),(I6 0),(I6 0),(.bool false)]),.eq (I6 c),.gen (DQ (λb=>S b∨n1≤b) G) (BD _ _),.gen (Lf (λb=>S b∨n1≤b) [F,G]) (DE _ _),.gen (DQ (λb=>S b∨n1≤b) (.mk 4 [] [F,G] 0 0 false)) (BD _ _),.eq undef]:=⟨_,rfl⟩;refine FQ [true,true,true,true,true,true,false] [6] [49,50,51,52,53,54,105] [[],[],[],[1,2],[0,3],[4],[]] ci aj mixed qK qK qK qK ?_ ?_
   ·intro wd X0;refine DagStepsP.cons (λs' w' X U H=>dH ⟨?_,?_⟩) ?_
    ·exact AE rfl
    ·exact AP (AI (U 6 rfl) Ad AG rfl (((X0.trans X).keep B6).cells rfl)) (Ah.refl _) rfl
    refine DagStepsP.cons (λs' w' X U H=>dH ⟨?_,?_⟩) ?_
    ·exact AE rfl
    ·exact AP (AI (U 5 rfl) Ad AG rfl (((X0.trans X).keep Bq).cells rfl)) (Ah.refl _) rfl
    refine DagStepsP.cons (λs' w' X U H=>dH ⟨?_,?_⟩) ?_
    ·exact AE rfl
    ·exact AP (AJ (U 3 rfl) Ag (((X0.trans X).keep Bu).cell rfl)) (Ah.refl _) rfl
    refine DagStepsP.cons (λs' w' X U H=>dH ⟨?_,?_⟩) ?_
    ·exact AE rfl
    ·have cy:s' 50=(.agg #[(I6 3),(.slice none 0 0),(.slice ak l.length (ac - 1)),(I6 0),(I6 0),(.bool false)]):=H 1 rfl 50 (.eq (.agg #[(I6 3),(.slice none 0 0),(.slice ak l.length (ac - 1)),(I6 0),(I6 0),(.bool false)])) rfl (by rw[aj];rfl);have cq:s' 51=(I6 c):=H 2 rfl 51 (.eq (I6 c)) rfl (by rw[aj];rfl);exact A7 (AS jS kQ kQ (F_ cy cq)) ((ih R _ S _ b7 b2 (by have h5:=AR.ext (Ah.trans E (X0.trans X)) R bd;exact h5) (λy hy=>by have:=hS y hy;have:=E.size;have:=X0.size;have:=X.size;omega)).mono (λr w h=>⟨CI (S':=λb=>S b∨w'.heap.size≤b) (λb hb=>by rcases hb with h1|h1;exact .inl h1;exact .inr (by have:=E1.size;have:=X0.size;have:=X.size;omega)) (by rw[hG];exact h.1),h.2⟩))
    refine DagStepsP.cons (λs' w' X U H=>dH ⟨?_,?_⟩) ?_
    ·exact AE rfl
    ·have cr:s' 49=(.agg #[(I6 3),(.slice ai 0 af),(.slice ah 2 ag),(I6 0),(I6 0),(.bool false)]):=H 0 rfl 49 (.eq (.agg #[(I6 3),(.slice ai 0 af),(.slice ah 2 ag),(I6 0),(I6 0),(.bool false)])) rfl (by rw[aj];rfl);obtain ⟨cn,b1,bw,ce,bv,cm⟩:=H 3 rfl 52 (.gen (DQ (λb=>S b∨n1≤b) G) (BD _ _)) rfl (by rw[aj];rfl);exact Fb (X:=F) (sa:=ai) (sc:=af) (aa:=ah) (ac:=ag) (cr.trans (by rw[hF];rfl)) bv (by rw[hF];exact AR.mono (λy hy=>(ay y hy).1) _ (AR.ext (X0.trans X) _ al)) cm (λb hb=>.inr (by have:=E1.size;have:=X0.size;have:=X.size;omega))
    refine DagStepsP.cons (λs' w' X U H=>dH ⟨?_,?_⟩) ?_
    ·exact AE rfl
    ·obtain ⟨b53,c1,cz⟩:=H 4 rfl 53 (.gen (Lf (λb=>S b∨n1≤b) [F,G]) (DE _ _)) rfl (by rw[aj];rfl);exact Ho c1 cz rfl
    refine DagStepsP.tail ?_;exact DagStepsP.nil
   ·intro s' w8 X8 U H;obtain ⟨aq,ar,ap,an,cb,bf⟩:=H 5 rfl 54 (.gen (DQ (λb=>S b∨n1≤b) (.mk 4 [] [F,G] 0 0 false)) (BD _ _)) rfl (by rw[aj];rfl);obtain ⟨j8,rfl⟩:=Ak.out (σ:=s') (l:=[(4,(P6 bo 0)),(54,(.agg #[(I6 4),(.slice aq 0 ar),(.slice ap 2 an),(I6 0),(I6 0),(.bool false)]))]) ⟨U 4 rfl,cb,trivial⟩;clear U H;have Br:=X8.keep Br;have Bu:=X8.keep Bu;have Bo:=X8.keep Bo;have Bq:=X8.keep Bq;have B6:=X8.keep B6;have E:=E.ext X8;refine Aa (b:=bo) (o:=0) (c':=#[(I6 4),(.slice aq 0 ar),(.slice ap 2 an),(I6 0),(I6 0),(.bool false)]) rfl rfl qS AG rfl Bo qL rfl ?_;intro w9 S9;have bf:=AR.chg S9.chg (λy hy h=>by have h2:y=bo:=h;rcases hy with h1|h1;have:=hS y h1;omega;omega) _ bf;have Br:=S9.keep qO Br;have Bu:=S9.keep qO Bu;have Bq:=S9.keep qO Bq;have B6:=S9.keep qO B6;have E:=S9.step E (by first|exact dH qO|assumption|exact dG rfl|exact dG (by assumption)|exact dG qP|exact dG qO|exact dG (by dsimp only;omega));have Bo:=S9.blk;refine AB (AC (AO (Ac (AK (A2 jU (vs:=[(I6 4),(.slice aq 0 ar),(.slice ap 2 an),(I6 0),(I6 0),(.bool false)]) (b:=bo) rfl Ad AG rfl (Bo.cells rfl) ?_)))));exact ⟨⟨_,rfl,by rw[if_pos (by simpa using he),hN];exact AR.mono (λy hy=>by rcases hy with h1|h1;exact .inl h1;exact .inr qO) _ bf⟩,E⟩
end Go.Proofs
namespace Go.Proofs
open Go Go.Eng
set_option maxRecDepth 100000
mutual
theorem PL (a:oB):∀t:Re,DA a t=(EX t).any λx=>a.contains x.kind
 | .mk k set args mn mx ng=>by simp only[DA,EX,kX,NC a args];rfl
theorem NC (a:oB):∀ts:List Re,DH a ts=(Dh ts).any λx=>a.contains x.kind
 | []=>rfl
 | t::ts=>by simp only[DH,Dh,kC,PL a t,NC a ts]
end
theorem M4 {α:Type} {l:List α} {k:Nat} {x:α} {f:α->Bool} (h:l[k]?=some x):(l.take (k+1)).any f=((l.take k).any f || f x):=by
 rw[eK,h,fL,kC];simp
theorem Zm (p:World) (t:Re) (vs:n_) (vk:Value) (a:oB) (ht:A3 p t vs) (W:Bw p vk a) (hs:t.size<=1000000) (hkl:a.length<=1000) :
 Bj prog 33 #[.agg vs.toArray,vk] p λv w=>v=.bool (DA a t)∧Ah p w:=by
 have M:=ht;obtain ⟨sa,sc,aa,ac,rfl,hset,hlen,hargs⟩:=ht.form;obtain ⟨X,B,rfl⟩:=BX.form W;simp only[dW] at W⊢;rw[PL];refine qR func33 O ntmps33 O (λE=>(AA (BC (v:=(.agg (R6 t sa sc aa ac))) (c:=(R6 t sa sc aa ac)) qD O O ?_)));intro b1 w1 N1;have E:=E.ext N1.ext;have d:=N1.blk;refine qA _ O (AB (AH (AA (qV (AI (vs:=(oJ t sa sc aa ac)) O Ad AG O (d.cells O)) (qE O (AS func31 kQ kQ O) (Pj _ t _ _ (A3.ext E t M) qO) ?_)))));rintro _ u ⟨la,Q,rows,rfl,s,e,X9⟩;have d:=X9.keep d;have E:=E.ext X9;obtain ⟨L,V⟩:∃L,L=EX t:=⟨_,O⟩;have hLl:L.length=t.size:=by rw[V,En]
 have I:(EX t).take (1000000:Int).toNat=L:=by rw[V];exact fK (by rw[En];exact hs)
 rw[I] at s e⊢;have m:EM u L rows:=EM.ext X9 e;rw[<-V];have g:Chg Aj u u:=Chg.refl _ _;refine qV (AT dJ O) (qM _ O (AB (AW (Ax (λnn_ σ A=>∃(k:Nat),(∃jj_,σ=BW jj_ [(1,(.slice X a.length B)),(10,(.slice la L.length Q)),(11,(I6 (L.length:Int))),(12,(I6 (k:Int)))])∧Chg Aj p A∧Chg Aj u A∧BV A b1 (R6 t sa sc aa ac) 25∧(k<=L.length)∧(((L.take k).any λx=>a.contains x.kind)=false)∧nn_=L.length - k) (n:=L.length - 0) ?_ ?_))))
 .exact ⟨0,oH,E,g,d,dR _,O,O⟩
 .clear E g d;rintro _ _ A ⟨k,⟨j2,rfl⟩,E,g,d,hk1,K,rfl⟩;refine AA (qV (A6 O O) (AB (AH (qC O (λH=>?_) (λH=>?_)))))
  .obtain ⟨x,G⟩:=AU (l:=L) (i:=k) qO;obtain ⟨r,hr,P⟩:=m.get G;obtain ⟨b,o,rfl,S⟩:=BX.at s qO;have F:=(S k r hr).ext g;obtain ⟨N,T,ya,R,rfl,hxset,hxlen,hxargs⟩:=P.form;refine AM (AC (AH (AW (AA (qV (AL (b:=b) (o:=o) (len:=L.length) (cap:=Q) (i:=k) (o':=o+k*6) O O O dJ AG qO qO) (qV (AI O Ad AG O (F)) (As (v:=(.agg (R6 x N T ya R))) (c:=(R6 x N T ya R)) (n:=6) qD A1 O AG O O O qS ?_)))))));intro bu wu C;have d:=C.keep d;have E:=E.ext C.ext;have z:=C.blk;have g:=g.ext C.ext;refine AB (AA (qM _ O (qV (AT eA O) (qM _ O (AB (AW (Ax (λnn_ σ y=>∃(j:Nat),(∃jj_,σ=BW jj_ [(1,(.slice X a.length B)),(6,(P6 bu 0)),(10,(.slice (oI b o) L.length Q)),(11,(I6 (L.length:Int))),(12,(I6 (k:Int))),(16,(.slice X a.length B)),(17,(I6 (a.length:Int))),(18,(I6 (j:Int)))])∧Chg Aj p y∧Chg Aj u y∧BV y b1 (R6 t sa sc aa ac) 25∧BV y bu (R6 x N T ya R) 25∧(j<=a.length)∧((a.take j).contains x.kind=false)∧nn_=a.length - j) (n:=a.length - 0) ?_ ?_)))))))
   .exact ⟨0,oH,E,g,d,z,dR _,O,O⟩
   .clear E g d z;rintro _ _ y ⟨j,⟨j4,rfl⟩,E,g,d,z,hj,D,rfl⟩;refine AA (qV (A6 O O) (AB (AH (qC O (λq=>?_) (λq=>?_)))))
    .obtain ⟨c,Z⟩:=AU (l:=a) (i:=j) qO;obtain ⟨kb,ko,rfl,J⟩:=CX W qO;refine AM (AC (AH (AW (AA (qV (AL (b:=kb) (o:=ko) (len:=a.length) (cap:=B) (i:=j) (o':=ko+j) O O O eA Al qO qO) (qV (AJ O Ag (E.cell (λf=>f) (J j c Z))) (qA _ O (AB (AA (qF bu 0 0 O dI O Al O (qV (AJ O Ag (z.cell O)) (qM _ O (qV (Ai O O) (AB (qC O (λhe=>?_) (λhe=>?_))))))))))))))))
     .refine AA (qA _ O (AB (AO (Ac (AK (AK (Ac (Ac (AK (AK (Ac (AK (AY results33 (v:=(.bool true)) O ?_)))))))))))));exact ⟨by rw[eX.2 ⟨x,dK G,by rw[lH,he];exact dK Z⟩],E⟩
     .refine AM (AV (AC (AN (qV (A0 O O (A8 qO)) (qM _ O (AB (AC ?_)))))));exact ⟨a.length - (j+1),qO,j+1,oH,E,g,d,z,qO,(by rw[eK,Z,fL];rw[kR,ne_eq,lH] at D⊢;intro h;rcases eC.1 h with h|h;exact D h;exact he (by simpa using h)),O⟩
    .have U:a.take j=a:=fK qO;rw[U] at D;refine Av (AZ (AZ (Ao (AV (AC (AN (qV (A0 O O (A8 qO)) (qM _ O (AB (AC ?_))))))))));exact ⟨L.length - (k+1),qO,k+1,oH,E,g,d,qO,(by rw[M4 G,K,D];rfl),O⟩
  .have ab:L.take k=L:=fK qO;rw[ab] at K;refine Av (AZ (AZ (Ao (AC (AA (qA _ O (AB (AO (AY results33 (v:=(.bool false)) O ?_)))))))));exact ⟨by rw[K],E⟩
end Go.Proofs
namespace Go.Proofs
open Go Go.Eng Go.Sort
set_option maxRecDepth 100000
theorem VN (c:Int):∀n,n<=1000000->SF c n
 | 0,_=>λt _ _ _ h=>qO
 | n+1,hN=>by
  have ih:=VN c n qO;intro t d S vs hn g b e;rcases g with ⟨f,a⟩|⟨f,i,a⟩
  .rcases a.n.ks with h|h|h|h|h|h|h|h|h
   .exact VM c t (.inl h) d S vs b
   .exact VM c t (.inr h) d S vs b
   .exact ZR c t h d S vs b
   .exact absurd h f
   .exact RG c n ih t qO qO a (.inl h) d S vs b e
   .exact ZQ c n ih t qO a h d S vs b e
   .exact ZP c n ih t qO a h d S vs b e
   .exact RG c n ih t qO qO a (.inr (.inl h)) d S vs b e
   .exact RG c n ih t qO qO a (.inr (.inr h)) d S vs b e
  .cases ha:t.args with
   | nil=>exact absurd ha i
   | cons x l=>
    rw[ha] at a;by_cases j:l=[]
    .subst j;exact Xj c n ih t qO x ha (a x qP) f d S vs b e
    .exact Xi c n ih t qO qO x l j ha (a x qP) (λy k=>a y (by simp[k])) f d S vs b e
theorem OE (c:Int) (w0:World) (S:Nat→Prop) (t:Re) (vs:n_) (ho:Au t) (h300:t.size≤300) (ht:AR S w0 t vs) (hS:∀x,S x→x<w0.heap.size) :
  Bj prog 42 #[.agg vs.toArray,I6 c] w0 λr w=>DQ (λb=>S b∨w0.heap.size≤b) (A_ c t) r w∧Ah w0 w:=by
 have ag:=ht;obtain ⟨sa,sc,aa,ac,rfl,_,_,_⟩:=ht.form;obtain ⟨hp,ab⟩:=Oi c ho;have ah:=Ts (c:=c) ho h300;obtain ⟨D,hD⟩:∃D,D=Cv c t:=⟨_,rfl⟩;obtain ⟨N,hN⟩:∃N,N=A_ c t:=⟨_,rfl⟩;rw[←hD] at hp ab ah;rw[←hN] at ab⊢;refine qR func42 rfl ntmps42 rfl (λE=>(AA (BC (v:=(.agg (R6 t sa sc aa ac))) (c:=(R6 t sa sc aa ac)) qD rfl rfl ?_)));intro br wr Nr;have Fr:=Nr.ge E;have E:=E.ext Nr.ext;have Br:=Nr.blk;refine BK (c:=#[(I6 0),(.slice none 0 0),(.slice none 0 0),(I6 0),(I6 0),(.bool false)]) qD A1 rfl ?_;intro bo wo No;have Fo:=No.ge E;have Oo_br:=No.lt Br;have Br:=No.keep Br;have E:=E.ext No.ext;have Bo:=No.blk;refine AB (AA (qV (AI (vs:=(oJ t sa sc aa ac)) rfl Ad AG rfl (Br.cells rfl)) (qM _ rfl ?_)));obtain ⟨n1,ad⟩:∃n1,n1=wo.heap.size:=⟨_,rfl⟩;have hob:w0.heap.size≤bo∧bo<n1∧w0.heap.size≤n1:=⟨by have:=No.eq;have:=Nr.ext.size;omega,by rw[ad];exact Bo.lt,by rw[ad];exact E.size⟩;refine qE rfl (AS jS kQ kQ rfl) ((VN c 1000000 qD t _ S _ qO (GH ho) (AR.ext E t ag) (λy hy=>by have:=hS y hy;have:=E.size;omega)).mono (R':=λr w=>DQ (λb=>S b∨n1≤b) D r w∧Ah wo w) (λr w h=>⟨CI (S':=λb=>S b∨wo.heap.size≤b) (λb hb=>by rcases hb with h1|h1;exact .inl h1;exact .inr (by rw[ad];exact h1)) (by rw[hD];exact h.1),h.2⟩)) ?_;rintro _ w9 ⟨⟨xa,xc,ya,yc,rfl,hR⟩,X9⟩;have Br:=X9.keep Br;have Bo:=X9.keep Bo;have E:=E.ext X9;refine qE rfl (AS func13 kQ kQ rfl) ((Jz D.size D _ _ _ (dU _) qO hp (AR.lt D hR) (λb hb=>hb.2)).mono (R':=λr w=>DQ (λb=>S b∨n1≤b) N r w∧Ah w9 w) (λr w h=>by obtain ⟨⟨us,h1,h2⟩,h3⟩:=h;rw[ab] at h2;exact ⟨CI (λb hb=>by rcases hb with hb|hb;exact hb.1;exact .inr (by have:=X9.size;omega)) ⟨us,h1,h2⟩,h3⟩)) ?_;rintro _ w19 ⟨⟨za,zc,ua,uc,rfl,af⟩,ae⟩;have Br:=ae.keep Br;have Bo:=ae.keep Bo;have E:=E.ext ae;refine Aa (b:=bo) (o:=0) (c':=(R6 N za zc ua uc)) rfl rfl qS AG rfl Bo qL rfl ?_;intro w1 S1;have af:=AR.chg S1.chg (λy hy h=>by have h2:y=bo:=h;rcases hy with h1|h1;have:=hS y h1;omega;omega) _ af;have Br:=S1.keep qO Br;have E:=S1.step E (by first|exact dH qO|assumption|exact dG rfl|exact dG (by assumption)|exact dG qP|exact dG qO|exact dG (by dsimp only;omega));have Bo:=S1.blk;refine AB (AO (A2 results42 (vs:=(oJ N za zc ua uc)) (b:=bo) rfl Ad AG rfl (Bo.cells rfl) ?_));exact ⟨⟨_,_,_,_,rfl,AR.mono (λy hy=>by rcases hy with h1|h1;exact .inl h1;exact .inr qO) _ af⟩,E⟩
theorem Xg (i:World) (t:Re) (vs:n_) (o:A3 i t vs) (hs:t.size<=2097152) :
 Bj prog 8 #[.agg vs.toArray] i λr w=>r=I6 (Cz t)∧Ah i w:=by
 have g:=o;obtain ⟨sa,sc,aa,ac,rfl,hset,hlen,hargs⟩:=o.form;have u:Cz t=if By t 300≠0 then By t 300 else if DA [9,10] t=true then 3 else 0:=rfl;rw[u];refine qR func8 O ntmps8 O (λE=>(AA (BC (v:=(.agg (R6 t sa sc aa ac))) (c:=(R6 t sa sc aa ac)) qD O O ?_)));intro br wr q;have E:=E.ext q.ext;have e:=q.blk;refine qA (I6 0) O (AB (AH (AA (qV (AI (vs:=(oJ t sa sc aa ac)) O Ad AG O (e.cells O)) (qE O (AS (vs:=[(.agg (R6 t sa sc aa ac)),(I6 300)]) func7 kQ kQ O) (Sj _ t _ 300 qD (A3.ext E t g) hs) ?_)))));rintro _ w9 ⟨rfl,p⟩;have e:=p.keep e;have E:=E.ext p;refine qA (I6 (By t 300)) O (AB (AA (qM (I6 (By t 300)) O (qV (Bb (k:=.i64) (a:=By t 300) (b:=0) O O) (AB (qC O (λh=>?_) (λh=>?_)))))))
 .refine AA (qM (I6 (By t 300)) O (qA (I6 (By t 300)) O (AB (AO (AK (AY results8 (v:=(I6 (By t 300))) O ?_))))));exact ⟨by rw[if_pos h],E⟩
 .have n:By t 300=0:=qO
  obtain ⟨hok,hsz⟩:=(EY qD qD).1 n;refine AM (AC (AH (AA (qV (AI (vs:=(oJ t sa sc aa ac)) O Ad AG O (e.cells O)) (Aw (ps:=[(0,(I6 9)),(1,(I6 10))]) (c:=#[(I6 9),(I6 10)]) qD O eA Al Ex qD qD qK ?_)))));intro s wk m;have E:=E.ext m.ext;have l:=m.blk;refine qE O (AS (vs:=[(.agg (R6 t sa sc aa ac)),(.slice (oI s 0) 2 2)]) func33 kQ kQ O) (Zm _ t _ _ [9,10] (A3.ext E t g) (FX [9,10] l qP qP) qO qD) ?_;rintro _ w19 ⟨rfl,d⟩;have e:=d.keep (m.keep e);have l:=d.keep l;have E:=E.ext d;refine AB (A4 (b:=DA [9,10] t) O (λf=>?_) (λf=>?_))
  .have j:=f;refine AA (qA (I6 3) O (AB (AO (AK (AY results8 (v:=(I6 3)) O ?_)))));exact ⟨by rw[if_neg h,if_pos f],E⟩
  .have j:=f;refine AM (AC (AA (qA (I6 0) O (AB (AO (AY results8 (v:=(I6 0)) O ?_))))));exact ⟨by rw[if_neg h,if_neg (by rw[f];decide)],E⟩
theorem Vo (j:World) (t:Re) (vs:n_) (l:A3 j t vs) (hs:t.size<=2097152) (i:C' t) :
 Bj prog 11 #[.agg vs.toArray] j λv w=>(∃b,v=.bool b∧(b=true->t.size<=40))∧Ah j w:=by
 have g:=l;obtain ⟨sa,sc,aa,ac,rfl,hset,hlen,hargs⟩:=l.form;refine qR func11 O ntmps11 O (λE=>(AA (BC (v:=(.agg (R6 t sa sc aa ac))) (c:=(R6 t sa sc aa ac)) qD O O ?_)));intro br wr k;have E:=E.ext k.ext;have e:=k.blk;refine qA _ O (AB (AA (qV (AI (vs:=(oJ t sa sc aa ac)) O Ad AG O (e.cells O)) (qE O (AS func31 kQ kQ O) (Pj _ t _ _ (A3.ext E t g) hs) ?_))));rintro _ w9 ⟨la,lc,rows,rfl,hsl,hrows,m⟩;have e:=m.keep e;have E:=E.ext m;have hpl:((EX t).take (41:Int).toNat).length=min 41 t.size:=by rw[gE,En];rfl
 refine qV (AT dJ O) (qV (ER O O) (qM _ O ?_));rcases dT (decide ((((((EX t).take (41:Int).toNat).length:Nat):Int):Int)<=40)) with a|a
 .have d:=a;have d:=of_decide_eq_true d;refine AF O O qD (Ar a) (qV (AI (vs:=(oJ t sa sc aa ac)) O Ad AG O (e.cells O)) (AF O O qD (Ar a) (qE O (AS func41 kQ kQ O) (Uo _ t (dU _) hs i _ _ (A3.ext E t g)) ?_)));rintro _ w29 ⟨⟨u,rfl,hu⟩,f⟩;have e:=f.keep e;have E:=E.ext f;refine AF O O qD (Ar a) (qV (ER O O) (qV (Af (v:=(.bool (decide ((u:Int)<=60)))) O (by rw[a];rfl)) (qA _ O (AB (AO (AY results11 (v:=(.bool (decide ((u:Int)<=60)))) O ?_))))));exact ⟨⟨_,O,λh=>by simp at a;omega⟩,E⟩
 .have d:=a;have d:=of_decide_eq_false d;refine AD O O qD (v:=.bool false) (Ar a) (dH O) (AD O O qD (v:=.bool false) (Ar a) (dH O) (AD O O qD (v:=.bool false) (Ar a) (dH O) (qV (Af (v:=(.bool false)) O (by rw[a];rfl)) (qA _ O (AB (AO (AY results11 (v:=(.bool false)) O ?_)))))));exact ⟨⟨_,O,λh=>by cases h⟩,E⟩
def QJ (t:Re):Re:=if Cz t=0 then CR t else BO
theorem YQ (w0:World) (S:Nat→Prop) (t:Re) (vs:n_) (ht:AR S w0 t vs) (hS:∀x,S x→x<w0.heap.size) :
  Bj prog 28 #[.agg vs.toArray] w0 λr w=>(∃us,r=.tuple #[.agg us.toArray,I6 (Cz t)]∧AR (λb=>w0.heap.size≤b) w (QJ t) us)∧Ah w0 w:=by
 have ai:=ht;obtain ⟨sa,sc,aa,ac,rfl,ao,ar,al⟩:=ht.form;refine qR func28 rfl ntmps28 rfl (λE=>(AA (BC (v:=(.agg (R6 t sa sc aa ac))) (c:=(R6 t sa sc aa ac)) qD rfl rfl ?_)));intro br wr Nr;have Fr:=Nr.ge E;have E:=E.ext Nr.ext;have Br:=Nr.blk;refine BK (c:=#[(I6 0),(.slice none 0 0),(.slice none 0 0),(I6 0),(I6 0),(.bool false)]) qD A1 rfl ?_;intro bo wo No;have Fo:=No.ge E;have Oo_br:=No.lt Br;have Br:=No.keep Br;have E:=E.ext No.ext;have Bo:=No.blk;refine qA _ rfl (AB (AH (AA (qV (AI (vs:=(oJ t sa sc aa ac)) rfl Ad AG rfl (Br.cells rfl)) (qE rfl (AS func25 kQ kQ rfl) (Rx _ t _ (AR.at t (AR.ext E t ai))) ?_)))));rintro _ w9 ⟨rfl,X9⟩;have Br:=X9.keep Br;have Bo:=X9.keep Bo;have E:=E.ext X9;refine qA _ rfl (AB (AA (qM _ rfl (qV (Bb rfl rfl) (AB (qC rfl (λhf=>?_) (λhf=>?_)))))))
 ·refine AA (qV (B0 (ps:=[]) (v:=(.agg #[(I6 0),(.slice none 0 0),(.slice none 0 0),(I6 0),(I6 0),(.bool false)])) rfl qK) (qM _ rfl (Aa (b:=bo) (o:=0) (c':=#[(I6 0),(.slice none 0 0),(.slice none 0 0),(I6 0),(I6 0),(.bool false)]) rfl rfl qS AG rfl Bo qL rfl ?_)));intro w2 S2;have Br:=S2.keep qO Br;have E:=S2.step E (by first|exact dH qO|assumption|exact dG rfl|exact dG (by assumption)|exact dG qP|exact dG qO|exact dG (by dsimp only;omega));have Bo:=S2.blk;refine qA _ rfl (AB (AO (AK (Ee results28 (vs:=[(I6 0),(.slice none 0 0),(.slice none 0 0),(I6 0),(I6 0),(.bool false)]) (b:=bo) (v':=(I6 (Cz t))) rfl Ad AG rfl (Bo.cells rfl) rfl ?_))));exact ⟨⟨_,rfl,by unfold QJ;rw[if_neg hf];exact Xd⟩,E⟩
 ·have ae:Cz t=0:=qO
  obtain ⟨ap,au,hu,af,aj⟩:=HL ae;obtain ⟨M,hM⟩:∃M,M=CR t:=⟨_,rfl⟩;refine AM (AC (AA (qV (AI (vs:=(oJ t sa sc aa ac)) rfl Ad AG rfl (Br.cells rfl)) ?_)));obtain ⟨n1,an⟩:∃n1,n1=w9.heap.size:=⟨_,rfl⟩;have hob:bo<n1∧w0.heap.size≤bo:=⟨by rw[an];exact Bo.lt,qO⟩;refine qE rfl (AS func76 kQ kQ rfl) ((WM 300 t _ S _ au qO ap hu (AR.ext E t ai) (λy hy=>by have:=hS y hy;have:=E.size;omega)).mono (R':=λr w=>DQ (λb=>S b∨n1≤b) M r w∧Ah w9 w) (λr w h=>⟨CI (S':=λb=>S b∨w9.heap.size≤b) (λb hb=>by rcases hb with h1|h1;exact .inl h1;exact .inr qO) (by rw[hM];exact h.1),h.2⟩)) ?_;rintro _ aq ⟨⟨xa,xc,ya,yc,rfl,hR⟩,ad⟩;have Br:=ad.keep Br;have Bo:=ad.keep Bo;have E:=E.ext ad;have am:bo<(aq).heap.size:=by have:=ad.size;omega
  refine qE rfl (AS func75 kQ kQ rfl) (WW M.size M _ _ (dU _) (by rw[hM];omega) (Lt M (by rw[hM];exact (EZ af).1)) (AR.at M hR)) ?_;rintro _ w59 ⟨⟨us,Z,L,rfl,ak,hZL,ab⟩,ag⟩;have Br:=ag.keep Br;have Bo:=ag.keep Bo;have E:=E.ext ag;have ah:=Ju (S:=λb=>bo<b) (λx hx=>by have:=(ab x (.inl hx)).1;omega) M ak (λx hx=>by have:=(ab x (.inr hx)).1;omega);obtain ⟨fa,fc,ga,gc,rfl,_,_,_⟩:=ak.form;refine Aa (b:=bo) (o:=0) (c':=(R6 M fa fc ga gc)) rfl rfl qS AG rfl Bo qL rfl ?_;intro w3 S3;have ah:=AR.chg S3.chg (λy hy h=>by have h2:y=bo:=h;have h3:bo<y:=hy;omega) _ ah;have Br:=S3.keep qO Br;have E:=S3.step E (by first|exact dH qO|assumption|exact dG rfl|exact dG (by assumption)|exact dG qP|exact dG qO|exact dG (by dsimp only;omega));have Bo:=S3.blk;refine qA _ rfl (AB (AO (Ee results28 (vs:=(oJ M fa fc ga gc)) (b:=bo) (v':=(I6 0)) rfl Ad AG rfl (Bo.cells rfl) rfl ?_)));exact ⟨⟨_,by rw[ae],by unfold QJ;rw[if_pos ae,←hM];exact AR.mono (λy (hy:bo<y)=>qO) _ ah⟩,E⟩
def Mu (S:oD) (x:Re) (e:Int):G0:=λv w=>∃sa sc aa ac,v=.tuple #[.agg (R6 x sa sc aa ac),I6 e]∧AR S w x (oJ x sa sc aa ac)
theorem G2 (S:oD) (x:Re) (e:Int):FK (Mu S x e):=by
 rintro v w w' e ⟨sa,sc,aa,ac,a,b⟩;exact ⟨sa,sc,aa,ac,a,AR.ext e x b⟩
theorem IG {S:oD} {x:Re} {c:Int} {v:Value} {w:World} {n:Nat} (e:w.heap.size=n) (h:Mu S x c v w):Mu (λy=>S y∧y≠n) x c v w:=by
 obtain ⟨sa,sc,aa,ac,b,d⟩:=h;exact ⟨sa,sc,aa,ac,b,AR.mono (λy a=>⟨a.1,qO⟩) x (AR.lt x d)⟩
theorem XG {S S':oD} {x:Re} {e:Int} {v:Value} {w:World} (d:∀b,S' b->S b) (h:∃a:n_,v=.tuple #[.agg a.toArray,I6 e]∧AR S' w x a):Mu S x e v w:=by
 obtain ⟨a,rfl,h⟩:=h;have c:=AR.mono d x h;obtain ⟨sa,sc,aa,ac,rfl,_⟩:=c.form;exact ⟨sa,sc,aa,ac,O,c⟩
section
variable {S : Nat → Prop} {cs : List (List Sp)} {w w' : World} {f : Re} {fv : List Value} {vc : Value} {mb mb' b n0 m0 most : Nat} {L L' : List Cel} {a : LzA Re} {t : Re}
theorem Is.ge (h:Is most a t L mb n0 L' mb') (d:m0<=mb) (e:∀y∈L,m0<=y.nb) (h3:m0<=n0):m0<=mb'∧∀y∈L',m0<=y.nb:=by
 rcases h with ⟨_,rfl,rfl⟩|⟨_,c,_,_,hc,⟨_,rfl,h5⟩|⟨_,rfl,rfl⟩⟩
 .exact ⟨d,e⟩
 .exact ⟨qO,λy b=>by rw[dO.1 b];omega⟩
 .refine ⟨d,λy b=>?_⟩;rcases eC.1 b with b|b
  .exact e y b
  .rw[dO.1 b];omega
theorem Is.find {x:Cel} {D:Re->Int->Re} (h:Is most a t L mb n0 L' mb') (l:HeldAt S D w mb' L') (hnd:(L.map (·.t)).Nodup) (j:x∈L) (hs:Au x.t) (r:RepA L' (holdA most a t)) (hd:a.dom x.t) :
 ((C_ (L'.map FF) (Er x.t)).getD none=none∧¬(holdA most a t).dom x.t)∨((C_ (L'.map FF) (Er x.t)).getD none=some x.sb∧x∈L'):=by
 have b:x∈L'->(C_ (L'.map FF) (Er x.t)).getD none=some x.sb:=λg=>by
  rcases l.get hs with ⟨y,d,e,k⟩|⟨hn,_⟩
  .rw[k,l.inj d g e];rfl
  .exact absurd O (hn x g)
 rcases h with ⟨_,rfl,_⟩|⟨i,c,m,_,_,⟨_,rfl,_⟩|⟨_,rfl,_⟩⟩
 .exact .inr ⟨b j,j⟩
 .have f:∀y∈[c],y.t≠x.t:=λy d e=>by
   rw[dO.1 d,m] at e;exact i (e▸hd)
  refine .inl ⟨?_,λh=>?_⟩
  .rcases l.get hs with ⟨y,d,e,_⟩|⟨_,k⟩
   .exact absurd e (f y d)
   .rw[k];rfl
  .obtain ⟨y,d,e⟩:=(r.dom _).1 h;exact f y d e
 .exact .inr ⟨b (iE _ j),iE _ j⟩
theorem I8 {a:LzA Re} {t:Re} {c:Int}:(knowA a t c).drops=a.drops:=by
 by_cases h:a.dom t
 .rw[Gk h]
 .rw[FW h]
theorem LzF.hold (h:LzF S cs w f fv vc mb L) (i:HeldAt (λy=>S y∨w.heap.size<=y) (EU cs) w' mb' L') (c:Chg (λq=>q=b∨q=mb) w w') (hb:¬S b) (j:∀y,w.heap.size<=y->S y):LzF S cs w' f fv vc mb' L':=by
 have a:∀q,S q->Fy w q->¬(q=b∨q=mb):=λq g hn e=>by
  rcases e with rfl|rfl
  .exact hb g
  .exact h.hd.map.no hn
 exact ⟨AR.chgM c a h.hf,h.sp.chgM c a,i.mono λy d=>d.elim id (j y)⟩
end
theorem Y0 {α:Type} {l:List α} {k:Nat} {x:α} (h:l[k]?=some x):l.drop k=x::l.drop (k+1):=by
 rw[i_ (AX h)];congr 1;exact (List.getElem?_eq_some_iff.1 h).2
theorem Ze (S:oD) (cs:nZ) (w0:World) (b mb most m0:Nat) (f:Re) (R W ca:oE) (Z T cc:Nat) (L:List Cel) (a:LzA Re) (v:Value) (text:oB)
 (hB:BV w0 b #[I6 f.kind,.slice R f.set.length Z,.slice W f.args.length T,I6 f.mn,I6 f.mx,.bool f.neg,I6 ((most:Nat):Int),.slice ca cs.length cc,.map (some mb),I6 a.made,I6 a.drops] Ky)
 (hF:LzF S cs w0 f (oJ f R Z W T) (.slice ca cs.length cc) mb L)
 (hR:RepA L a) (hb:¬S b) (c9:Au f) (dk:f.size<=300) (hO:a.Ok (EU cs) most) (hm:1<=most∧most<=100)
 (cv:m0<=b∧m0<=mb) (gf:∀y∈L,m0<=y.nb) (hm0:m0<=w0.heap.size) (hP:Dm w0) (hg:1<m0)
 (hx:B_ (λy=>y<m0) w0 1 v (text.map GB)) (hl:text.length<=1000)
 (eh:∀r∈text,0<=Cg cs r∧Cg cs r<cs.length) (ee:∀l∈cs,l≠[]∧CJ (BH l)=true) (c4:0<cs.length) :
 Bj prog 52 #[P6 b 0,v] w0 λr w=>
  ((r=.tuple #[.bool (BN (GV (EU cs) f (text.map (Cg cs)))),I6 0]∧∃mb' L' a',a'=matchA (EU cs) most a f (text.map (Cg cs))∧
   BV w b #[I6 f.kind,.slice R f.set.length Z,.slice W f.args.length T,I6 f.mn,I6 f.mx,.bool f.neg,I6 ((most:Nat):Int),.slice ca cs.length cc,.map (some mb'),I6 a'.made,I6 a'.drops] Ky∧
   LzF (λy=>S y∧y<w0.heap.size∨w0.heap.size<=y) cs w f (oJ f R Z W T) (.slice ca cs.length cc) mb' L'∧RepA L' a')∨
   (r=.tuple #[.bool false,I6 2]∧∃u,u.length<=text.length∧u=(text.map (Cg cs)).take u.length∧300<(GV (EU cs) f u).size))∧Chg (λq=>m0<=q) w0 w:=by
 obtain ⟨xa,xc,rfl⟩:∃xa xc,v=.slice xa text.length xc:=by
  obtain ⟨xa,xc,h,_⟩:=hx;exact ⟨xa,xc,by rw[h,dW]⟩
 obtain ⟨cb,co,rfl,_⟩:=CD hF.sp.at c4;have bp:=hF.lt;have e3:=hB.lt;refine Ew func52 O ntmps52 (RV O) ?_;have E:Chg (λq=>m0<=q) w0 w0:=Chg.refl _ _;refine AA (qA _ O (qA _ O (AB ?_)));have hz_1:w0.heap.size<=w0.heap.size:=E.size;have lz_1_b:b<w0.heap.size:=hB.lt;refine AH ?_;obtain ⟨fi,P⟩:∃Fs:List CW,Fs=[(eF (P6 b 0)),(eF (P6 b 0)),(eF (P6 b 0)),(eF (.agg (R6 f R Z W T))),(eF (P6 b 0)),(eF (P6 b 0)),(eF (P6 b 0)),(eF (.agg (R6 f R Z W T))),(eF (.string (Er f))),(λ_ _=>OW 25 #[(I6 0),(.slice none 0 0),(.slice none 0 0),(I6 0),(I6 0),(.bool false)] w0.heap.size),(eF undef),(eF undef)]:=⟨_,O⟩;refine EE (M6 []) [true,true,true,true,true,true,true,true,true,true,false,false] [10,11] [17,18,19,20,21,22,23,24,25,6,128,129] [[],[0],[1],[2],[],[4],[5],[6],[7],[],[],[]] [[],[0],[1,0],[2,1,0],[],[4],[5,4],[6,5,4],[7,6,5,4],[],[],[]] fi P qK mixed qK qK qK qK ?_ ?_
 .intro wd G;refine qZ (λS m w' hi hN X U V H=>?_) ?_
  .replace X:=Cq X;exact Ab (Am (U 0 O)) O
  refine qZ (λS m w' hi hN X U V H=>?_) ?_
  .replace X:=Cq X;have f0:=(H 0 O).2 17 _ O (by rw[P];rfl);exact Ab (Ay f0) O
  refine qZ (λS m w' hi hN X U V H=>?_) ?_
  .replace X:=Cq X;have fr:=(H 1 O).2 18 _ O (by rw[P];rfl);exact Ab (AQ fr fS O AG O) O
  refine qZ (λS m w' hi hN X U V H=>?_) ?_
  .replace X:=Cq X;have ef:=(H 2 O).2 19 _ O (by rw[P];rfl);exact Ab (AI ef Ad AG O (((G.trans X).keep hB).cells O)) O
  refine qZ (λS m w' hi hN X U V H=>?_) ?_
  .replace X:=Cq X;exact Ab (Am (U 0 O)) O
  refine qZ (λS m w' hi hN X U V H=>?_) ?_
  .replace X:=Cq X;have e2:=(H 4 O).2 21 _ O (by rw[P];rfl);exact Ab (Ay e2) O
  refine qZ (λS m w' hi hN X U V H=>?_) ?_
  .replace X:=Cq X;have f7:=(H 5 O).2 22 _ O (by rw[P];rfl);exact Ab (AQ f7 fS O AG O) O
  refine qZ (λS m w' hi hN X U V H=>?_) ?_
  .replace X:=Cq X;have ez:=(H 6 O).2 23 _ O (by rw[P];rfl);exact Ab (AI ez Ad AG O (((G.trans X).keep hB).cells O)) O
  refine qZ (λS m w' hi hN X U V H=>?_) ?_
  .replace X:=Cq X;have eo:=(H 7 O).2 24 _ O (by rw[P];rfl);exact D_ (AS func89 kQ kQ (Ha eo)) ((Vn 301 qO f _ _ qO c9 (hP.ext (G.trans X)) (AR.at f (AR.ext (Ah.trans G X) f bp.hf))).mono (λv w h=>h))
  refine DagStepsS.cons (Dl.chg (U:=Aj) (λv w w' x h=>Dv _ _ _ v w w' x h) (λp y hp hw h=>by
   exact h.elim)) (Hr.const) (λS m w' hi hN X U V H=>dH ⟨AE O,?_⟩) ?_
  .replace X:=Cq X;exact Qx (c:=#[(I6 0),(.slice none 0 0),(.slice none 0 0),(I6 0),(I6 0),(.bool false)]) A1 O (by have:=G.size;have:=X.size;omega)
  refine DagStepsS.tail (DagStepsS.tail ?_);exact DagStepsS.nil
 .intro m wd1 w1 G X1 U H;have X1:=X1.mono (M':=Aj) (λy _ h=>by
   obtain ⟨j,hj,h⟩:=h;exact h.elim)
  have fz:=H 3 O 20 _ O (by rw[P];rfl);have f4:=H 8 O 25 _ O (by rw[P];rfl);obtain ⟨J,e6,F,g6⟩:=(show ((λ_ _=>OW 25 #[(I6 0),(.slice none 0 0),(.slice none 0 0),(I6 0),(I6 0),(.bool false)] w0.heap.size):CW) (Me [true,true,true,true,true,true,true,true,true,true,false,false]) m (m 6) w1 from H 9 O 6 (λ_ _=>OW 25 #[(I6 0),(.slice none 0 0),(.slice none 0 0),(I6 0),(I6 0),(.bool false)] w0.heap.size) O (by rw[P];rfl));obtain ⟨j1,rfl⟩:=Ak.out (σ:=m) (l:=[(0,(P6 b 0)),(1,(.slice xa text.length xc)),(20,(.agg (R6 f R Z W T))),(25,(.string (Er f))),(6,(P6 J 0))]) ⟨U 0 O,U 1 O,fz,f4,e6,trivial⟩;clear U H;have hB:=(G.trans X1).keep hB;have bp:=bp.ext (G.trans X1);have hP:=hP.ext (G.trans X1);have hx:=hx.chg (G.trans X1) (λ_ _ f=>f);have X1:=G.trans X1;have E:=E.ext X1;refine Aa (b:=J) (o:=0) (c':=(R6 f R Z W T)) O O qS AG O F qL O ?_;intro w2 S2;have bp:=bp.cells S2.chg (λh=>by have:=h.2;have:=E.size;omega) (DT F);have hP:=hP.chg S2.chg (λh=>by have Q:1=J:=h;have:=E.size;omega);have hx:=hx.chg S2.chg (λy hy h=>by have Q:y=J:=h;have:=E.size;omega);have hB:=S2.keep qO hB;have E:=S2.step E (by first|exact dH qO|assumption|exact dG rfl|exact dG (by assumption)|exact dG qP|exact dG qO|exact dG (by dsimp only;omega));have F:=S2.blk;refine qA _ O (AB (AC (AA (qM _ O (qM _ O (qV (AI (vs:=(oJ f R Z W T)) O Ad AG O (F.cells O)) ?_))))));obtain ⟨SC,ci⟩:∃SC:oD,SC=λy=>(S y∧y<w0.heap.size)∨J<y:=⟨_,O⟩;have hwz:w0.heap.size<=J:=by have:=E.size;omega
  have hbl:b<w0.heap.size∧mb<w0.heap.size:=⟨e3,hF.hd.map.lt⟩;have bi:¬SC b:=by rw[ci];rintro (h|h);exact hb h.1;omega
  have bv:¬SC J:=by rw[ci];rintro (h|h);have:=h.2;omega;omega
  have cw:∀y,J<y->SC y:=by rw[ci];exact λy h=>.inr h
  have de:=bp.mono (S':=SC) (by rw[ci];exact λ_ h=>.inl h);have hb6:J<(w2).heap.size:=F.lt;refine qE O (AS func90 kQ kQ O) (V6 SC (EU cs) _ b mb most f _ _ _ _ _ _ _ _ L a hB de.hd hR bi de.hf c9 dk hm hO.le) ?_;rintro _ w9 ⟨ft,L1,dm,d,fx,C9⟩;have F:=C9.keep (λh=>by rcases h with h|h<;>omega) F;have E:=E.step C9 (λq _ h=>by rcases h with rfl|rfl;exact cv.1;exact cv.2);have ea:=de.hold fx C9 bi (λy hy=>cw y qO);have hP:=hP.chg C9 (λh=>by rcases h with h|h<;>omega);have hx:=hx.chg C9 (λy hy h=>by rcases h with h|h<;>omega);have f9:=dm.ge cv.2 gf (by have:=E.size;have:=C9.size;omega);have fm:=dm.rep hR;have fd:=LC (t:=f) hm.1 hO;have hgm:1<J∧m0<=J:=qO
  refine AB (AH (AA (qM _ O (qV (AT eA O) (qM _ O (AB (AW (Ax (λnn_ σ W3=>∃(k:Nat) (t:Re) (sa aa:oE) (sc ac:Nat) (af:Nat) (L2:List Cel) (a2:LzA Re),(∃jj_,σ=BW jj_ [(0,(P6 b 0)),(30,(.slice xa text.length xc)),(31,(I6 (text.length:Int))),(32,(I6 (k:Int))),(7,(.string (Er t))),(6,(P6 J 0))])∧Chg (λq=>m0<=q) w0 W3∧BV W3 J ((R6 t sa sc aa ac)) 25∧BV W3 b (#[I6 f.kind,.slice R f.set.length Z,.slice W f.args.length T,I6 f.mn,I6 f.mx,.bool f.neg,I6 (most:Int),.slice (oI cb co) cs.length cc,.map (some af),I6 a2.made,I6 a2.drops]) Ky∧(k<=text.length)∧(LzF SC cs W3 f (oJ f R Z W T) (.slice (oI cb co) cs.length cc) af L2)∧(AR SC W3 t (oJ t sa sc aa ac))∧(Au t∧t.size<=300)∧(a2.dom t)∧(RepA L2 a2)∧(a2.Ok (EU cs) most)∧(m0<=af∧∀y∈L2,m0<=y.nb)∧(Dm W3)∧(B_ (λy=>y<m0) W3 1 (.slice xa text.length xc) (text.map GB))∧(runA (EU cs) most (holdA most a f) f (text.map (Cg cs))=runA (EU cs) most a2 t ((text.map (Cg cs)).drop k))∧(t=GV (EU cs) f ((text.map (Cg cs)).take k))∧nn_=text.length - k) (n:=text.length - 0) ?_ ?_))))))))
  .exact ⟨0,f,R,W,Z,T,ft,L1,holdA most a f,oH,E,F,d,dR _,ea,ea.hf,⟨c9,dk⟩,MF,fm,fd,f9,hP,hx,(by rw[List.drop_zero]),(by rw[iK];rfl),O⟩
  .clear E F d;rintro _ _ W3 ⟨k,t,sa,aa,sc,ac,af,L2,a2,⟨j3,rfl⟩,E,F,d,hk,N,hT,hs,fj,au,bb,bn,C,A,bm,bo,rfl⟩;refine AA (qV (A6 O O) (AB (AH (qC O (λfq=>?_) (λfq=>?_)))))
   .obtain ⟨r,hr⟩:=AU (l:=text) (i:=k) qO;obtain ⟨xb,xo,rfl,e4⟩:=CX (n:=text.length) A.at qO;have hcr:=eh r (dK hr);obtain ⟨cn,d3,d7⟩:∃cn:Nat,Cg cs r=((cn:Nat):Int)∧cn<cs.length:=⟨(Cg cs r).toNat,qO,qO⟩;obtain ⟨cl,bu⟩:=AU (l:=cs) d7;refine AM (AC (AH (AW (AA (qV (AL (b:=xb) (o:=xo) (len:=text.length) (cap:=xc) (i:=k) (o':=xo+k) O O O eA Al qO qO) (qV (AJ O Ag (e4 k r hr)) (qA _ O (AB (AA (qM _ O (qV (Ay O) (qF b 0 7 O fS O PU O (qV (AJ O FC (d.cell O)) (qM _ O (qE O (AS func91 kQ kQ O) ((cH _ _ cs r N.sp.at).mono (R':=λu w=>u=I6 (cn:Int)∧Ah _ w) (λu w h=>⟨h.1.trans (by rw[d3]),h.2⟩)) ?_)))))))))))))));rintro _ ad ⟨rfl,ah⟩;have F:=ah.keep F;have d:=ah.keep d;have N:=N.ext ah;have hT:=AR.ext ah _ hT;have C:=C.ext ah;have A:=A.chg ah (λ_ _ f=>f);have E:=E.ext ah;have ae:=N.hd.map;obtain ⟨x,b2,bq,eg⟩:=(N.hd.get hs.1).resolve_right (λh=>by obtain ⟨y,hy,e⟩:=(au.dom t).1 fj;exact h.1 y hy e);have ch:=N.hd.cel x b2;obtain ⟨xsa,xsc,xaa,xac,du,_,_,_⟩:=ch.re.form;have db:=ch.blk;rw[du] at db;obtain ⟨nb,aj⟩:∃nb,nb=x.nb:=⟨_,O⟩;have d0:=ch.nx;rw[<-aj] at db d0;obtain ⟨o,ho⟩:∃o,o=C_ x.ns ((cn:Nat):Int):=⟨_,O⟩;refine qA _ O (AB (AA (qM _ O (qV (Ay O) (qF b 0 8 O fS O G7 O (qV (AJ O Hh (d.cell O)) (qM _ O (CM (v:=(P6 x.sb 0)) O O qD (Eq.trans (JL (eV:=ED) (k:=(Er t)) (z:=none) iT (H0 hY) Oa ae O O) (by rw[eg];rfl)) (qA _ O (AB (AH (AA (qM _ O (qV (Ay O) (qF _ _ _ O kZ O Q_ O (qV (AJ O O1 (db.cell O)) (qM _ O ?_)))))))))))))))));refine CM (v:=(.tuple #[(.string (o.getD ByteArray.empty)),(.bool o.isSome)])) O O qD (Eq.trans (NR (k:=(cn:Int)) (z:=ByteArray.empty) underlying118 (L7 fY) bN d0 O O) (by rw[<-ho])) (qM _ O (qV (BA O O) (qV (BA O O) (qA _ O (qA _ O (AB (AA (qM _ O (AB ?_)))))))));obtain ⟨D,hD⟩:∃D,D=EU cs t ((cn:Nat):Int):=⟨_,O⟩;have d6:Au D:=by rw[hD];exact Du _ hs.1
    have d5:(text.map (Cg cs))[k]?=some ((cn:Nat):Int):=by rw[eN,hr,<-d3];rfl
    have d2:=Y0 d5;have ct:GV (EU cs) f ((text.map (Cg cs)).take (k+1))=D:=by rw[eK,d5,fL];unfold GV at bo⊢;rw[hZ,<-bo,hD];rfl
    refine A4 O (λbr=>?_) (λbr=>?_)
    .have dj:=br;have c6:a2.kn t ((cn:Nat):Int):=(au.kn t _).2 ⟨x,b2,bq,by rw[<-ho];exact br⟩;obtain ⟨y,d9,eu,fn⟩:=(N.hd.get d6).resolve_right (λh=>by obtain ⟨y,hy,e⟩:=(au.dom _).1 (bb.kd t _ c6).2;exact h.1 y hy (e.trans hD.symm));obtain ⟨q,rfl⟩:=mO.1 br;have ey:q=Er D:=by rw[hD,<-bq];exact ch.kv _ (Il ho.symm)
     have c2:=N.hd.cel y d9;obtain ⟨cq,cm,cp,cx,eb,_,_,_⟩:=c2.re.form;have bk:=c2.blk;rw[eb] at bk
     subst eu;subst ey;have da:runA (EU cs) most (holdA most a f) f (text.map (Cg cs))=runA (EU cs) most a2 y.t ((text.map (Cg cs)).drop (k+1)):=by rw[bm,d2,runA,GM c6,<-hD]
     have hz_6:w0.heap.size<=ad.heap.size:=E.size;have lz_6_b6:J<ad.heap.size:=F.lt;have lz_6_b:b<ad.heap.size:=d.lt;have lz_6_mb2:af<ad.heap.size:=ae.lt;refine AH ?_;obtain ⟨f5,K⟩:∃Fs:List CW,Fs=[(eF (.string (Er y.t))),(eF (P6 b 0)),(eF (P6 b 0)),(eF (P6 b 8)),(eF (.map (some af))),(eF (.string (Er y.t))),(eF (P6 y.sb 0)),(eF (P6 y.sb 0)),(eF (P6 y.sb 0)),(eF (.agg (R6 y.t cq cm cp cx))),(eF (.string (Er y.t))),(eF undef)]:=⟨_,O⟩;refine EE (M6 []) [true,true,true,true,true,true,true,true,true,true,true,false] [11] [58,59,60,61,62,63,64,65,66,67,7,129] [[],[],[1],[2],[3],[],[4,5],[6],[7],[8],[0],[]] [[],[],[1],[2,1],[3,2,1],[],[4,3,2,1,5],[6,4,3,2,1,5],[7,6,4,3,2,1,5],[8,7,6,4,3,2,1,5],[0],[]] f5 K qK mixed qK qK qK qK ?_ ?_
     .intro wd G;refine qZ (λS m w' hi hN X U V H=>?_) ?_
      .replace X:=Cq X;exact Ab (Am (U 12 O)) O
      refine qZ (λS m w' hi hN X U V H=>?_) ?_
      .replace X:=Cq X;exact Ab (Am (U 0 O)) O
      refine qZ (λS m w' hi hN X U V H=>?_) ?_
      .replace X:=Cq X;have fg:=(H 1 O).2 59 _ O (by rw[K];rfl);exact Ab (Ay fg) O
      refine qZ (λS m w' hi hN X U V H=>?_) ?_
      .replace X:=Cq X;have gd:=(H 2 O).2 60 _ O (by rw[K];rfl);exact Ab (AQ gd fS O G7 O) O
      refine qZ (λS m w' hi hN X U V H=>?_) ?_
      .replace X:=Cq X;have e1:=(H 3 O).2 61 _ O (by rw[K];rfl);exact Ab (AJ e1 Hh (((G.trans X).keep d).cell O)) O
      refine qZ (λS m w' hi hN X U V H=>?_) ?_
      .replace X:=Cq X;exact Ab (Am (U 12 O)) O
      refine qZ (λS m w' hi hN X U V H=>?_) ?_
      .replace X:=Cq X;have e0:=(H 4 O).2 62 _ O (by rw[K];rfl);have fk:=(H 5 O).2 63 _ O (by rw[K];rfl);exact Ab (Eq.trans (JL (eV:=ED) (k:=Er y.t) (z:=none) iT (H0 hY) Oa ((Ah.trans G X).keepM ae) e0 fk) (by rw[fn];rfl)) O
      refine qZ (λS m w' hi hN X U V H=>?_) ?_
      .replace X:=Cq X;have f8:=(H 6 O).2 64 _ O (by rw[K];rfl);exact Ab (Ay f8) O
      refine qZ (λS m w' hi hN X U V H=>?_) ?_
      .replace X:=Cq X;have ei:=(H 7 O).2 65 _ O (by rw[K];rfl);exact Ab (AQ ei kZ O AG O) O
      refine qZ (λS m w' hi hN X U V H=>?_) ?_
      .replace X:=Cq X;have es:=(H 8 O).2 66 _ O (by rw[K];rfl);exact Ab (AI es Ad AG O (((Ah.trans G X).keep bk).cells O)) O
      refine qZ (λS m w' hi hN X U V H=>?_) ?_
      .replace X:=Cq X;have fa:=(H 0 O).2 58 _ O (by rw[K];rfl);exact Ab (Dg fa) O
      refine DagStepsS.tail ?_;exact DagStepsS.nil
     .intro m wd6 w6 G X6 U H;have X6:=X6.mono (M':=Aj) (λy _ h=>by
       obtain ⟨j,hj,h⟩:=h;exact h.elim)
      have fe:=H 9 O 67 _ O (by rw[K];rfl);have e7:=H 10 O 7 _ O (by rw[K];rfl);obtain ⟨j6,rfl⟩:=Ak.out (σ:=m) (l:=[(0,(P6 b 0)),(6,(P6 J 0)),(30,(.slice (oI xb xo) text.length xc)),(31,(I6 ((text.length:Nat):Int))),(32,(I6 ((k:Nat):Int))),(67,(.agg (R6 y.t cq cm cp cx))),(7,(.string (Er y.t)))]) ⟨U 0 O,U 6 O,U 30 O,U 31 O,U 32 O,fe,e7,trivial⟩;clear U H;have F:=(G.trans X6).keep F;have d:=(G.trans X6).keep d;have ae:=(G.trans X6).keepM ae;have N:=N.ext (G.trans X6);have hT:=AR.ext (G.trans X6) _ hT;have C:=C.ext (G.trans X6);have A:=A.chg (G.trans X6) (λ_ _ f=>f);have X6:=G.trans X6;have E:=E.ext X6;refine Aa (b:=J) (o:=0) (c':=(R6 y.t cq cm cp cx)) O O qS AG O F qL O ?_;intro w7 S7;have N:=N.cells S7.chg bv (DT F);have C:=C.chg S7.chg (λh=>by have Q:1=J:=h;omega);have A:=A.chg S7.chg (λz hz h=>by have Q:z=J:=h;omega);have d:=S7.keep qO d;have E:=S7.step E (by first|exact dH qO|assumption|exact dG rfl|exact dG (by assumption)|exact dG qP|exact dG qO|exact dG (by dsimp only;omega));have F:=S7.blk;refine AB (AC (Av (AZ (Ao (AC (AN (qV (A0 O O (A8 qO)) (qM _ O (AB (AC ?_))))))))));exact ⟨text.length - (k+1),qO,k+1,y.t,cq,cp,cm,cx,af,L2,a2,oH,E,F,d,qO,N,(by have Q:=(N.hd.cel y d9).re;rw[eb] at Q;exact Q),⟨c2.ok,c2.sz⟩,(by rw[hD];exact (bb.kd t _ c6).2),au,bb,bn,C,A,da,ct.symm,O⟩
    .have dj:=br;have ep:¬a2.kn t ((cn:Nat):Int):=λh=>by obtain ⟨y,hy,h1,h2⟩:=(au.kn t _).1 h;have e:=N.hd.inj hy b2 (h1.trans bq.symm);subst e;rw[<-ho,br] at h2;cases h2
     obtain ⟨cb',co',fc,ex⟩:=CD N.sp.at c4;cases fc;obtain ⟨ra,rc,dq,fp⟩:=ex cn cl bu;obtain ⟨b9,dh⟩:=ee cl (dK bu);have dv:D=A_ (BH cl) t:=by rw[hD];unfold EU;rw[eG,iY,bu];rfl
     obtain ⟨rb,ro,rfl,fy⟩:=BR fp (by cases cl with|nil=>exact absurd rfl b9|cons _ _=>simp);obtain ⟨s0,fv,ds⟩:∃s0,cl[0]?=some s0∧BH cl=s0.1:=by cases cl with|nil=>exact absurd rfl b9|cons z _=>exact ⟨z,rfl,rfl⟩
     have dy:=(fy 0 s0 fv) 0 _ O;have hcl1:0<cl.length:=by cases cl with|nil=>exact absurd rfl b9|cons _ _=>simp
     obtain ⟨B,d1⟩:∃B,B=bK t (BH cl):=⟨_,O⟩;have bk:Zt t (BH cl)=if 300<D.size then 2 else 0:=by unfold Zt;rw[if_neg (by rw[U5 hs.1 hs.2];simp),if_neg (by rw[dh];simp),Gg hs.1,<-dv]
     obtain ⟨e9,c1⟩:∃e9,e9=Zt t (BH cl):=⟨_,O⟩;have hbm2:J≠af:=D9 F ae;have hml2:=ae.lt;have aq:=N.lt;refine AM (AC (Gb (λσ W8=>∃(bd:Nat) (ya:oE) (yc:Nat) (za:oE) (zc:Nat),(∃jj_,σ=BW jj_ [(0,(P6 b 0)),(6,(P6 J 0)),(7,(.string (Er t))),(10,(I6 (cn:Int))),(11,(P6 x.sb 0)),(30,(.slice (oI xb xo) text.length xc)),(31,(I6 (text.length:Int))),(32,(I6 (k:Int))),(14,(P6 bd 0)),(15,(I6 e9))])∧Chg (λq=>m0<=q) w0 W8∧BV W8 J (R6 t sa sc aa ac) 25∧BV W8 b #[(I6 f.kind),(.slice R f.set.length Z),(.slice W f.args.length T),(I6 f.mn),(I6 f.mx),(.bool f.neg),(I6 (most:Int)),(.slice (oI cb co) cs.length cc),(.map (some af)),(I6 a2.made),(I6 a2.drops)] Ky∧(BV W8 bd (R6 B ya yc za zc) 25)∧(LzF SC cs W8 f (oJ f R Z W T) (.slice (oI cb co) cs.length cc) af L2)∧(AR SC W8 B (oJ B ya yc za zc))∧(Dm W8)∧(B_ (λy=>y<m0) W8 1 (.slice (oI xb xo) text.length xc) (text.map GB))∧(b<bd∧J<bd∧af<bd)) ?_ ?_))
     .skip
      have hz_9:w0.heap.size<=ad.heap.size:=E.size;have lz_9_b6:J<ad.heap.size:=F.lt;have lz_9_b:b<ad.heap.size:=d.lt;obtain ⟨fu,g⟩:∃Fs:oD->List Fact,Fs=λRR=>[.eq (.agg (R6 t sa sc aa ac)),.eq (P6 b 0),.eq (P6 b 0),.eq (P6 b 7),.eq (.slice (oI cb co) cs.length cc),.eq (I6 (cn:Int)),.eq (.pointer (some ⟨cb,co+cn,none⟩)),.eq (.slice (oI rb ro) cl.length rc),.eq (.pointer (some ⟨rb,ro+0*2,none⟩)),.eq (.pointer (some ⟨rb,ro+0*2,none⟩)),.eq (I6 (BH cl)),.gen (Mu RR B e9) (G2 _ _ _),.gen (Mu RR B e9) (G2 _ _ _),.gen (DQ RR B) (BD _ _),.eq (I6 e9),.gen (OW 25 #[(I6 0),(.slice none 0 0),(.slice none 0 0),(I6 0),(I6 0),(.bool false)] ad.heap.size) (Dv _ _ _),.eq undef,.eq undef]:=⟨_,O⟩;refine Ig [true,true,true,true,true,true,true,true,true,true,true,true,true,true,true,true,false,false] [16,17] 14 16 [14,17] [69,70,71,72,73,74,75,76,77,78,79,80,68,81,82,14,134,135] [[],[],[1],[2],[3],[],[4,5],[6],[7],[8],[9],[0,10],[11],[12],[12],[],[],[]] fu g (λy=>J<y) (λy hy=>qO) 15 14 (lo:=ad.heap.size) (dU _) O O (PD.mk' A1 O) (λRR=>⟨_,by rw[g];rfl⟩) (λn=>by rw[g];repeat (first|exact Cvs.nil|refine Cvs.same ?_|refine Cvs.cons (λv w e h=>by first|exact J5 e h|exact J2 e h|exact IG e h) ?_)) mixed qK qK O qK qK qK ?_ ?_ ?_
      .intro wd G RR hRR1 d8;refine DagStepsP.cons (λm w' X U H=>dH ⟨?_,?_⟩) ?_
       .exact AE O
       .exact AP (AI (U 6 O) Ad AG O (((G.trans X).keep F).cells O)) (Ah.refl _) O
       refine DagStepsP.cons (λm w' X U H=>dH ⟨?_,?_⟩) ?_
       .exact AE O
       .exact AP (Am (U 0 O)) (Ah.refl _) O
       refine DagStepsP.cons (λm w' X U H=>dH ⟨?_,?_⟩) ?_
       .exact AE O
       .have gc:m 70=(P6 b 0):=H 1 O 70 (.eq (P6 b 0)) O (by rw[g];rfl);exact AP (Ay gc) (Ah.refl _) O
       refine DagStepsP.cons (λm w' X U H=>dH ⟨?_,?_⟩) ?_
       .exact AE O
       .have fs:m 71=(P6 b 0):=H 2 O 71 (.eq (P6 b 0)) O (by rw[g];rfl);exact AP (AQ fs fS O PU O) (Ah.refl _) O
       refine DagStepsP.cons (λm w' X U H=>dH ⟨?_,?_⟩) ?_
       .exact AE O
       .have fw:m 72=(P6 b 7):=H 3 O 72 (.eq (P6 b 7)) O (by rw[g];rfl);exact AP (AJ fw FC (((G.trans X).keep d).cell O)) (Ah.refl _) O
       refine DagStepsP.cons (λm w' X U H=>dH ⟨?_,?_⟩) ?_
       .exact AE O
       .exact AP (Am (U 10 O)) (Ah.refl _) O
       refine DagStepsP.cons (λm w' X U H=>dH ⟨?_,?_⟩) ?_
       .exact AE O
       .have ed:m 73=(.slice (oI cb co) cs.length cc):=H 4 O 73 (.eq (.slice (oI cb co) cs.length cc)) O (by rw[g];rfl);have fo:m 74=(I6 ((cn:Nat):Int)):=H 5 O 74 (.eq (I6 ((cn:Nat):Int))) O (by rw[g];rfl);exact AP (AL (i:=cn) ed fo qO eH Bc qO qO) (Ah.refl _) O
       refine DagStepsP.cons (λm w' X U H=>dH ⟨?_,?_⟩) ?_
       .exact AE O
       .have gb:m 75=(.pointer (some ⟨cb,co+cn,none⟩)):=H 6 O 75 (.eq (.pointer (some ⟨cb,co+cn,none⟩))) O (by rw[g];rfl);exact AP (AJ gb Bf (Ah.cell (G.trans X) dq)) (Ah.refl _) O
       refine DagStepsP.cons (λm w' X U H=>dH ⟨?_,?_⟩) ?_
       .exact AE O
       .have em:m 76=(.slice (oI rb ro) cl.length rc):=H 7 O 76 (.eq (.slice (oI rb ro) cl.length rc)) O (by rw[g];rfl);exact AP (AL (i:=0) em O O dS BL qO qO) (Ah.refl _) O
       refine DagStepsP.cons (λm w' X U H=>dH ⟨?_,?_⟩) ?_
       .exact AE O
       .have ew:m 77=(.pointer (some ⟨rb,ro+0*2,none⟩)):=H 8 O 77 (.eq (.pointer (some ⟨rb,ro+0*2,none⟩))) O (by rw[g];rfl);exact AP (AQ ew eM O Al O) (Ah.refl _) O
       refine DagStepsP.cons (λm w' X U H=>dH ⟨?_,?_⟩) ?_
       .exact AE O
       .have e8:m 78=(.pointer (some ⟨rb,ro+0*2,none⟩)):=H 9 O 78 (.eq (.pointer (some ⟨rb,ro+0*2,none⟩))) O (by rw[g];rfl);exact AP (AJ e8 Ag (Ah.cell (G.trans X) (by rw[ds];exact dy))) (Ah.refl _) O
       refine DagStepsP.cons (λm w' X U H=>dH ⟨?_,?_⟩) ?_
       .exact AE O
       .have f2:m 69=(.agg (R6 t sa sc aa ac)):=H 0 O 69 (.eq (.agg (R6 t sa sc aa ac))) O (by rw[g];rfl);have fb:m 79=(I6 (BH cl)):=H 10 O 79 (.eq (I6 (BH cl))) O (by rw[g];rfl);exact A7 (AS func92 kQ kQ (F_ f2 fb)) ((aW _ (λy=>SC y∧y<ad.heap.size) t _ (BH cl) (AR.ext (G.trans X) t (AR.lt t hT)) (λy (hy:SC y∧y<ad.heap.size)=>by have:=hy.2;have:=G.size;have:=X.size;omega)).mono (λv w h=>⟨by rw[d1,c1];exact XG (S':=λb=>w'.heap.size<=b) (λb hb=>d8 b (by have:=X.size;omega)) h.1,h.2⟩))
       refine DagStepsP.cons (λm w' X U H=>dH ⟨?_,?_⟩) ?_
       .exact AE O
       .obtain ⟨xa80,xc80,ya80,yc80,f6,ek⟩:=H 11 O 80 (.gen (Mu RR B e9) (G2 _ _ _)) O (by rw[g];rfl);exact AP (Am f6) (Ah.refl _) ⟨_,_,_,_,O,ek⟩
       refine DagStepsP.cons (λm w' X U H=>dH ⟨?_,?_⟩) ?_
       .exact AE O
       .obtain ⟨ck,b1,b3,bw,b5,df⟩:=H 12 O 68 (.gen (Mu RR B e9) (G2 _ _ _)) O (by rw[g];rfl);exact AP (BA b5 O) (Ah.refl _) ⟨_,_,_,_,O,df⟩
       refine DagStepsP.cons (λm w' X U H=>dH ⟨?_,?_⟩) ?_
       .exact AE O
       .obtain ⟨ck,b1,b3,bw,b5,df⟩:=H 12 O 68 (.gen (Mu RR B e9) (G2 _ _ _)) O (by rw[g];rfl);exact AP (BA b5 O) (Ah.refl _) O
       refine DagStepsP.cons (λm w' X U H=>dH ⟨?_,?_⟩) ?_
       .exact AE O
       .exact FM (c:=#[(I6 0),(.slice none 0 0),(.slice none 0 0),(I6 0),(I6 0),(.bool false)]) A1 O (by have:=G.size;have:=X.size;omega)
       refine DagStepsP.tail (DagStepsP.tail ?_);exact DagStepsP.nil
      .intro m w9 RR β X9 U bf hβ H;obtain ⟨al,ao,ap,an,c8,bh⟩:=H 13 O 81 (.gen (DQ RR B) (BD _ _)) O (by rw[g];rfl);obtain ⟨ab,b0,ax,f1⟩:=H 15 O 14 (.gen (OW 25 #[(I6 0),(.slice none 0 0),(.slice none 0 0),(I6 0),(I6 0),(.bool false)] ad.heap.size) (Dv _ _ _)) O (by rw[g];rfl);have bz:β=ab:=by have Q:=b0.symm.trans hβ;simpa using Q.symm
       rw[bz] at bf;clear hβ bz β;obtain ⟨j9,rfl⟩:=Ak.out (σ:=m) (l:=[(0,(P6 b 0)),(6,(P6 J 0)),(7,(.string (Er t))),(10,(I6 ((cn:Nat):Int))),(11,(P6 x.sb 0)),(30,(.slice (oI xb xo) text.length xc)),(31,(I6 ((text.length:Nat):Int))),(32,(I6 ((k:Nat):Int))),(81,(.agg (R6 B al ao ap an))),(82,(I6 e9)),(14,(P6 ab 0))]) ⟨U 0 O,U 6 O,U 7 O,U 10 O,U 11 O,U 30 O,U 31 O,U 32 O,c8,(show m 82=(I6 e9) from H 14 O 82 (.eq (I6 e9)) O (by rw[g];rfl)),b0,trivial⟩;clear U H;have F:=X9.keep F;have d:=X9.keep d;have hT:=AR.ext X9 _ hT;have C:=C.ext X9;have A:=A.chg X9 (λ_ _ f=>f);have aq:=aq.ext X9;have E:=E.ext X9;refine Aa (b:=ab) (o:=0) (c':=(R6 B al ao ap an)) O O qS AG O ax qL O ?_;intro w10 a9;have aq:=aq.cells a9.chg (λh=>by have:=h.2;omega) (DT ax);have C:=C.chg a9.chg (λh=>by have Q:1=ab:=h;omega);have A:=A.chg a9.chg (λz hz h=>by have Q:z=ab:=h;omega);have bh:=AR.chg a9.chg (λy hy h=>by have h2:y=ab:=h;exact (bf y hy).2 h2) _ bh;have F:=a9.keep qO F;have d:=a9.keep qO d;have E:=a9.step E (by first|exact dH qO|assumption|exact dG rfl|exact dG (by assumption)|exact dG qP|exact dG qO|exact dG (by dsimp only;omega));have ax:=a9.blk;refine qA _ O (AB (AC ?_));exact ⟨ab,al,ao,ap,an,oH,E,F,d,ax,aq.mono (λ_ h=>h.1),AR.mono (λy hy=>cw y (bf y hy).1) _ bh,C,A,qO⟩
      .intro _ m w9 RR β X9 U bf hβ H;obtain ⟨ck,b1,b3,bw,b5,df⟩:=H 12 O qD 68 (.gen (Mu RR B e9) (G2 _ _ _)) O (by rw[g];rfl);obtain ⟨al,ao,ap,an,c8,bh⟩:=H 13 O qD 81 (.gen (DQ RR B) (BD _ _)) O (by rw[g];rfl);obtain ⟨ab,b0,ax,f1⟩:=H 15 O qD 14 (.gen (OW 25 #[(I6 0),(.slice none 0 0),(.slice none 0 0),(I6 0),(I6 0),(.bool false)] ad.heap.size) (Dv _ _ _)) O (by rw[g];rfl);have bz:β=ab:=by have Q:=b0.symm.trans hβ;simpa using Q.symm
       rw[bz] at bf;clear hβ bz β;obtain ⟨j9,rfl⟩:=Ak.out (σ:=m) (l:=[(0,(P6 b 0)),(6,(P6 J 0)),(7,(.string (Er t))),(10,(I6 ((cn:Nat):Int))),(11,(P6 x.sb 0)),(30,(.slice (oI xb xo) text.length xc)),(31,(I6 ((text.length:Nat):Int))),(32,(I6 ((k:Nat):Int))),(68,(.tuple #[(.agg (R6 B ck b1 b3 bw)),(I6 e9)])),(81,(.agg (R6 B al ao ap an))),(14,(P6 ab 0))]) ⟨U 0 O,U 6 O,U 7 O,U 10 O,U 11 O,U 30 O,U 31 O,U 32 O,b5,c8,b0,trivial⟩;clear U H;have F:=X9.keep F;have d:=X9.keep d;have hT:=AR.ext X9 _ hT;have C:=C.ext X9;have A:=A.chg X9 (λ_ _ f=>f);have aq:=aq.ext X9;have E:=E.ext X9;refine Aa (b:=ab) (o:=0) (c':=(R6 B al ao ap an)) O O qS AG O ax qL O ?_;intro w11 a6;have aq:=aq.cells a6.chg (λh=>by have:=h.2;omega) (DT ax);have C:=C.chg a6.chg (λh=>by have Q:1=ab:=h;omega);have A:=A.chg a6.chg (λz hz h=>by have Q:z=ab:=h;omega);have bh:=AR.chg a6.chg (λy hy h=>by have h2:y=ab:=h;exact (bf y hy).2 h2) _ bh;have F:=a6.keep qO F;have d:=a6.keep qO d;have E:=a6.step E (by first|exact dH qO|assumption|exact dG rfl|exact dG (by assumption)|exact dG qP|exact dG qO|exact dG (by dsimp only;omega));have ax:=a6.blk;refine qV (BA O O) (qA _ O (AB (AC ?_)));exact ⟨ab,al,ao,ap,an,oH,E,F,d,ax,aq.mono (λ_ h=>h.1),AR.mono (λy hy=>cw y (bf y hy).1) _ bh,C,A,qO⟩
     .clear E F d;rintro _ W8 ⟨bd,ya,yc,za,zc,⟨j8,rfl⟩,E,F,d,I,bc,bj,C,A,hbd⟩;refine AH (AA (qM _ O (qV (Bb O O) (AB (qC O (λhe=>?_) (λhe=>?_))))))
      .have h2:e9=2∧300<D.size:=by rw[c1,bk] at he;rw[c1,bk];by_cases Q:300<D.size;exact ⟨if_pos Q,Q⟩;rw[if_neg Q] at he;exact absurd O he
       refine AA (qM _ O (qA _ O (qA _ O (AB (AO (AK (Ac (AK (AK (Ac (AK (CA results52 (v:=(.bool false)) (v':=(I6 e9)) O O ?_))))))))))));exact ⟨.inr ⟨by rw[h2.1],(text.map (Cg cs)).take (k+1),by rw[gE,dW];omega,by rw[gE,dW,lK qO],by rw[ct];exact h2.2⟩,E⟩
      .have ej:¬300<D.size:=λQ=>by rw[c1,bk,if_pos Q] at he;omega
       have a0:B=D:=by rw[d1];unfold bK;rw[if_pos (by rw[bk,if_neg ej]),Gg hs.1,<-dv]
       have c0:Au B:=by rw[a0];exact d6
       have dg:B.size<=300:=by rw[a0];omega
       refine AM (AC (AA (qM _ O (qV (Ay O) (qF b 0 9 O fS O Al O (qV (AJ O Ag (d.cell O)) (qV (A0 (c:=Et a2.made) O O (O)) (qV (Ay O) (qF b 0 9 O fS O Al O (CB (b:=b) (o:=9) (c':=#[(I6 f.kind),(.slice R f.set.length Z),(.slice W f.args.length T),(I6 f.mn),(I6 f.mx),(.bool f.neg),(I6 (most:Int)),(.slice (oI cb co) cs.length cc),(.map (some af)),(I6 (Et a2.made)),(I6 a2.drops)]) (v:=(I6 (Et a2.made))) O O O Al d qP O ?_))))))))));intro w13 az;have bc:=bc.cells az.chg bi (DT d);have bj:=AR.chgM az.chg (λz hz _ h=>by have Q:z=b:=h;exact bi (Q▸hz)) bj;have C:=C.chg az.chg (λh=>by have Q:1=b:=h;omega);have A:=A.chg az.chg (λz hz h=>by have Q:z=b:=h;omega);have F:=az.keep qO F;have I:=az.keep qO I;have E:=az.step E (by first|exact dH qO|assumption|exact dG rfl|exact dG (by assumption)|exact dG qP|exact dG qO|exact dG (by dsimp only;omega));have d:=az.blk;refine AB (AA (qV (AI (vs:=(oJ B ya yc za zc)) O Ad AG O (I.cells O)) (qE O (AS func89 kQ kQ O) ((Vn 301 qO B _ _ qO c0 C (AR.at B bj))) ?_)));rintro _ et ⟨rfl,a3⟩;have F:=a3.keep F;have d:=a3.keep d;have I:=a3.keep I;have bc:=bc.ext a3;have bj:=AR.ext a3 _ bj;have C:=C.ext a3;have A:=A.chg a3 (λ_ _ f=>f);have E:=E.ext a3;have dw:RepA L2 (GR a2):=⟨au.dom,au.kn,au.n⟩;have hl6:=F.lt;have en:=bn.1;have hs29:w0.heap.size<=(et).heap.size:=E.size;refine qA _ O (AB (AA (qM _ O (qM _ O (qV (AI (vs:=(oJ B ya yc za zc)) O Ad AG O (I.cells O)) (qE O (AS func90 kQ kQ O) (V6 SC (EU cs) _ b af most B _ _ _ _ _ _ _ _ L2 (GR a2) d bc.hd dw bi bj c0 dg hm bb.le) ?_))))));rintro _ bt ⟨c3,L3,cj,M,ff,bg⟩;have F:=bg.keep (λh=>by rcases h with h|h<;>omega) F;have I:=bg.keep (λh=>by rcases h with h|h<;>omega) I;have E:=E.step bg (λq _ h=>by rcases h with rfl|rfl;exact cv.1;exact en);have am:=bc.hold ff bg bi (λy hy=>cw y qO);have C:=C.chg bg (λh=>by rcases h with h|h<;>omega);have A:=A.chg bg (λy hy h=>by rcases h with h|h<;>omega);have av:=AR.chgM bg (λz hz hn h=>by rcases h with rfl|rfl;exact bi hz;exact bc.hd.map.no hn) bj;have a8:=cj.ge bn.1 bn.2 qO;have cy:=cj.rep dw;have e5:(holdA most (GR a2) B).Ok (EU cs) most:=LC hm.1 ⟨bb.kd,bb.le⟩;have bs:=cj.find am.hd bc.hd.nd b2 ch.ok cy ((au.dom _).2 ⟨x,b2,O⟩);rw[bq] at bs;obtain ⟨a4,dx⟩:∃a4,a4=holdA most (GR a2) B:=⟨_,O⟩;rw[<-dx] at M cy e5 bs;obtain ⟨o4,di⟩:∃o4,o4=(C_ (L3.map FF) (Er t)).getD none:=⟨_,O⟩;rw[<-di] at bs;have c7:=am.hd.map;obtain ⟨a5,cr⟩:∃a5,a5=stepA (EU cs) most a2 t ((cn:Nat):Int):=⟨_,O⟩;have cz:a5=knowA a4 t ((cn:Nat):Int):=by rw[cr,G3 ep,dx,a0,hD]
       have dr:a5.Ok (EU cs) most:=by rw[cr];exact PP hm.1 bb
       have dp:a5.dom B:=by rw[cr,a0,hD];exact Te bb
       have b8:runA (EU cs) most (holdA most a f) f (text.map (Cg cs))=runA (EU cs) most a5 B ((text.map (Cg cs)).drop (k+1)):=by rw[bm,d2,runA,cr,a0,hD]
       rw[show a4.made=a5.made by rw[cz,KF],show a4.drops=a5.drops by rw[cz,I8]] at M;refine AB (AH (AA (qM _ O (qV (Ay O) (qF b 0 8 O fS O G7 O (qV (AJ O Hh (M.cell O)) (qM _ O (CM (v:=(ED o4)) O O qD (Eq.trans (JL (eV:=ED) (k:=(Er t)) (z:=none) iT (H0 hY) Oa c7 O O) (by rw[<-di])) (qM _ O (qV (Xl (s:=x.sb) (bs.imp nY nY) underlying117 ZI O O) (AB (A4 O (λbe=>?_) (λbe=>?_)))))))))))))
       .have d4:=be;have cu:x∈L3:=bs.elim (λh=>by rw[h.1] at be;cases be) (λh=>h.2);obtain ⟨i3,dc⟩:=eS.1 cu;have cg:=am.hd.cel x cu;have c5:=cg.blk;rw[du,<-aj] at c5;have ak:=cg.nx;rw[<-aj] at ak;have dz:m0<=nb:=by rw[aj];exact a8.2 x cu
        have hne9:b≠nb∧J≠nb∧bd≠nb:=⟨D9 M ak,D9 F ak,D9 I ak⟩;refine AN (qM _ O (qV (Ay O) (qF _ _ _ O kZ O Q_ O (qV (AJ O O1 (c5.cell O)) (qM _ O (qM _ O (Ea (k:=(cn:Int)) (v:=(Er B)) underlying118 (L7 fY) ak O O O ?_)))))));intro b7 ar gg;have F:=ar.keep qO F;have I:=ar.keep qO I;have M:=ar.keep qO M;have E:=ar.step E (.inr dz);have ak:=gg;refine AB (AC ?_);have fh:=am.hd.know (n:=((cn:Nat):Int)) (q:=Er B) dc (by rw[<-aj];exact ar.chg) (by rw[<-aj];exact ak) (by rw[a0,hD,bq]);have dd:∀z,SC z->Fy bt z->¬z=nb:=λz _ hn e=>by rw[e,aj] at hn;exact cg.nx.no hn
        have ce:LzF SC cs b7 f (oJ f R Z W T) (.slice (oI cb co) cs.length cc) c3 (L3.set i3 (UA x ((cn:Nat):Int) (Er B))):=⟨AR.chgM ar.chg dd am.hf,am.sp.chgM ar.chg dd,fh⟩;have ba:=AR.chgM ar.chg dd av;have bx:=C.chg ar.chg (λh=>by have Q:1=nb:=h;omega);have cf:=A.chg ar.chg (λz hz h=>by have Q:z=nb:=h;have h8:z<m0:=hz;omega);have f3:RepA (L3.set i3 (UA x ((cn:Nat):Int) (Er B))) a5:=by rw[cz,<-bq];exact cy.know dc
        have dl:m0<=c3∧∀y∈L3.set i3 (UA x ((cn:Nat):Int) (Er B)),m0<=y.nb:=⟨a8.1,λy hy=>by rcases J1 dc hy with rfl|⟨j,_,hj⟩;exact a8.2 x cu;exact a8.2 y (dK hj)⟩;have hz_16:w0.heap.size<=b7.heap.size:=E.size;have lz_16_b6:J<b7.heap.size:=F.lt;have lz_16_bd:bd<b7.heap.size:=I.lt;have lz_16_b:b<b7.heap.size:=M.lt;obtain ⟨dt,aw⟩:∃Fs:List CW,Fs=[(eF (.string (Er B))),(eF (.agg (R6 B ya yc za zc))),(eF (.string (Er B))),(eF undef)]:=⟨_,O⟩;refine EE (M6 []) [true,true,true,false] [3] [113,114,7,121] [[],[],[0],[]] [[],[],[0],[]] dt aw qK mixed qK qK qK qK ?_ ?_
        .intro wd G;refine qZ (λS m w' hi hN X U V H=>?_) ?_
         .replace X:=Cq X;exact Ab (Am (U 16 O)) O
         refine qZ (λS m w' hi hN X U V H=>?_) ?_
         .replace X:=Cq X;exact Ab (AI (U 14 O) Ad AG O (((G.trans X).keep I).cells O)) O
         refine qZ (λS m w' hi hN X U V H=>?_) ?_
         .replace X:=Cq X;have b4:=(H 0 O).2 113 _ O (by rw[aw];rfl);exact Ab (Dg b4) O
         refine DagStepsS.tail ?_;exact DagStepsS.nil
        .intro m wd16 w16 G ag U H;have ag:=ag.mono (M':=Aj) (λy _ h=>by
          obtain ⟨j,hj,h⟩:=h;exact h.elim)
         have cd:=H 1 O 114 _ O (by rw[aw];rfl);have e7:=H 2 O 7 _ O (by rw[aw];rfl);obtain ⟨j16,rfl⟩:=Ak.out (σ:=m) (l:=[(0,(P6 b 0)),(6,(P6 J 0)),(30,(.slice (oI xb xo) text.length xc)),(31,(I6 ((text.length:Nat):Int))),(32,(I6 ((k:Nat):Int))),(114,(.agg (R6 B ya yc za zc))),(7,(.string (Er B)))]) ⟨U 0 O,U 6 O,U 30 O,U 31 O,U 32 O,cd,e7,trivial⟩;clear U H;have F:=(G.trans ag).keep F;have I:=(G.trans ag).keep I;have M:=(G.trans ag).keep M;have ce:=ce.ext (G.trans ag);have ba:=AR.ext (G.trans ag) _ ba;have bx:=bx.ext (G.trans ag);have cf:=cf.chg (G.trans ag) (λ_ _ f=>f);have ag:=G.trans ag;have E:=E.ext ag;refine Aa (b:=J) (o:=0) (c':=(R6 B ya yc za zc)) O O qS AG O F qL O ?_;intro w17 a1;have ce:=ce.cells a1.chg bv (DT F);have ba:=AR.chgM a1.chg (λz hz _ h=>by have Q:z=J:=h;exact bv (Q▸hz)) ba;have bx:=bx.chg a1.chg (λh=>by have Q:1=J:=h;omega);have cf:=cf.chg a1.chg (λz hz h=>by have Q:z=J:=h;omega);have I:=a1.keep qO I;have M:=a1.keep qO M;have E:=a1.step E (by first|exact dH qO|assumption|exact dG rfl|exact dG (by assumption)|exact dG qP|exact dG qO|exact dG (by dsimp only;omega));have F:=a1.blk;refine AB (AV (AC (AN (qV (A0 O O (A8 qO)) (qM _ O (AB (AC ?_)))))));exact ⟨text.length - (k+1),qO,k+1,B,ya,za,yc,zc,c3,L3.set i3 (UA x ((cn:Nat):Int) (Er B)),a5,oH,E,F,M,qO,ce,ba,⟨c0,dg⟩,dp,f3,dr,dl,bx,cf,b8,(by rw[a0];exact ct.symm),O⟩
       .have d4:=be;have er:¬a4.dom t:=bs.elim (λh=>h.2) (λh=>by rw[h.1] at be;cases be);have fl:RepA L3 a5:=by rw[cz,FW er];exact cy
        refine AM (AC ?_);have hz_18:w0.heap.size<=bt.heap.size:=E.size;have lz_18_b6:J<bt.heap.size:=F.lt;have lz_18_bd:bd<bt.heap.size:=I.lt;have lz_18_b:b<bt.heap.size:=M.lt;obtain ⟨ec,ay⟩:∃Fs:List CW,Fs=[(eF (.string (Er B))),(eF (.agg (R6 B ya yc za zc))),(eF (.string (Er B))),(eF undef)]:=⟨_,O⟩;refine EE (M6 []) [true,true,true,false] [3] [113,114,7,121] [[],[],[0],[]] [[],[],[0],[]] ec ay qK mixed qK qK qK qK ?_ ?_
        .intro wd G;refine qZ (λS m w' hi hN X U V H=>?_) ?_
         .replace X:=Cq X;exact Ab (Am (U 16 O)) O
         refine qZ (λS m w' hi hN X U V H=>?_) ?_
         .replace X:=Cq X;exact Ab (AI (U 14 O) Ad AG O (((G.trans X).keep I).cells O)) O
         refine qZ (λS m w' hi hN X U V H=>?_) ?_
         .replace X:=Cq X;have b4:=(H 0 O).2 113 _ O (by rw[ay];rfl);exact Ab (Dg b4) O
         refine DagStepsS.tail ?_;exact DagStepsS.nil
        .intro m wd18 w18 G ai U H;have ai:=ai.mono (M':=Aj) (λy _ h=>by
          obtain ⟨j,hj,h⟩:=h;exact h.elim)
         have cd:=H 1 O 114 _ O (by rw[ay];rfl);have e7:=H 2 O 7 _ O (by rw[ay];rfl);obtain ⟨j18,rfl⟩:=Ak.out (σ:=m) (l:=[(0,(P6 b 0)),(6,(P6 J 0)),(30,(.slice (oI xb xo) text.length xc)),(31,(I6 ((text.length:Nat):Int))),(32,(I6 ((k:Nat):Int))),(114,(.agg (R6 B ya yc za zc))),(7,(.string (Er B)))]) ⟨U 0 O,U 6 O,U 30 O,U 31 O,U 32 O,cd,e7,trivial⟩;clear U H;have F:=(G.trans ai).keep F;have I:=(G.trans ai).keep I;have M:=(G.trans ai).keep M;have am:=am.ext (G.trans ai);have av:=AR.ext (G.trans ai) _ av;have C:=C.ext (G.trans ai);have A:=A.chg (G.trans ai) (λ_ _ f=>f);have ai:=G.trans ai;have E:=E.ext ai;refine Aa (b:=J) (o:=0) (c':=(R6 B ya yc za zc)) O O qS AG O F qL O ?_;intro ad a7;have am:=am.cells a7.chg bv (DT F);have av:=AR.chgM a7.chg (λz hz _ h=>by have Q:z=J:=h;exact bv (Q▸hz)) av;have C:=C.chg a7.chg (λh=>by have Q:1=J:=h;omega);have A:=A.chg a7.chg (λz hz h=>by have Q:z=J:=h;omega);have I:=a7.keep qO I;have M:=a7.keep qO M;have E:=a7.step E (by first|exact dH qO|assumption|exact dG rfl|exact dG (by assumption)|exact dG qP|exact dG qO|exact dG (by dsimp only;omega));have F:=a7.blk;refine AB (AV (AC (AN (qV (A0 O O (A8 qO)) (qM _ O (AB (AC ?_)))))));exact ⟨text.length - (k+1),qO,k+1,B,ya,za,yc,zc,c3,L3,a5,oH,E,F,M,qO,am,av,⟨c0,dg⟩,dp,fl,dr,a8,C,A,b8,(by rw[a0];exact ct.symm),O⟩
   .have ga:k=text.length:=qO
    have dn:(text.map (Cg cs)).length=k:=by rw[dW,ga]
    rw[<-dn,eE] at bo;rw[<-dn,gR,runA] at bm;refine Av (AZ (AZ (Ao (AC (AA (qV (AI (vs:=(oJ t sa sc aa ac)) O Ad AG O (F.cells O)) (qE O (AS func93 kQ kQ O) (WL 301 t _ _ qO qO (AR.at t hT)) ?_)))))));rintro _ ad ⟨rfl,ah⟩;have F:=ah.keep F;have d:=ah.keep d;have E:=E.ext ah;refine qA _ O (qA _ O (AB (AO (CA results52 (v:=(.bool (BN t))) (v':=(I6 0)) O O ?_))));exact ⟨.inl ⟨by rw[<-bo],af,L2,a2,by unfold matchA;rw[bm],d,(N.ext ah).mono (λy hy=>by rw[ci] at hy;exact hy.imp id λh=>qO),au⟩,E⟩
end Go.Proofs
