/- Contracts and plain lemmas, part 6. -/
import Derived.Test.YtgmbafkdgmkfoaaGreatDoorZr5
open Go.Proofs.Tryz
set_option maxHeartbeats 16000000
namespace Go.Proofs
open Go Go.Eng Go.Sort
set_option maxRecDepth 100000
theorem Oy {α:Type} {most:Nat} {a:LzA α} {t:α} (b:1<=most) (h:a.n<=most):(holdA most a t).n<=most:=by
 by_cases hd:a.dom t
 .rw[GD hd];exact h
 by_cases hn:a.n=most
 .rw[FB hd hn];exact b
 .rw[FY hd hn];show a.n+1<=most;omega
theorem RepH.made {L:List Re} {K:List (List Bool)} {a:LzA Re} (h:RepH L K a):RepH L K (GR a):=⟨h.dom,h.kn,h.ko,h.n,h.kl,h.nd⟩
theorem RepH.know {L:List Re} {K:List (List Bool)} {a:LzA Re} {t:Re} {i c:Nat} {r:List Bool} (h:RepH L K a) (b:L[i]?=some t) (g:K[i]?=some r) (m:c<r.length):RepH L (K.set i (r.set c true)) (knowA a t ((c:Nat):Int)):=by
 rw[Gk ((h.dom t).2 (dK b))];refine ⟨h.dom,λj x s d hs k=>?_,λx k f=>?_,h.n,by rw[iO];exact h.kl,h.nd⟩
 .show a.kn x ((k:Nat):Int)∨(x=t∧((k:Nat):Int)=((c:Nat):Int))↔_;rw[fG] at hs;by_cases e:i=j
  .subst e;rw[if_pos O,if_pos (AX g)] at hs;cases hs;rw[b] at d;cases d;rw[h.kn i t r b g k,fG];by_cases l:c=k
   .subst l;rw[if_pos O,if_pos m];simp
   .rw[if_neg l];exact ⟨λf=>f.elim id λf=>absurd f.2 qO,.inl⟩
  .rw[if_neg e] at hs;rw[h.kn j x s d hs k];exact ⟨λf=>f.elim id λf=>absurd ((iZ (AX b) h.nd).1 (b.trans (by rw[d,f.1]))) e,.inl⟩
 .rcases f with f|f
  .exact h.ko x k f
  .exact f.1▸dK b
theorem MD {L:List Re} (t:Re):(Hg (λy=>BU y t) L = -1∧t∉L)∨∃i:Nat,Hg (λy=>BU y t) L=((i:Nat):Int)∧L[i]?=some t:=by
 cases h:L.findIdx? (λy=>BU y t) with
 | none=>exact .inl ⟨by unfold Hg;rw[h],λb=>by have:=iL.1 h t b;rw[(BY t t).2 rfl] at this;cases this⟩
 | some i=>
  obtain ⟨hi,a,_⟩:=gH.1 h;exact .inr ⟨i,by unfold Hg;rw[h],by rw[dM hi];exact congrArg some ((BY _ _).1 a)⟩
theorem V8 {S T:oD} {n1 b c:Nat} {w:World} {d kv:Value} {L:List Re} {bs:oC} {K:List (List Bool)} {B:oG} {ty:TypeId} (i:BV w b B ty) (f:ListR S n1 n1 w d L T) (e:KnA w n1 kv bs K c) (g:HlAp n1 b d kv bs T):∀q,ID b d kv bs q->n1<=q∧q<w.heap.size:=λq h=>by
 rcases h with rfl|a|a|a
 .exact ⟨g.lo,i.lt⟩
 .exact f.lt q a
 .exact e.o.lt q a
 .have:=e.rowm a;exact ⟨this.1,this.2.1⟩
theorem aJ (r:List Bool) (j:Nat):((r.map Value.bool).toArray).setIfInBounds (0+j) (.bool true)=((r.set j true).map Value.bool).toArray:=by
 apply iJ;rw[fC,eO,List.map_set]
structure HlAt (S:oD) (n1:Nat) (cs:nZ) (w:World) (b most:Nat) (f:Re) (a:LzA Re) (U:oD):Prop where
 mem:∃(fsa faa ca la ka:oE) (fsc fac cc lc kc:Nat) (T:oD) (bs:oC) (L:List Re) (K:List (List Bool)),
  BV w b #[I6 ((most:Nat):Int),.slice ca cs.length cc,I6 f.kind,.slice fsa f.set.length fsc,.slice faa f.args.length fac,I6 f.mn,I6 f.mx,.bool f.neg,.slice la L.length lc,.slice ka K.length kc,I6 a.made,I6 a.drops] Wu∧
  AR S w f (oJ f fsa fsc faa fac)∧Ct S w (.slice ca cs.length cc) cs∧ListR S n1 n1 w (.slice la L.length lc) L T∧KnA w n1 (.slice ka K.length kc) bs K cs.length∧HlAp n1 b (.slice la L.length lc) (.slice ka K.length kc) bs T∧RepH L K a∧U=ID b (.slice la L.length lc) (.slice ka K.length kc) bs
 hS:∀y,S y->y<n1
 nz:n1<=w.heap.size
 fo:Au f
 fz:f.size<=300
 le:a.n<=most
 mo:1<=most∧most<=100
section
variable {S U M : Nat → Prop} {n1 b most q : Nat} {cs : List (List Sp)} {w w' : World} {f : Re} {a : LzA Re}
theorem HlAt.chg (h:HlAt S n1 cs w b most f a U) (c:Chg M w w') (g:∀y,M y->y<n1∧¬S y):HlAt S n1 cs w' b most f a U:=by
 obtain ⟨m,l,B,p,r,j,k,cc,o,n,T,bs,L,K,v,D,x,i,q,s,C,A⟩:=h.mem;have z:=V8 v i q s;have hn:∀y,ID b (.slice p L.length o) (.slice r K.length n) bs y->¬M y:=λy d e=>by have:=(z y d).1;have:=(g y e).1;omega
 exact ⟨⟨m,l,B,p,r,j,k,cc,o,n,T,bs,L,K,c.keep (hn b (.inl O)) v,AR.chg c (λy d e=>(g y e).2 d) f D,x.chgM c (λy d _ e=>(g y e).2 d),i.chg c (λy d=>hn y (.inr (.inl d))) (λy d e=>by rcases (i.t y d).1 with u|u;exact (g y e).2 u;(have:=(g y e).1;omega)),q.chg c (λy d=>hn y (.inr (.inr (.inl d)))) (λy d=>hn y (.inr (.inr (.inr d)))),s,C,A⟩,h.hS,dL h.nz c.size,h.fo,h.fz,h.le,h.mo⟩
theorem HlAt.ext (h:HlAt S n1 cs w b most f a U) (c:Ah w w'):HlAt S n1 cs w' b most f a U:=h.chg c λ_ f=>f.elim
theorem HlAt.own (h:HlAt S n1 cs w b most f a U) (j:U q):n1<=q∧q<w.heap.size∧Fy w q:=by
 obtain ⟨fsa,faa,ca,la,ka,fsc,fac,cc,lc,kc,T,bs,L,K,g,_,_,e,d,i,_,rfl⟩:=h.mem;rcases j with rfl|c|c|c
 .exact ⟨i.lo,g.lt,DT g⟩
 .exact ⟨(e.lt q c).1,(e.lt q c).2,e.noM c⟩
 .exact ⟨(d.o.lt q c).1,(d.o.lt q c).2,Pr d.o c⟩
 .exact d.rowm c
end
theorem V7 (S U:Nat→Prop) (n1:Nat) (cs:nZ) (w0:World) (b most:Nat) (f:Re) (a:LzA Re) (v:Value) (word:oB) (h:HlAt S n1 cs w0 b most f a U) (hx:B_ (λq=>¬U q) w0 1 v (word.map GB))
  (hw:∀x∈word,0≤x∧x<cs.length) (hhd:∀l∈cs,l≠[]∧CJ (BH l)=true) (hsz:∀k,k≤word.length→(GV (EU cs) f (word.take k)).size≤300) (hcs0:0<cs.length∧cs.length≤16) (hl:word.length≤1000) :
  Bj prog 16 #[P6 b 0,v] w0 λr w=>(r=.bool (BN (GV (EU cs) f word))∧∃U',HlAt S n1 cs w b most f (matchA (EU cs) most a f word) U'∧∀q,U' q→U q∨w0.heap.size≤q)∧Chg U w0 w:=by
 obtain ⟨xa,xc,rfl⟩:∃xa xc,v=.slice xa word.length xc:=by
  obtain ⟨xa,xc,h,_⟩:=hx;exact ⟨xa,xc,by rw[h,dW]⟩
 have c3:=λq (hq:U q)=>h.own hq;obtain ⟨b8,ch,ca,bq,br,cj,ce,cc,bt,bv,T0,bu,L0,K0,hB,hF,hC,hL,hK,hA,hR,rfl⟩:=h.mem;obtain ⟨cb,co,rfl,_⟩:=CD hC.at hcs0.1;have hbl:=hB.lt;have e3:=h.nz;have dk:=h.mo;have a9:=h.hS;have dl:=AR.lt f hF;have eg:=hx.ltg λr hr=>by obtain ⟨p,_,rfl⟩:=eU.1 hr;simp[GB]
 have d0:=λq h=>(hL.t q h).2;have dp:∀y,S y→¬ID b (.slice bq L0.length bt) (.slice br K0.length bv) bu y:=λy hy hu=>by have:=h.hS y hy;have:=(c3 y hu).1;omega
 have hmb:w0.heap.size≤b∨ID b (.slice bq L0.length bt) (.slice br K0.length bv) bu b:=.inr (.inl rfl);refine Ew func16 rfl ntmps16 (RV rfl) ?_;have E:Chg (ID b (.slice bq L0.length bt) (.slice br K0.length bv) bu) w0 w0:=Chg.refl _ _;refine AA (qA _ rfl (AB (AA (qM _ rfl (qV (Ay rfl) (qF b 0 2 rfl fN rfl AG rfl (qV (AI (vs:=(oJ f b8 cj ch ce)) rfl Ad AG rfl (hB.cells rfl)) (As (v:=(.agg (R6 f b8 cj ch ce))) (c:=(R6 f b8 cj ch ce)) (n:=6) qD A1 rfl AG rfl rfl rfl qS ?_))))))));intro bo wo No;have Fo:=No.ge E;have Oo_b:=No.lt hB;have hB:=No.keep hB;have hL:=hL.ext No.ext;have hK:=hK.ext No.ext;have dl:=AR.ext No.ext _ dl;have hC:=hC.chgM No.ext (λ_ _ _ f=>f);have eg:=eg.chg No.ext (λ_ _ f=>f);have E:=E.ext No.ext;have Bo:=No.blk;refine AB (AA (qM _ rfl (qV (AI (vs:=(oJ f b8 cj ch ce)) rfl Ad AG rfl (Bo.cells rfl)) ?_)));have fx:bo<(wo).heap.size:=Bo.lt;refine qE rfl (AS func54 kQ kQ rfl) (Rj _ S T0 (λy=>S y∧y<w0.heap.size) n1 b most cs.length _ _ _ _ _ _ _ _ bq br cc bt bv L0 K0 bu a f _ hB hL hK hA hR dl (λy hy=>⟨.inl hy.1,dp y hy.1⟩) h.mo h.le qO (dL e3 E.size)) ?_;rintro _ w9 ⟨dt,d9,d6,dy,T9,dr,L9,K9,al,fv,fu,ex,ew,en,d4,C9⟩;have Bo:=C9.keep (λh=>by have:=(c3 bo h).2.1;omega) Bo;have E:=E.step C9 (λq hq h=>h);have eo:=AR.chg C9 (λy hy h=>dp y hy.1 h) _ dl;have fs:=hC.chgM C9 (λy hy _ h=>dp y hy h);have e5:=eg.chg C9 (λy hy h=>hy.1 h);rw[←IU (a:=a) (t:=f) (most:=most)] at al;have dd:∀q,ID b (.slice dt L9.length d6) (.slice d9 K9.length dy) dr q→ID b (.slice bq L0.length bt) (.slice br K0.length bv) bu q∨w0.heap.size≤q:=λq hq=>(en q hq).imp id (λh9=>qO);have ei:¬ID b (.slice dt L9.length d6) (.slice d9 K9.length dy) dr bo:=λhq=>by rcases en bo hq with h9|h9;(have:=(c3 bo h9).2.1;omega);omega
 have ee:(holdA most a f).n≤most:=Oy h.mo.1 h.le;refine AB (AH (AA (qM _ rfl (qV (AT eA rfl) (qM _ rfl (AB (AW (Ax (λnn_ σ W1=>∃(k:Nat) (t:Re) (sa aa la ka:oE) (sc ac lc kc:Nat) (T V:Nat→Prop) (bs:oC) (L:List Re) (K:List (List Bool)) (a2:LzA Re),(∃jj_,σ=BW jj_ [(0,(P6 b 0)),(17,(.slice xa word.length xc)),(18,(I6 (word.length:Int))),(19,(I6 (k:Int))),(5,(P6 bo 0))])∧Chg (ID b (.slice bq L0.length bt) (.slice br K0.length bv) bu) w0 W1∧BV W1 bo ((R6 t sa sc aa ac)) 25∧BV W1 b (#[I6 (most:Int),.slice (oI cb co) cs.length cc,I6 f.kind,.slice b8 f.set.length cj,.slice ch f.args.length ce,I6 f.mn,I6 f.mx,.bool f.neg,.slice la L.length lc,.slice ka K.length kc,I6 a2.made,I6 a2.drops]) Wu∧(k≤word.length)∧(ListR S n1 n1 W1 (.slice la L.length lc) L T)∧(KnA W1 n1 (.slice ka K.length kc) bs K cs.length)∧(HlAp n1 b (.slice la L.length lc) (.slice ka K.length kc) bs T)∧(RepH L K a2)∧(a2.n≤most)∧(AR V W1 t (oJ t sa sc aa ac))∧(∀y,V y→(S y∨n1≤y)∧¬ID b (.slice la L.length lc) (.slice ka K.length kc) bs y∧y≠bo)∧(Au t∧t.size≤300)∧(AR (λb=>S b∧b<w0.heap.size) W1 f (oJ f b8 cj ch ce))∧(Ct S W1 (.slice (oI cb co) cs.length cc) cs)∧(B_ (λq=>(¬ID b (.slice bq L0.length bt) (.slice br K0.length bv) bu q)∧q<w0.heap.size) W1 1 (.slice xa word.length xc) (word.map GB))∧(∀q,ID b (.slice la L.length lc) (.slice ka K.length kc) bs q→ID b (.slice bq L0.length bt) (.slice br K0.length bv) bu q∨w0.heap.size≤q)∧(¬ID b (.slice la L.length lc) (.slice ka K.length kc) bs bo)∧(¬T bo)∧(runA (EU cs) most (holdA most a f) f word=runA (EU cs) most a2 t (word.drop k))∧(t=GV (EU cs) f (word.take k))∧nn_=word.length - k) (n:=word.length - 0) ?_ ?_))))))))
 ·exact ⟨0,f,b8,ch,dt,d9,cj,ce,d6,dy,T9,(λy=>S y∧y<w0.heap.size),dr,L9,K9,holdA most a f,oH,E,Bo,al,dR _,fv,fu,ex,ew,ee,eo,(λy hy=>⟨.inl hy.1,λhq=>by rcases dd y hq with h9|h9;exact dp y hy.1 h9;(have:=hy.2;omega),by have:=hy.2;omega⟩),⟨h.fo,h.fz⟩,eo,fs,e5,dd,ei,(λhq=>by rcases d4 bo hq with h9|h9;(have:=(d0 bo h9);omega);(have:=h9.2;omega)),rfl,rfl,rfl⟩
 ·clear E Bo al;rintro _ _ W1 ⟨k,t,sa,aa,la,ka,sc,ac,lc,kc,T,V,bs,L,K,a2,⟨j1,rfl⟩,E,Bo,al,hk,ay,a6,bd,cq,c7,ek,am,hs,bg,be,bf,cw,ck,dm,b0,cr,rfl⟩;refine AA (qV (A6 rfl rfl) (AB (AH (qC rfl (λfk=>?_) (λfk=>?_)))))
  ·obtain ⟨c,hc⟩:=AU (l:=word) (i:=k) qO;obtain ⟨xb,xo,rfl,e8⟩:=CX (n:=word.length) bf.at qO;obtain ⟨hc0,hc1⟩:=hw c (dK hc);obtain ⟨cn,rfl⟩:∃cn:Nat,c=((cn:Nat):Int):=⟨c.toNat,qO⟩;obtain ⟨cl,cx⟩:=AU (l:=cs) (i:=cn) qO;have hln:=cq.n;refine AM (AC (AH (AW (AA (qV (AL (b:=xb) (o:=xo) (len:=word.length) (cap:=xc) (i:=k) (o':=xo+k) rfl rfl rfl eA Al qO qO) (qV (AJ rfl Ag (e8 k _ hc)) ?_))))));obtain ⟨nw,c5⟩:∃n,n=(W1).heap.size:=⟨_,rfl⟩;have ap:=V8 al ay a6 bd;have e0:bo<nw:=by rw[c5];exact Bo.lt
   have hbz:b<nw:=by rw[c5];exact al.lt
   have hwz:w0.heap.size≤nw:=by rw[c5];exact E.size
   rw[←c5] at ap;have ep:=λq h=>(ay.t q h).2;rw[←c5] at ep;have bh:=AR.lt t ek;rw[←c5] at bh;refine qA _ rfl (AB (AA (qM _ rfl (qV (AI (vs:=(oJ t sa sc aa ac)) rfl Ad AG rfl (Bo.cells rfl)) (qE rfl (AS func55 kQ kQ rfl) ((LD _ S T n1 n1 b _ _ _ _ _ _ _ _ _ _ _ la lc L t _ al ay (AR.at t bh) qO).mono (R':=λu w=>(∃z:Int,u=I6 z∧((z = -1∧t∉L)∨∃i:Nat,z=(i:Int)∧L[i]?=some t))∧Ah _ w) (λu w h=>⟨⟨_,h.1,MD t⟩,h.2⟩)) ?_)))));rintro _ cv ⟨⟨z,rfl,es⟩,a0⟩;have Bo:=a0.keep Bo;have al:=a0.keep al;have ay:=ay.ext a0;have a6:=a6.ext a0;have bg:=AR.ext a0 _ bg;have be:=be.chgM a0 (λ_ _ _ f=>f);have bf:=bf.chg a0 (λ_ _ f=>f);have bh:=AR.ext a0 _ bh;have E:=E.ext a0;have eu:nw≤cv.heap.size:=by rw[c5];exact a0.size
   obtain ⟨cb',co',fd,e4⟩:=CD be.at hcs0.1;cases fd;obtain ⟨ra,rc,dv,fj⟩:=e4 cn cl cx;have c6:=(hhd cl (dK cx)).1;obtain ⟨rb,ro,rfl,fp⟩:=BR fj (by cases cl with|nil=>exact absurd rfl c6|cons _ _=>simp);obtain ⟨s0,fn,dw⟩:∃s0,cl[0]?=some s0∧BH cl=s0.1:=by cases cl with|nil=>exact absurd rfl c6|cons z _=>exact ⟨z,rfl,rfl⟩
   have d7:=(fp 0 s0 fn) 0 _ rfl;have fq:0<cl.length:=by cases cl with|nil=>exact absurd rfl c6|cons _ _=>simp
   obtain ⟨D,hD⟩:∃D,D=EU cs t ((cn:Nat):Int):=⟨_,rfl⟩;have fa:D=A_ (BH cl) t:=by rw[hD];unfold EU;rw[eG,iY,cx];rfl
   have di:Au D:=by rw[hD];exact Du _ hs.1
   have d8:=Y0 hc;have c8:GV (EU cs) f (word.take (k+1))=D:=by rw[eK,hc,fL];unfold GV at cr⊢;rw[hZ,←cr,hD];rfl
   have c9:D.size≤300:=by rw[←c8];exact hsz (k+1) qO
   refine qA _ rfl (AB ?_);have e2:w0.heap.size≤cv.heap.size:=E.size;have dn:bo<cv.heap.size:=Bo.lt;have d5:b<cv.heap.size:=al.lt;refine AH ?_;obtain ⟨e7,aj⟩:∃Fs:(Nat→Prop)→List Fact,Fs=λRR=>[.eq (.agg (R6 t sa sc aa ac)),.eq (P6 b 0),.eq (P6 b 0),.eq (P6 b 1),.eq (.slice (oI cb co) cs.length cc),.eq (I6 (cn:Int)),.eq (.pointer (some ⟨cb,co+cn,none⟩)),.eq (.slice (oI rb ro) cl.length rc),.eq (.pointer (some ⟨rb,ro+0*2,none⟩)),.eq (.pointer (some ⟨rb,ro+0*2,none⟩)),.eq (I6 (BH cl)),.gen (DQ RR D) (BD _ _),.gen (OW 25 #[(I6 0),(.slice none 0 0),(.slice none 0 0),(I6 0),(I6 0),(.bool false)] cv.heap.size) (Dv _ _ _),.eq undef]:=⟨_,rfl⟩;refine Ig [true,true,true,true,true,true,true,true,true,true,true,true,true,false] [13] 14 13 [] [26,27,28,29,30,31,32,33,34,35,36,37,9,94] [[],[],[1],[2],[3],[],[4,5],[6],[7],[8],[9],[0,10],[],[]] e7 aj (λy=>(V y∧y<nw)∨nw≤y) (λy hy=>.inr qO) 12 9 (lo:=cv.heap.size) (dU _) rfl rfl (PD.mk' A1 rfl) (λRR=>⟨_,by rw[aj];rfl⟩) (λn=>by rw[aj];repeat (first|exact Cvs.nil|refine Cvs.same ?_|refine Cvs.cons (λv w e h=>by first|exact J5 e h|exact J2 e h|exact IG e h) ?_)) mixed qK qK rfl qK qK qK ?_ ?_ (λh9=>absurd h9 qD)
   ·intro wd X0 RR ed ef;refine DagStepsP.cons (λs' w' X U H=>dH ⟨?_,?_⟩) ?_
    ·exact AE rfl
    ·exact AP (AI (U 5 rfl) Ad AG rfl (((X0.trans X).keep Bo).cells rfl)) (Ah.refl _) rfl
    refine DagStepsP.cons (λs' w' X U H=>dH ⟨?_,?_⟩) ?_
    ·exact AE rfl
    ·exact AP (Am (U 0 rfl)) (Ah.refl _) rfl
    refine DagStepsP.cons (λs' w' X U H=>dH ⟨?_,?_⟩) ?_
    ·exact AE rfl
    ·have fc:s' 27=(P6 b 0):=H 1 rfl 27 (.eq (P6 b 0)) rfl (by rw[aj];rfl);exact AP (Ay fc) (Ah.refl _) rfl
    refine DagStepsP.cons (λs' w' X U H=>dH ⟨?_,?_⟩) ?_
    ·exact AE rfl
    ·have fb:s' 28=(P6 b 0):=H 2 rfl 28 (.eq (P6 b 0)) rfl (by rw[aj];rfl);exact AP (AQ fb fN rfl PU rfl) (Ah.refl _) rfl
    refine DagStepsP.cons (λs' w' X U H=>dH ⟨?_,?_⟩) ?_
    ·exact AE rfl
    ·have ey:s' 29=(P6 b 1):=H 3 rfl 29 (.eq (P6 b 1)) rfl (by rw[aj];rfl);exact AP (AJ ey FC (((X0.trans X).keep al).cell rfl)) (Ah.refl _) rfl
    refine DagStepsP.cons (λs' w' X U H=>dH ⟨?_,?_⟩) ?_
    ·exact AE rfl
    ·exact AP (Am (U 7 rfl)) (Ah.refl _) rfl
    refine DagStepsP.cons (λs' w' X U H=>dH ⟨?_,?_⟩) ?_
    ·exact AE rfl
    ·have e1:s' 30=(.slice (oI cb co) cs.length cc):=H 4 rfl 30 (.eq (.slice (oI cb co) cs.length cc)) rfl (by rw[aj];rfl);have ez:s' 31=(I6 ((cn:Nat):Int)):=H 5 rfl 31 (.eq (I6 ((cn:Nat):Int))) rfl (by rw[aj];rfl);exact AP (AL (i:=cn) e1 ez qO eH Bc qO qO) (Ah.refl _) rfl
    refine DagStepsP.cons (λs' w' X U H=>dH ⟨?_,?_⟩) ?_
    ·exact AE rfl
    ·have fr:s' 32=(.pointer (some ⟨cb,co+cn,none⟩)):=H 6 rfl 32 (.eq (.pointer (some ⟨cb,co+cn,none⟩))) rfl (by rw[aj];rfl);exact AP (AJ fr Bf (Ah.cell (X0.trans X) dv)) (Ah.refl _) rfl
    refine DagStepsP.cons (λs' w' X U H=>dH ⟨?_,?_⟩) ?_
    ·exact AE rfl
    ·have fl:s' 33=(.slice (oI rb ro) cl.length rc):=H 7 rfl 33 (.eq (.slice (oI rb ro) cl.length rc)) rfl (by rw[aj];rfl);exact AP (AL (i:=0) fl rfl rfl dS BL qO qO) (Ah.refl _) rfl
    refine DagStepsP.cons (λs' w' X U H=>dH ⟨?_,?_⟩) ?_
    ·exact AE rfl
    ·have fi:s' 34=(.pointer (some ⟨rb,ro+0*2,none⟩)):=H 8 rfl 34 (.eq (.pointer (some ⟨rb,ro+0*2,none⟩))) rfl (by rw[aj];rfl);exact AP (AQ fi eM rfl Al rfl) (Ah.refl _) rfl
    refine DagStepsP.cons (λs' w' X U H=>dH ⟨?_,?_⟩) ?_
    ·exact AE rfl
    ·have ft:s' 35=(.pointer (some ⟨rb,ro+0*2,none⟩)):=H 9 rfl 35 (.eq (.pointer (some ⟨rb,ro+0*2,none⟩))) rfl (by rw[aj];rfl);exact AP (AJ ft Ag (Ah.cell (X0.trans X) (by rw[dw];exact d7))) (Ah.refl _) rfl
    refine DagStepsP.cons (λs' w' X U H=>dH ⟨?_,?_⟩) ?_
    ·exact AE rfl
    ·have fe:s' 26=(.agg (R6 t sa sc aa ac)):=H 0 rfl 26 (.eq (.agg (R6 t sa sc aa ac))) rfl (by rw[aj];rfl);have fh:s' 36=(I6 (BH cl)):=H 10 rfl 36 (.eq (I6 (BH cl))) rfl (by rw[aj];rfl);exact A7 (AS func42 kQ kQ (F_ fe fh)) ((OE (BH cl) _ (λy=>V y∧y<nw) t _ hs.1 hs.2 (AR.ext (X0.trans X) t bh) (λy hy=>by have h9:=hy.2;have:=X0.size;have:=X.size;have:=a0.size;omega)).mono (λr w h=>⟨by obtain ⟨⟨a1,a2,a3,a4,h5,h6⟩,_⟩:=h;rw[←fa] at h5 h6;exact ⟨a1,a2,a3,a4,h5,AR.mono (λb hb=>by rcases hb with h1|h1;exact ed b (by have:=h1.2;omega) (.inl h1);exact ef b (by have:=X.size;omega)) D h6⟩,h.2⟩))
    refine DagStepsP.cons (λs' w' X U H=>dH ⟨?_,?_⟩) ?_
    ·exact AE rfl
    ·exact FM (c:=#[(I6 0),(.slice none 0 0),(.slice none 0 0),(I6 0),(I6 0),(.bool false)]) A1 rfl (by have:=X0.size;have:=X.size;omega)
    refine DagStepsP.tail ?_;exact DagStepsP.nil
   ·intro s' w3 RR β X3 U cf hβ H;obtain ⟨ag,ae,ah,af,fy,ct⟩:=H 11 rfl 37 (.gen (DQ RR D) (BD _ _)) rfl (by rw[aj];rfl);obtain ⟨b9,e9,B9,g9⟩:=H 12 rfl 9 (.gen (OW 25 #[(I6 0),(.slice none 0 0),(.slice none 0 0),(I6 0),(I6 0),(.bool false)] cv.heap.size) (Dv _ _ _)) rfl (by rw[aj];rfl);have em:β=b9:=by have h9:=e9.symm.trans hβ;simpa using h9.symm
    rw[em] at cf;clear hβ em β;obtain ⟨j3,rfl⟩:=Ak.out (σ:=s') (l:=[(0,(P6 b 0)),(5,(P6 bo 0)),(7,(I6 ((cn:Nat):Int))),(8,(I6 z)),(17,(.slice (oI xb xo) word.length xc)),(18,(I6 ((word.length:Nat):Int))),(19,(I6 ((k:Nat):Int))),(37,(.agg (R6 D ag ae ah af))),(9,(P6 b9 0))]) ⟨U 0 rfl,U 5 rfl,U 7 rfl,U 8 rfl,U 17 rfl,U 18 rfl,U 19 rfl,fy,e9,trivial⟩;clear U H;have Bo:=X3.keep Bo;have al:=X3.keep al;have ay:=ay.ext X3;have a6:=a6.ext X3;have bg:=AR.ext X3 _ bg;have be:=be.chgM X3 (λ_ _ _ f=>f);have bf:=bf.chg X3 (λ_ _ f=>f);have bh:=AR.ext X3 _ bh;have E:=E.ext X3;refine Aa (b:=b9) (o:=0) (c':=(R6 D ag ae ah af)) rfl rfl qS AG rfl B9 qL rfl ?_;intro w4 S4;have ay:=ay.chg S4.chg (λq hq h=>by have h9:q=b9:=h;have:=(ap q (.inr (.inl hq))).2;omega) (λq hq h=>by have h9:q=b9:=h;have:=ep q hq;omega);have a6:=a6.chg S4.chg (λq hq h=>by have h9:q=b9:=h;have:=(ap q (.inr (.inr (.inl hq)))).2;omega) (λq hq h=>by have h9:q=b9:=h;have:=(ap q (.inr (.inr (.inr hq)))).2;omega);have bh:=AR.chg S4.chg (λq hq h=>by have h9:q=b9:=h;have:=hq.2;omega) _ bh;have bg:=AR.chg S4.chg (λq hq h=>by have h9:q=b9:=h;have:=hq.2;omega) _ bg;have be:=be.chgM S4.chg (λq hq _ h9=>by have h8:q=b9:=h9;have:=h.hS q hq;omega);have bf:=bf.chg S4.chg (λq hq h=>by have h9:q=b9:=h;have:=hq.2;omega);have ct:=AR.chg S4.chg (λy hy h=>by have h2:y=b9:=h;exact (cf y hy).2 h2) _ ct;have Bo:=S4.keep qO Bo;have al:=S4.keep qO al;have E:=S4.step E (by first|exact dH qO|assumption|exact dG rfl|exact dG (by assumption)|exact dG qP|exact dG qO|exact dG (by dsimp only;omega));have B9:=S4.blk;refine AB (AC (AH (AA (qM _ rfl (qV (A6 rfl rfl) (qM _ rfl ?_))))));rcases dT (decide ((z:Int)<0)) with ab|ab
    ·have ba:=ab;have ba:=of_decide_eq_true ba;have df:¬a2.kn t ((cn:Nat):Int):=λhh=>by have h8:=cq.ko _ _ hh;rcases es with h9|⟨i,h9,_⟩;exact h9.2 h8;omega
     refine AD rfl rfl qD (v:=.bool true) (Ar ab) (dH rfl) (AD rfl rfl qD (v:=.bool true) (Ar ab) (dH rfl) (AD rfl rfl qD (v:=.bool true) (Ar ab) (dH rfl) (AD rfl rfl qD (v:=.bool true) (Ar ab) (dH rfl) (AD rfl rfl qD (v:=.bool true) (Ar ab) (dH rfl) (AD rfl rfl qD (v:=.bool true) (Ar ab) (dH rfl) (AD rfl rfl qD (v:=.bool true) (Ar ab) (dH rfl) (AD rfl rfl qD (v:=.bool true) (Ar ab) (dH rfl) (AD rfl rfl qD (v:=.bool true) (Ar ab) (dH rfl) (AD rfl rfl qD (v:=.bool true) (Ar ab) (dH rfl) (AD rfl rfl qD (v:=.bool true) (Ar ab) (dH rfl) (qV (Af (v:=(.bool true)) rfl (by rw[ab];rfl)) (AB (Aq rfl (AA ?_))))))))))))));refine qM _ rfl (qV (Ay rfl) (qF b 0 10 rfl fN rfl Al rfl (qV (AJ rfl Ag (al.cell rfl)) (qV (A0 (c:=Et a2.made) rfl rfl (rfl)) (qV (Ay rfl) (qF b 0 10 rfl fN rfl Al rfl (CB (b:=b) (o:=10) (c':=#[(I6 (most:Int)),(.slice (oI cb co) cs.length cc),(I6 f.kind),(.slice b8 f.set.length cj),(.slice ch f.args.length ce),(I6 f.mn),(I6 f.mx),(.bool f.neg),(.slice la L.length lc),(.slice ka K.length kc),(I6 (Et a2.made)),(I6 a2.drops)]) (v:=(I6 (Et a2.made))) rfl rfl rfl Al al qP rfl ?_)))))));intro w6 S6;have ay:=ay.chg S6.chg (λq hq h=>by have h9:q=b:=h;exact bd.lb (h9▸hq)) (λq hq h=>by have h9:q=b:=h;exact bd.tb (h9▸hq));have a6:=a6.chg S6.chg (λq hq h=>by have h9:q=b:=h;exact bd.kb (h9▸hq)) (λq hq h=>by have h9:q=b:=h;exact bd.bb (h9▸hq));have bh:=AR.chg S6.chg (λq hq h=>by have h9:q=b:=h;exact (am q hq.1).2.1 (.inl h9)) _ bh;have bg:=AR.chg S6.chg (λq hq h=>by have h9:q=b:=h;have:=a9 q hq.1;have:=bd.lo;omega) _ bg;have be:=be.chgM S6.chg (λq hq _ h=>by have h9:q=b:=h;have:=a9 q hq;have:=bd.lo;omega);have bf:=bf.chg S6.chg (λq hq h=>by have h9:q=b:=h;exact hq.1 (.inl h9));have ct:=AR.chg S6.chg (λq hq h=>by have h9:q=b:=h;rcases (cf q hq).1 with h8|h8;exact (am q h8.1).2.1 (.inl h9);omega) _ ct;have Bo:=S6.keep qO Bo;have B9:=S6.keep qO B9;have E:=S6.step E (by first|exact dH qO|assumption|exact dG rfl|exact dG (by assumption)|exact dG qP|exact dG qO|exact dG (by dsimp only;omega));have al:=S6.blk;refine AB (AA (qM _ rfl (qV (AI (vs:=(oJ D ag ae ah af)) rfl Ad AG rfl (B9.cells rfl)) ?_)));obtain ⟨nz,bi⟩:∃n,n=(w6).heap.size:=⟨_,rfl⟩;have bx:=AR.mono (S':=(λy=>((V y∧y<nw)∨nw≤y)∧y≠b9∧y<nz)) (λy hy=>⟨(cf y hy.1).1,(cf y hy.1).2,by rw[bi];exact hy.2⟩) D (AR.lt D ct);have ea:b9<nz∧nw≤nz:=⟨by rw[bi];exact B9.lt,by have:=B9.lt;omega⟩;refine qE rfl (AS func54 kQ kQ rfl) (Rj _ S T (λy=>((V y∧y<nw)∨nw≤y)∧y≠b9∧y<nz) n1 b most cs.length _ _ _ _ _ _ _ _ la ka cc lc kc L K bs (GR a2) D _ al ay a6 bd cq.made bx (λy hy=>⟨by rcases hy.1 with h8|h8;exact (am y h8.1).1;exact .inr qO,λhq=>by rcases hy.1 with h8|h8;exact (am y h8.1).2.1 hq;(have:=(ap y hq).2;omega)⟩) dk c7 qO qO) ?_;rintro _ et ⟨bn,cu,bj,bk,T4,bz,L4,K4,an,ar,ao,bm,bp,bw,cz,bc⟩;have Bo:=bc.keep (λh=>by first|exact ck h|(have:=(ap _ h).2;omega)) Bo;have B9:=bc.keep (λh=>by first|exact ck h|(have:=(ap _ h).2;omega)) B9;have E:=E.step bc (λq hq h=>(cw q h).resolve_right qO);have c4:=AR.chg bc (λy hy h8=>(am y hy.1).2.1 h8) _ bh;have au:=AR.chg bc (λy hy h8=>by have:=a9 y hy.1;have:=(ap y h8).1;omega) _ bg;have av:=be.chgM bc (λy hy _ h8=>by have:=a9 y hy;have:=(ap y h8).1;omega);have aw:=bf.chg bc (λy hy h8=>by rcases cw y h8 with h7|h7;exact hy.1 h7;have:=hy.2;omega);have ax:=AR.chg bc (λy hy h8=>by rcases hy.1 with h7|h7;exact (am y h7.1).2.1 h8;(have:=(ap y h8).2;omega)) _ bx;obtain ⟨a4,b2⟩:∃a4,a4=holdA most (GR a2) D:=⟨_,rfl⟩;have eh:a4.made=Et a2.made:=by rw[b2,IU];rfl
     rw[←b2,←eh] at an;rw[←b2] at bp;have b7:a4.n≤most:=by rw[b2];exact Oy dk.1 c7
     have dq:=bp.n;have az:∀q,ID b (.slice bn L4.length bj) (.slice cu K4.length bk) bz q→ID b (.slice bq L0.length bt) (.slice br K0.length bv) bu q∨w0.heap.size≤q:=λq hq=>by rcases bw q hq with h8|h8;exact cw q h8;exact .inr qO
     have ad:¬ID b (.slice bn L4.length bj) (.slice cu K4.length bk) bz bo:=λhq=>by rcases bw bo hq with h8|h8;exact ck h8;omega
     have a8:¬T4 bo:=λhq=>by rcases cz bo hq with h8|h8;exact dm h8;(rcases h8.1 with h7|h7;exact (am bo h7.1).2.2 rfl;omega)
     have c0:∀y,(λy=>((V y∧y<nw)∨nw≤y)∧y≠b9∧y<nz) y→(S y∨n1≤y)∧¬ID b (.slice bn L4.length bj) (.slice cu K4.length bk) bz y∧y≠bo:=λy hy=>⟨by rcases hy.1 with h8|h8;exact (am y h8.1).1;exact .inr qO,λhq=>by rcases bw y hq with h7|h7;(rcases hy.1 with h8|h8;exact (am y h8.1).2.1 h7;(have:=(ap y h7).2;omega));(have:=hy.2.2;omega),by rcases hy.1 with h8|h8;exact (am y h8.1).2.2;omega⟩;refine AB (AA (qM _ rfl (qV (AI (vs:=(oJ t sa sc aa ac)) rfl Ad AG rfl (Bo.cells rfl)) (qE rfl (AS func55 kQ kQ rfl) ((LD _ S T4 n1 n1 b _ _ _ _ _ _ _ _ _ _ _ bn bj L4 t _ an ar (AR.at t c4) qO).mono (R':=λu w=>(∃z:Int,u=I6 z∧((z = -1∧t∉L4)∨∃i:Nat,z=(i:Int)∧L4[i]?=some t))∧Ah _ w) (λu w h=>⟨⟨_,h.1,MD t⟩,h.2⟩)) ?_))));rintro _ fg ⟨⟨z4,rfl,b1⟩,aq⟩;have Bo:=aq.keep Bo;have B9:=aq.keep B9;have an:=aq.keep an;have ar:=ar.ext aq;have ao:=ao.ext aq;have c4:=AR.ext aq _ c4;have au:=AR.ext aq _ au;have av:=av.chgM aq (λ_ _ _ f=>f);have aw:=aw.chg aq (λ_ _ f=>f);have ax:=AR.ext aq _ ax;have E:=E.ext aq;have ai:runA (EU cs) most (holdA most a f) f word=runA (EU cs) most (knowA a4 t ((cn:Nat):Int)) D (word.drop (k+1)):=by rw[b0,d8,runA,G3 df,←hD,←b2]
     refine qA _ rfl (AB (AA (qM _ rfl (qV (El rfl rfl) (AB (qC rfl (λec=>?_) (λec=>?_)))))))
     ·obtain ⟨i4,rfl,da⟩:=b1.resolve_left (λh8=>by have:=h8.1;omega);obtain ⟨r4,b4⟩:=AU (l:=K4) (i:=i4) (by rw[bp.kl];exact AX da);obtain ⟨q4,c2,ds,b6,d3⟩:=ao.get b4;obtain ⟨dj,rfl,_,cy⟩:=Co ao.o (by have:=AX b4;omega);have ak:=dK c2;have d1:=AX b4;have dx:w0.heap.size≤q4∨ID b (.slice bq L0.length bt) (.slice br K0.length bv) bu q4:=(az q4 (.inr (.inr (.inr ak)))).symm;have d2:q4≠b∧q4≠bo∧q4≠b9:=⟨λe=>bm.bb (e▸ak),λe=>ad (e▸.inr (.inr (.inr ak))),λe=>by rcases bw q4 (.inr (.inr (.inr ak))) with h8|h8;(have:=(ap q4 h8).2;omega);omega⟩;refine AN (qM _ rfl (qV (Ay rfl) (qF b 0 9 rfl fN rfl Kh rfl (qV (AJ rfl O0 (an.cell rfl)) (qM _ rfl (qV (AL (b:=dj) (o:=0) (len:=K4.length) (cap:=bk) (i:=i4) (o':=0+i4) rfl rfl qO iI Ij qO qO) (qV (AJ rfl KO (cy i4 _ (by rw[eN,c2];rfl))) ?_)))))));refine qM _ rfl (qV (AL (b:=q4) (o:=0) (len:=cs.length) (cap:=cs.length) (i:=cn) (o':=0+cn) rfl rfl qO iB G8 qO qO) ?_);have dh:True:=trivial;refine CB (b:=q4) (o:=0+cn) (c':=((r4.map Value.bool).toArray).setIfInBounds (0+cn) (.bool true)) (v:=(.bool true)) rfl rfl rfl G8 b6 (by simp;omega) (rfl) ?_;intro w8 S8;have ar:=ar.chg S8.chg (λq hq h=>by have h9:q=q4:=h;exact bm.lr q4 ak (h9▸hq)) (λq hq h=>by have h9:q=q4:=h;exact bm.tr q4 ak (h9▸hq));have au:=AR.chg S8.chg (λq hq h=>by have h9:q=q4:=h;have:=a9 q hq.1;omega) _ au;have av:=av.chgM S8.chg (λq hq _ h=>by have h9:q=q4:=h;have:=a9 q hq;omega);have aw:=aw.chg S8.chg (λq hq h=>by have h9:q=q4:=h;subst h9;rcases dx with h8|h8;(have:=hq.2;omega);exact hq.1 h8);have ax:=AR.chg S8.chg (λq hq h=>by have h9:q=q4:=h;subst h9;rcases bw q (.inr (.inr (.inr ak))) with h8|h8;(rcases hq.1 with h7|h7;exact (am q h7.1).2.1 h8;(have:=(ap q h8).2;omega));(have:=hq.2.2;omega)) _ ax;have dh:=S8;have Bo:=S8.keep qO Bo;have B9:=S8.keep qO B9;have an:=S8.keep qO an;have E:=S8.step E (by first|exact dH qO|assumption|exact dG rfl|exact dG (by assumption)|exact dG qP|exact dG qO|exact dG (by dsimp only;omega));have b6:=S8.blk;have dc:=ao.put c2 b4 (by have h8:=dh;rw[aJ] at h8;exact h8);have de:(K4.set i4 (r4.set cn true)).length=K4.length:=iO;obtain ⟨a5,cp⟩:∃a5,a5=knowA a4 t ((cn:Nat):Int):=⟨_,rfl⟩;have dg:=bp.know da b4 (c:=cn) qO;rw[←cp] at dg ai;rw[show a4.made=a5.made by rw[cp,KF],show a4.drops=a5.drops by rw[cp,I8],←de] at an;rw[←de] at dc bm az ad c0;have ao:=dc;refine AB (AC (AN (qV (AI (vs:=(oJ D ag ae ah af)) rfl Ad AG rfl (B9.cells rfl)) (Aa (b:=bo) (o:=0) (c':=(R6 D ag ae ah af)) rfl rfl qS AG rfl Bo qL rfl ?_))));intro w9 S9;have ar:=ar.chg S9.chg (λq hq h=>by have h9:q=bo:=h;exact ad (h9▸.inr (.inl hq))) (λq hq h=>by have h9:q=bo:=h;exact a8 (h9▸hq));have au:=AR.chg S9.chg (λq hq h=>by have h9:q=bo:=h;have:=hq.2;omega) _ au;have av:=av.chgM S9.chg (λq hq _ h=>by have h9:q=bo:=h;have:=a9 q hq;omega);have aw:=aw.chg S9.chg (λq hq h=>by have h9:q=bo:=h;have:=hq.2;omega);have ax:=AR.chg S9.chg (λq hq h=>by have h9:q=bo:=h;rcases hq.1 with h7|h7;exact (am q h7.1).2.2 h9;omega) _ ax;have ao:=ao.chg S9.chg (λq hq h=>by have h9:q=bo:=h;exact ad (h9▸.inr (.inr (.inl hq)))) (λq hq h=>by have h9:q=bo:=h;exact ad (h9▸.inr (.inr (.inr hq))));have B9:=S9.keep qO B9;have an:=S9.keep qO an;have E:=S9.step E (by first|exact dH qO|assumption|exact dG rfl|exact dG (by assumption)|exact dG qP|exact dG qO|exact dG (by dsimp only;omega));have Bo:=S9.blk;refine AB (AV (AC (AN (qV (A0 rfl rfl (A8 qO)) (qM _ rfl (AB (AC ?_)))))));exact ⟨word.length - (k+1),qO,k+1,D,ag,ah,bn,oI dj 0,ae,af,bj,bk,T4,(λy=>((V y∧y<nw)∨nw≤y)∧y≠b9∧y<nz),bz,L4,K4.set i4 (r4.set cn true),a5,oH,E,Bo,an,qO,ar,ao,bm,dg,(by rw[cp,Vu];exact b7),ax,c0,⟨di,c9⟩,au,av,aw,az,ad,a8,ai,c8.symm,rfl⟩
     ·have c1:¬a4.dom t:=λhh=>by have h8:=(bp.dom t).1 hh;rcases b1 with h9|⟨i4,h9,_⟩;exact h9.2 h8;omega
      rw[FW c1] at ai;refine AM (AC (AN (qV (AI (vs:=(oJ D ag ae ah af)) rfl Ad AG rfl (B9.cells rfl)) (Aa (b:=bo) (o:=0) (c':=(R6 D ag ae ah af)) rfl rfl qS AG rfl Bo qL rfl ?_))));intro w10 cm;have ar:=ar.chg cm.chg (λq hq h=>by have h9:q=bo:=h;exact ad (h9▸.inr (.inl hq))) (λq hq h=>by have h9:q=bo:=h;exact a8 (h9▸hq));have ao:=ao.chg cm.chg (λq hq h=>by have h9:q=bo:=h;exact ad (h9▸.inr (.inr (.inl hq)))) (λq hq h=>by have h9:q=bo:=h;exact ad (h9▸.inr (.inr (.inr hq))));have au:=AR.chg cm.chg (λq hq h=>by have h9:q=bo:=h;have:=hq.2;omega) _ au;have av:=av.chgM cm.chg (λq hq _ h=>by have h9:q=bo:=h;have:=a9 q hq;omega);have aw:=aw.chg cm.chg (λq hq h=>by have h9:q=bo:=h;have:=hq.2;omega);have ax:=AR.chg cm.chg (λq hq h=>by have h9:q=bo:=h;rcases hq.1 with h7|h7;exact (am q h7.1).2.2 h9;omega) _ ax;have B9:=cm.keep qO B9;have an:=cm.keep qO an;have E:=cm.step E (by first|exact dH qO|assumption|exact dG rfl|exact dG (by assumption)|exact dG qP|exact dG qO|exact dG (by dsimp only;omega));have Bo:=cm.blk;refine AB (AV (AC (AN (qV (A0 rfl rfl (A8 qO)) (qM _ rfl (AB (AC ?_)))))));exact ⟨word.length - (k+1),qO,k+1,D,ag,ah,bn,cu,ae,af,bj,bk,T4,(λy=>((V y∧y<nw)∨nw≤y)∧y≠b9∧y<nz),bz,L4,K4,a4,oH,E,Bo,an,qO,ar,ao,bm,bp,b7,ax,c0,⟨di,c9⟩,au,av,aw,az,ad,a8,ai,c8.symm,rfl⟩
    ·have ba:=ab;have ba:=of_decide_eq_false ba;obtain ⟨i,hzi,hi⟩:=es.resolve_left (λh9=>by have:=h9.1;omega);obtain ⟨r,hr⟩:=AU (l:=K) (i:=i) (by rw[cq.kl];exact AX hi);obtain ⟨q,hq,hq1,fw,hql⟩:=a6.get hr;obtain ⟨gk,rfl,_,fm⟩:=Co a6.o (by have:=AX hr;omega);obtain ⟨ej,du⟩:=AU (l:=r) (i:=cn) qO;have hik:=AX hr;refine AF rfl rfl qD (Ar ab) (qM _ rfl (AF rfl rfl qD (Ar ab) (qV (Ay rfl) (AF rfl rfl qD (Ar ab) (qF b 0 9 rfl fN rfl Kh rfl (AF rfl rfl qD (Ar ab) (qV (AJ rfl O0 (al.cell rfl)) (AF rfl rfl qD (Ar ab) (qM _ rfl (AF rfl rfl qD (Ar ab) (qV (AL (b:=gk) (o:=0) (len:=K.length) (cap:=kc) (i:=i) (o':=0+i) rfl rfl qO iI Ij qO qO) (AF rfl rfl qD (Ar ab) (qV (AJ rfl KO (fm i _ (by rw[eN,hq];rfl))) ?_)))))))))))));refine AF rfl rfl qD (Ar ab) (qM _ rfl (AF rfl rfl qD (Ar ab) (qV (AL (b:=q) (o:=0) (len:=cs.length) (cap:=cs.length) (i:=cn) (o':=0+cn) rfl rfl qO iB G8 qO qO) (AF rfl rfl qD (Ar ab) (qV (AJ (v:=(.bool ej)) rfl HG (fw.cell (by rw[eO];simp[du]))) (AF rfl rfl qD (Ar ab) (qV (C1 rfl) (qV (Af (v:=(.bool (!ej))) rfl (by rw[ab];rfl)) (AB (A4 rfl (λa7=>?_) (λa7=>?_)))))))))))
     ·have db:=a7;have a7:=by simpa using a7
      have df:¬a2.kn t ((cn:Nat):Int):=λhh=>by have h8:=(cq.kn i t r hi hr cn).1 hh;rw[du] at h8;cases h8;simp at a7
      refine AA (qM _ rfl (qV (Ay rfl) (qF b 0 10 rfl fN rfl Al rfl (qV (AJ rfl Ag (al.cell rfl)) (qV (A0 (c:=Et a2.made) rfl rfl (rfl)) (qV (Ay rfl) (qF b 0 10 rfl fN rfl Al rfl (CB (b:=b) (o:=10) (c':=#[(I6 (most:Int)),(.slice (oI cb co) cs.length cc),(I6 f.kind),(.slice b8 f.set.length cj),(.slice ch f.args.length ce),(I6 f.mn),(I6 f.mx),(.bool f.neg),(.slice la L.length lc),(.slice (oI gk 0) K.length kc),(I6 (Et a2.made)),(I6 a2.drops)]) (v:=(I6 (Et a2.made))) rfl rfl rfl Al al qP rfl ?_))))))));intro e6 b3;have ay:=ay.chg b3.chg (λq hq h=>by have h9:q=b:=h;exact bd.lb (h9▸hq)) (λq hq h=>by have h9:q=b:=h;exact bd.tb (h9▸hq));have a6:=a6.chg b3.chg (λq hq h=>by have h9:q=b:=h;exact bd.kb (h9▸hq)) (λq hq h=>by have h9:q=b:=h;exact bd.bb (h9▸hq));have bh:=AR.chg b3.chg (λq hq h=>by have h9:q=b:=h;exact (am q hq.1).2.1 (.inl h9)) _ bh;have bg:=AR.chg b3.chg (λq hq h=>by have h9:q=b:=h;have:=a9 q hq.1;have:=bd.lo;omega) _ bg;have be:=be.chgM b3.chg (λq hq _ h=>by have h9:q=b:=h;have:=a9 q hq;have:=bd.lo;omega);have bf:=bf.chg b3.chg (λq hq h=>by have h9:q=b:=h;exact hq.1 (.inl h9));have ct:=AR.chg b3.chg (λq hq h=>by have h9:q=b:=h;rcases (cf q hq).1 with h8|h8;exact (am q h8.1).2.1 (.inl h9);omega) _ ct;have Bo:=b3.keep qO Bo;have B9:=b3.keep qO B9;have E:=b3.step E (by first|exact dH qO|assumption|exact dG rfl|exact dG (by assumption)|exact dG qP|exact dG qO|exact dG (by dsimp only;omega));have al:=b3.blk;refine AB (AA (qM _ rfl (qV (AI (vs:=(oJ D ag ae ah af)) rfl Ad AG rfl (B9.cells rfl)) ?_)));obtain ⟨nz,bi⟩:∃n,n=(e6).heap.size:=⟨_,rfl⟩;have bx:=AR.mono (S':=(λy=>((V y∧y<nw)∨nw≤y)∧y≠b9∧y<nz)) (λy hy=>⟨(cf y hy.1).1,(cf y hy.1).2,by rw[bi];exact hy.2⟩) D (AR.lt D ct);have ea:b9<nz∧nw≤nz:=⟨by rw[bi];exact B9.lt,by have:=B9.lt;omega⟩;refine qE rfl (AS func54 kQ kQ rfl) (Rj _ S T (λy=>((V y∧y<nw)∨nw≤y)∧y≠b9∧y<nz) n1 b most cs.length _ _ _ _ _ _ _ _ la (oI gk 0) cc lc kc L K bs (GR a2) D _ al ay a6 bd cq.made bx (λy hy=>⟨by rcases hy.1 with h8|h8;exact (am y h8.1).1;exact .inr qO,λhq=>by rcases hy.1 with h8|h8;exact (am y h8.1).2.1 hq;(have:=(ap y hq).2;omega)⟩) dk c7 qO qO) ?_;rintro _ et ⟨bn,cu,bj,bk,T4,bz,L4,K4,an,ar,ao,bm,bp,bw,cz,bc⟩;have Bo:=bc.keep (λh=>by first|exact ck h|(have:=(ap _ h).2;omega)) Bo;have B9:=bc.keep (λh=>by first|exact ck h|(have:=(ap _ h).2;omega)) B9;have E:=E.step bc (λq hq h=>(cw q h).resolve_right qO);have c4:=AR.chg bc (λy hy h8=>(am y hy.1).2.1 h8) _ bh;have au:=AR.chg bc (λy hy h8=>by have:=a9 y hy.1;have:=(ap y h8).1;omega) _ bg;have av:=be.chgM bc (λy hy _ h8=>by have:=a9 y hy;have:=(ap y h8).1;omega);have aw:=bf.chg bc (λy hy h8=>by rcases cw y h8 with h7|h7;exact hy.1 h7;have:=hy.2;omega);have ax:=AR.chg bc (λy hy h8=>by rcases hy.1 with h7|h7;exact (am y h7.1).2.1 h8;(have:=(ap y h8).2;omega)) _ bx;obtain ⟨a4,b2⟩:∃a4,a4=holdA most (GR a2) D:=⟨_,rfl⟩;have eh:a4.made=Et a2.made:=by rw[b2,IU];rfl
      rw[←b2,←eh] at an;rw[←b2] at bp;have b7:a4.n≤most:=by rw[b2];exact Oy dk.1 c7
      have dq:=bp.n;have az:∀q,ID b (.slice bn L4.length bj) (.slice cu K4.length bk) bz q→ID b (.slice bq L0.length bt) (.slice br K0.length bv) bu q∨w0.heap.size≤q:=λq hq=>by rcases bw q hq with h8|h8;exact cw q h8;exact .inr qO
      have ad:¬ID b (.slice bn L4.length bj) (.slice cu K4.length bk) bz bo:=λhq=>by rcases bw bo hq with h8|h8;exact ck h8;omega
      have a8:¬T4 bo:=λhq=>by rcases cz bo hq with h8|h8;exact dm h8;(rcases h8.1 with h7|h7;exact (am bo h7.1).2.2 rfl;omega)
      have c0:∀y,(λy=>((V y∧y<nw)∨nw≤y)∧y≠b9∧y<nz) y→(S y∨n1≤y)∧¬ID b (.slice bn L4.length bj) (.slice cu K4.length bk) bz y∧y≠bo:=λy hy=>⟨by rcases hy.1 with h8|h8;exact (am y h8.1).1;exact .inr qO,λhq=>by rcases bw y hq with h7|h7;(rcases hy.1 with h8|h8;exact (am y h8.1).2.1 h7;(have:=(ap y h7).2;omega));(have:=hy.2.2;omega),by rcases hy.1 with h8|h8;exact (am y h8.1).2.2;omega⟩;refine AB (AA (qM _ rfl (qV (AI (vs:=(oJ t sa sc aa ac)) rfl Ad AG rfl (Bo.cells rfl)) (qE rfl (AS func55 kQ kQ rfl) ((LD _ S T4 n1 n1 b _ _ _ _ _ _ _ _ _ _ _ bn bj L4 t _ an ar (AR.at t c4) qO).mono (R':=λu w=>(∃z:Int,u=I6 z∧((z = -1∧t∉L4)∨∃i:Nat,z=(i:Int)∧L4[i]?=some t))∧Ah _ w) (λu w h=>⟨⟨_,h.1,MD t⟩,h.2⟩)) ?_))));rintro _ fg ⟨⟨z4,rfl,b1⟩,aq⟩;have Bo:=aq.keep Bo;have B9:=aq.keep B9;have an:=aq.keep an;have ar:=ar.ext aq;have ao:=ao.ext aq;have c4:=AR.ext aq _ c4;have au:=AR.ext aq _ au;have av:=av.chgM aq (λ_ _ _ f=>f);have aw:=aw.chg aq (λ_ _ f=>f);have ax:=AR.ext aq _ ax;have E:=E.ext aq;have ai:runA (EU cs) most (holdA most a f) f word=runA (EU cs) most (knowA a4 t ((cn:Nat):Int)) D (word.drop (k+1)):=by rw[b0,d8,runA,G3 df,←hD,←b2]
      refine qA _ rfl (AB (AA (qM _ rfl (qV (El rfl rfl) (AB (qC rfl (λec=>?_) (λec=>?_)))))))
      ·obtain ⟨i4,rfl,da⟩:=b1.resolve_left (λh8=>by have:=h8.1;omega);obtain ⟨r4,b4⟩:=AU (l:=K4) (i:=i4) (by rw[bp.kl];exact AX da);obtain ⟨q4,c2,ds,b6,d3⟩:=ao.get b4;obtain ⟨dj,rfl,_,cy⟩:=Co ao.o (by have:=AX b4;omega);have ak:=dK c2;have d1:=AX b4;have dx:w0.heap.size≤q4∨ID b (.slice bq L0.length bt) (.slice br K0.length bv) bu q4:=(az q4 (.inr (.inr (.inr ak)))).symm;have d2:q4≠b∧q4≠bo∧q4≠b9:=⟨λe=>bm.bb (e▸ak),λe=>ad (e▸.inr (.inr (.inr ak))),λe=>by rcases bw q4 (.inr (.inr (.inr ak))) with h8|h8;(have:=(ap q4 h8).2;omega);omega⟩;refine AN (qM _ rfl (qV (Ay rfl) (qF b 0 9 rfl fN rfl Kh rfl (qV (AJ rfl O0 (an.cell rfl)) (qM _ rfl (qV (AL (b:=dj) (o:=0) (len:=K4.length) (cap:=bk) (i:=i4) (o':=0+i4) rfl rfl qO iI Ij qO qO) (qV (AJ rfl KO (cy i4 _ (by rw[eN,c2];rfl))) ?_)))))));refine qM _ rfl (qV (AL (b:=q4) (o:=0) (len:=cs.length) (cap:=cs.length) (i:=cn) (o':=0+cn) rfl rfl qO iB G8 qO qO) ?_);have dh:True:=trivial;refine CB (b:=q4) (o:=0+cn) (c':=((r4.map Value.bool).toArray).setIfInBounds (0+cn) (.bool true)) (v:=(.bool true)) rfl rfl rfl G8 b6 (by simp;omega) (rfl) ?_;intro w14 b5;have ar:=ar.chg b5.chg (λq hq h=>by have h9:q=q4:=h;exact bm.lr q4 ak (h9▸hq)) (λq hq h=>by have h9:q=q4:=h;exact bm.tr q4 ak (h9▸hq));have au:=AR.chg b5.chg (λq hq h=>by have h9:q=q4:=h;have:=a9 q hq.1;omega) _ au;have av:=av.chgM b5.chg (λq hq _ h=>by have h9:q=q4:=h;have:=a9 q hq;omega);have aw:=aw.chg b5.chg (λq hq h=>by have h9:q=q4:=h;subst h9;rcases dx with h8|h8;(have:=hq.2;omega);exact hq.1 h8);have ax:=AR.chg b5.chg (λq hq h=>by have h9:q=q4:=h;subst h9;rcases bw q (.inr (.inr (.inr ak))) with h8|h8;(rcases hq.1 with h7|h7;exact (am q h7.1).2.1 h8;(have:=(ap q h8).2;omega));(have:=hq.2.2;omega)) _ ax;have dh:=b5;have Bo:=b5.keep qO Bo;have B9:=b5.keep qO B9;have an:=b5.keep qO an;have E:=b5.step E (by first|exact dH qO|assumption|exact dG rfl|exact dG (by assumption)|exact dG qP|exact dG qO|exact dG (by dsimp only;omega));have b6:=b5.blk;have dc:=ao.put c2 b4 (by have h8:=dh;rw[aJ] at h8;exact h8);have de:(K4.set i4 (r4.set cn true)).length=K4.length:=iO;obtain ⟨a5,cp⟩:∃a5,a5=knowA a4 t ((cn:Nat):Int):=⟨_,rfl⟩;have dg:=bp.know da b4 (c:=cn) qO;rw[←cp] at dg ai;rw[show a4.made=a5.made by rw[cp,KF],show a4.drops=a5.drops by rw[cp,I8],←de] at an;rw[←de] at dc bm az ad c0;have ao:=dc;refine AB (AC (AN (qV (AI (vs:=(oJ D ag ae ah af)) rfl Ad AG rfl (B9.cells rfl)) (Aa (b:=bo) (o:=0) (c':=(R6 D ag ae ah af)) rfl rfl qS AG rfl Bo qL rfl ?_))));intro w15 cd;have ar:=ar.chg cd.chg (λq hq h=>by have h9:q=bo:=h;exact ad (h9▸.inr (.inl hq))) (λq hq h=>by have h9:q=bo:=h;exact a8 (h9▸hq));have au:=AR.chg cd.chg (λq hq h=>by have h9:q=bo:=h;have:=hq.2;omega) _ au;have av:=av.chgM cd.chg (λq hq _ h=>by have h9:q=bo:=h;have:=a9 q hq;omega);have aw:=aw.chg cd.chg (λq hq h=>by have h9:q=bo:=h;have:=hq.2;omega);have ax:=AR.chg cd.chg (λq hq h=>by have h9:q=bo:=h;rcases hq.1 with h7|h7;exact (am q h7.1).2.2 h9;omega) _ ax;have ao:=ao.chg cd.chg (λq hq h=>by have h9:q=bo:=h;exact ad (h9▸.inr (.inr (.inl hq)))) (λq hq h=>by have h9:q=bo:=h;exact ad (h9▸.inr (.inr (.inr hq))));have B9:=cd.keep qO B9;have an:=cd.keep qO an;have E:=cd.step E (by first|exact dH qO|assumption|exact dG rfl|exact dG (by assumption)|exact dG qP|exact dG qO|exact dG (by dsimp only;omega));have Bo:=cd.blk;refine AB (AV (AC (AN (qV (A0 rfl rfl (A8 qO)) (qM _ rfl (AB (AC ?_)))))));exact ⟨word.length - (k+1),qO,k+1,D,ag,ah,bn,oI dj 0,ae,af,bj,bk,T4,(λy=>((V y∧y<nw)∨nw≤y)∧y≠b9∧y<nz),bz,L4,K4.set i4 (r4.set cn true),a5,oH,E,Bo,an,qO,ar,ao,bm,dg,(by rw[cp,Vu];exact b7),ax,c0,⟨di,c9⟩,au,av,aw,az,ad,a8,ai,c8.symm,rfl⟩
      ·have c1:¬a4.dom t:=λhh=>by have h8:=(bp.dom t).1 hh;rcases b1 with h9|⟨i4,h9,_⟩;exact h9.2 h8;omega
       rw[FW c1] at ai;refine AM (AC (AN (qV (AI (vs:=(oJ D ag ae ah af)) rfl Ad AG rfl (B9.cells rfl)) (Aa (b:=bo) (o:=0) (c':=(R6 D ag ae ah af)) rfl rfl qS AG rfl Bo qL rfl ?_))));intro w16 ci;have ar:=ar.chg ci.chg (λq hq h=>by have h9:q=bo:=h;exact ad (h9▸.inr (.inl hq))) (λq hq h=>by have h9:q=bo:=h;exact a8 (h9▸hq));have ao:=ao.chg ci.chg (λq hq h=>by have h9:q=bo:=h;exact ad (h9▸.inr (.inr (.inl hq)))) (λq hq h=>by have h9:q=bo:=h;exact ad (h9▸.inr (.inr (.inr hq))));have au:=AR.chg ci.chg (λq hq h=>by have h9:q=bo:=h;have:=hq.2;omega) _ au;have av:=av.chgM ci.chg (λq hq _ h=>by have h9:q=bo:=h;have:=a9 q hq;omega);have aw:=aw.chg ci.chg (λq hq h=>by have h9:q=bo:=h;have:=hq.2;omega);have ax:=AR.chg ci.chg (λq hq h=>by have h9:q=bo:=h;rcases hq.1 with h7|h7;exact (am q h7.1).2.2 h9;omega) _ ax;have B9:=ci.keep qO B9;have an:=ci.keep qO an;have E:=ci.step E (by first|exact dH qO|assumption|exact dG rfl|exact dG (by assumption)|exact dG qP|exact dG qO|exact dG (by dsimp only;omega));have Bo:=ci.blk;refine AB (AV (AC (AN (qV (A0 rfl rfl (A8 qO)) (qM _ rfl (AB (AC ?_)))))));exact ⟨word.length - (k+1),qO,k+1,D,ag,ah,bn,cu,ae,af,bj,bk,T4,(λy=>((V y∧y<nw)∨nw≤y)∧y≠b9∧y<nz),bz,L4,K4,a4,oH,E,Bo,an,qO,ar,ao,bm,bp,b7,ax,c0,⟨di,c9⟩,au,av,aw,az,ad,a8,ai,c8.symm,rfl⟩
     ·have db:=a7;have a7:=by simpa using a7
      have df:a2.kn t ((cn:Nat):Int):=(cq.kn i t r hi hr cn).2 (by rw[du,a7]);obtain ⟨nz,bi⟩:∃n,n=(w4).heap.size:=⟨_,rfl⟩;have dz:=AR.mono (S':=(λy=>((V y∧y<nw)∨nw≤y)∧y≠b9∧y<nz)) (λy hy=>⟨(cf y hy.1).1,(cf y hy.1).2,by rw[bi];exact hy.2⟩) D (AR.lt D ct);have ff:∀y,(λy=>((V y∧y<nw)∨nw≤y)∧y≠b9∧y<nz) y→(S y∨n1≤y)∧¬ID b (.slice la L.length lc) (.slice (oI gk 0) K.length kc) bs y∧y≠bo:=λy hy=>⟨by rcases hy.1 with h8|h8;exact (am y h8.1).1;exact .inr qO,λhq=>by rcases hy.1 with h8|h8;exact (am y h8.1).2.1 hq;(have:=(ap y hq).2;omega),by rcases hy.1 with h8|h8;exact (am y h8.1).2.2;omega⟩;have ai:runA (EU cs) most (holdA most a f) f word=runA (EU cs) most a2 D (word.drop (k+1)):=by rw[b0,d8,runA,GM df,←hD]
      refine AM (AC (AN (qV (AI (vs:=(oJ D ag ae ah af)) rfl Ad AG rfl (B9.cells rfl)) (Aa (b:=bo) (o:=0) (c':=(R6 D ag ae ah af)) rfl rfl qS AG rfl Bo qL rfl ?_))));intro w17 cg;have ay:=ay.chg cg.chg (λq hq h=>by have h9:q=bo:=h;exact ck (h9▸.inr (.inl hq))) (λq hq h=>by have h9:q=bo:=h;exact dm (h9▸hq));have a6:=a6.chg cg.chg (λq hq h=>by have h9:q=bo:=h;exact ck (h9▸.inr (.inr (.inl hq)))) (λq hq h=>by have h9:q=bo:=h;exact ck (h9▸.inr (.inr (.inr hq))));have bg:=AR.chg cg.chg (λq hq h=>by have h9:q=bo:=h;have:=hq.2;omega) _ bg;have be:=be.chgM cg.chg (λq hq _ h=>by have h9:q=bo:=h;have:=a9 q hq;omega);have bf:=bf.chg cg.chg (λq hq h=>by have h9:q=bo:=h;have:=hq.2;omega);have dz:=AR.chg cg.chg (λq hq h=>by have h9:q=bo:=h;rcases hq.1 with h7|h7;exact (am q h7.1).2.2 h9;omega) _ dz;have al:=cg.keep qO al;have B9:=cg.keep qO B9;have E:=cg.step E (by first|exact dH qO|assumption|exact dG rfl|exact dG (by assumption)|exact dG qP|exact dG qO|exact dG (by dsimp only;omega));have Bo:=cg.blk;refine AB (AV (AC (AN (qV (A0 rfl rfl (A8 qO)) (qM _ rfl (AB (AC ?_)))))));exact ⟨word.length - (k+1),qO,k+1,D,ag,ah,la,oI gk 0,ae,af,lc,kc,T,(λy=>((V y∧y<nw)∨nw≤y)∧y≠b9∧y<nz),bs,L,K,a2,oH,E,Bo,al,qO,ay,a6,bd,cq,c7,dz,ff,⟨di,c9⟩,bg,be,bf,cw,ck,dm,ai,c8.symm,rfl⟩
  ·have er:k=word.length:=qO
   rw[er,eE] at cr;rw[er,gR,runA] at b0;refine Av (AZ (AZ (Ao (AC (AA (qV (AI (vs:=(oJ t sa sc aa ac)) rfl Ad AG rfl (Bo.cells rfl)) (qE rfl (AS func56 kQ kQ rfl) (St _ t _ (AR.at t ek) (EZ hs.1).1) ?_)))))));rintro _ cv ⟨rfl,a0⟩;have Bo:=a0.keep Bo;have al:=a0.keep al;have E:=E.ext a0;have eb:matchA (EU cs) most a f word=a2:=b0;refine qA _ rfl (AB (AO (AY results16 (v:=(.bool (BN t))) rfl ?_)));exact ⟨⟨by rw[←cr],_,⟨⟨b8,ch,oI cb co,la,ka,cj,ce,cc,lc,kc,T,bs,L,K,by rw[eb];exact al,AR.mono (λ_ h=>h.1) _ (AR.ext a0 _ bg),be.chgM a0 (λ_ _ _ f=>f),ay.ext a0,a6.ext a0,bd,by rw[eb];exact cq,rfl⟩,h.hS,dL h.nz E.size,h.fo,h.fz,by rw[eb];exact c7,h.mo⟩,cw⟩,E⟩
end Go.Proofs
namespace Go.Proofs
open Go Go.Eng Go.Sort Go.Lib
set_option maxRecDepth 100000
def Uh (L:List Cel) (seen:oC) (L':List Cel):Prop:=L'.length=seen.length∧∀(j:Nat) i,seen[j]?=some i->∃x y,L[i]?=some x∧L'[j]?=some y∧y.t=x.t∧y.ns=x.ns
theorem Uh.nil (L:List Cel):Uh L [] []:=⟨O,λj i h=>by simp at h⟩
theorem Uh.add {L L':List Cel} {seen:oC} {i:Nat} {x y:Cel} (h:Uh L seen L') (l:L[i]?=some x) (g:y.t=x.t) (d:y.ns=x.ns):Uh L (seen++[i]) (L'++[y]):=by
 refine ⟨by rw[dN,dN,h.1];rfl,λj k a=>?_⟩;rcases eI j seen.length with b|b
 .rw[dQ b] at a;obtain ⟨n,f,e,o,m⟩:=h.2 j k a;exact ⟨n,f,e,by rw[dQ (by rw[h.1];exact b)];exact o,m⟩
 .rw[dX b] at a;have c:j - seen.length=0:=by
   have:=AX a;simp at this;omega
  rw[c] at a;simp at a;subst a;exact ⟨x,y,l,by rw[dX (by rw[h.1];exact b),h.1,c];rfl,g,d⟩
theorem Uh.back {L L':List Cel} {seen:oC} (h:Uh L seen L') {y:Cel} (d:y∈L'):∃i∈seen,∃x,L[i]?=some x∧y.t=x.t∧y.ns=x.ns:=by
 obtain ⟨j,c⟩:=eS.1 d;have a:=AX c;rw[h.1] at a;obtain ⟨x,y',f,b,e,g⟩:=h.2 j _ (dM a);rw[c] at b;cases b;exact ⟨_,mJ a,x,f,e,g⟩
theorem Uh.rep {L L':List Cel} {seen:oC} {a:LzA Re} (h:Uh L seen L') (hn:seen.length=L.length) (l:∀i,i<L.length->i∈seen) (r:RepA L a):RepA L' a:=by
 have o:∀x∈L,∃y∈L',y.t=x.t∧y.ns=x.ns:=λx f=>by
  obtain ⟨i,hi⟩:=eS.1 f;obtain ⟨j,p⟩:=eS.1 (l i (AX hi));obtain ⟨x',y,b,g,k⟩:=h.2 j i p;rw[hi] at b;cases b;exact ⟨y,dK g,k⟩
 have m:∀y∈L',∃x∈L,y.t=x.t∧y.ns=x.ns:=λy d=>by
  obtain ⟨i,_,x,b,g⟩:=h.back d;exact ⟨x,dK b,g⟩
 refine ⟨λt=>(r.dom t).trans ⟨?_,?_⟩,λt c=>(r.kn t c).trans ⟨?_,?_⟩,by rw[r.n,h.1,hn]⟩
 .rintro ⟨x,f,e⟩;obtain ⟨y,d,b,_⟩:=o x f;exact ⟨y,d,b.trans e⟩
 .rintro ⟨y,d,e⟩;obtain ⟨x,f,b,_⟩:=m y d;exact ⟨x,f,b.symm.trans e⟩
 .rintro ⟨x,f,e,g⟩;obtain ⟨y,d,b,k⟩:=o x f;exact ⟨y,d,b.trans e,by rw[k];exact g⟩
 .rintro ⟨y,d,e,g⟩;obtain ⟨x,f,b,k⟩:=m y d;exact ⟨x,f,b.symm.trans e,by rw[<-k];exact g⟩
theorem Vi (a:World) (b:Nat) (ns:List (Int×ByteArray)) (z:Nat) (h:Bl a b Eh EK ns) (c:z<=a.heap.size):Bj prog 88 #[.map (some b)] a λv w=>Oq Eh EK ns z v w∧Ah a w:=by
 refine (AnyW.maps_Clone Tryz.mapCl b _ _ a h).mono ?_;rintro e w' ⟨rfl,rfl⟩;have hn:=NewO.mk' a (.map (EL Eh EK ns).toArray ns.length);exact ⟨_,O,⟨_,O,hn.at',c⟩,hn.ext⟩
theorem Uh.fresh {L L':List Cel} {seen:oC} {i:Nat} {x:Cel} (h:Uh L seen L') (b:(L.map (·.t)).Nodup) (d:L[i]?=some x) (a:i∉seen):∀y∈L',y.t≠x.t:=λy l e=>by
 obtain ⟨j,m,x',c,f,_⟩:=h.back l;have g:(L.map (·.t))[j]?=(L.map (·.t))[i]?:=by rw[eN,eN,c,d];simp only[iF,fI];exact f.symm.trans e
 have k:j<(L.map (·.t)).length:=by rw[dW];exact AX c
 have:=(iZ k b).1 g;subst this;exact a m
theorem U_ {n:Nat} {seen:oC} (c:seen.Nodup) (b:∀j∈seen,j<n) (a:∀i,i<n->i∈seen):seen.length=n:=by
 have:=((List.perm_ext_iff_of_nodup c List.nodup_range).2 λi=>⟨λh=>gJ.2 (b i h),λh=>a i (gJ.1 h)⟩).length_eq;rw[this,List.length_range]
theorem HeldAt.put_eq {S:oD} {D:Re->Int->Re} {w:World} {mb:Nat} {L:List Cel} {x:Cel} (h:HeldAt S D w mb L) (d:Au x.t) (b:∀y∈L,y.t≠x.t):C4 (L.map FF) (Er x.t) (some x.sb)=(L++[x]).map FF:=by
 have a:C_ (L.map FF) (Er x.t)=none:=by
  rcases h.get d with ⟨y,c,e,_⟩|⟨_,e⟩
  .exact absurd e (b y c)
  .exact e
 rw[E_ _ a,eT];rfl
theorem YA (S:Nat→Prop) (D:Re→Int→Re) (w0:World) (b mb most:Nat) (f:Re) (fsa faa ca:oE) (fsc fac cn cc:Nat) (L:List Cel) (a:LzA Re)
  (hB:BV w0 b #[I6 f.kind,.slice fsa f.set.length fsc,.slice faa f.args.length fac,I6 f.mn,I6 f.mx,.bool f.neg,I6 ((most:Nat):Int),.slice ca cn cc,.map (some mb),I6 a.made,I6 a.drops] Ky)
  (hH:HeldAt S D w0 mb L) (hR:RepA L a) (hn:a.n≤1000) :
  Bj prog 51 #[P6 b 0] w0 λv w=>(∃b' mb' L',v=P6 b' 0∧w0.heap.size≤b'∧w0.heap.size≤mb'∧(∀y∈L',w0.heap.size≤y.nb)∧
   BV w b' #[I6 f.kind,.slice fsa f.set.length fsc,.slice faa f.args.length fac,I6 f.mn,I6 f.mx,.bool f.neg,I6 ((most:Nat):Int),.slice ca cn cc,.map (some mb'),I6 a.made,I6 a.drops] Ky∧
   HeldAt (λy=>S y∨(w0.heap.size≤y∧y≠b')) D w mb' L'∧RepA L' a)∧Ah w0 w:=by
 have aa:=hH.map;have hln:=hR.n;refine qR func51 rfl ntmps51 rfl (λE=>(AA (qA _ rfl (AB (AA (qM _ rfl (qV (Ay rfl) (qV (AI (vs:=[(I6 f.kind),(.slice fsa f.set.length fsc),(.slice faa f.args.length fac),(I6 f.mn),(I6 f.mx),(.bool f.neg),(I6 (most:Int)),(.slice ca cn cc),(.map (some mb)),(I6 a.made),(I6 a.drops)]) rfl Y3 SY rfl (hB.cells rfl)) (As (v:=(.agg #[(I6 f.kind),(.slice fsa f.set.length fsc),(.slice faa f.args.length fac),(I6 f.mn),(I6 f.mx),(.bool f.neg),(I6 (most:Int)),(.slice ca cn cc),(.map (some mb)),(I6 a.made),(I6 a.drops)])) (c:=#[(I6 f.kind),(.slice fsa f.set.length fsc),(.slice faa f.args.length fac),(I6 f.mn),(I6 f.mx),(.bool f.neg),(I6 (most:Int)),(.slice ca cn cc),(.map (some mb)),(I6 a.made),(I6 a.drops)]) (n:=11) qD Z' rfl SY rfl rfl rfl qS ?_)))))))));intro bx wx Nx;have Fx:=Nx.ge E;have Ox_b:=Nx.lt hB;have Ox_mb:=Nx.ltM aa;have hB:=Nx.keep hB;have aa:=Nx.keepM aa;have E:=E.ext Nx.ext;have Bx:=Nx.blk;refine AB (AA (G9 EK ED qD ?_));intro bm wm Nm;have Fm:=Nm.ge E;have Om_b:=Nm.lt hB;have Om_mb:=Nm.ltM aa;have Om_bx:=Nm.lt Bx;have hB:=Nm.keep hB;have aa:=Nm.keepM aa;have Bx:=Nm.keep Bx;have E:=E.ext Nm.ext;intro Mm;refine qF bx 0 8 rfl fS rfl G7 rfl (CB (b:=bx) (o:=8) (c':=#[(I6 f.kind),(.slice fsa f.set.length fsc),(.slice faa f.args.length fac),(I6 f.mn),(I6 f.mx),(.bool f.neg),(I6 (most:Int)),(.slice ca cn cc),(.map (some bm)),(I6 a.made),(I6 a.drops)]) (v:=(.map (some bm))) rfl rfl rfl G7 Bx qP rfl ?_);intro w1 S1;have hB:=S1.keep qO hB;have aa:=S1.keepM qO aa;have Mm:=S1.keepM qO Mm;have E:=S1.step E (by first|exact dH qO|assumption|exact dG rfl|exact dG (by assumption)|exact dG qP|exact dG qO|exact dG (by dsimp only;omega));have Bx:=S1.blk;refine AB (AH (AA (qM _ rfl (qV (Ay rfl) (qF b 0 8 rfl fS rfl G7 rfl (qV (AJ rfl Hh (hB.cell rfl)) (Sc qD iT aa rfl ?_)))))));intro bi wi Ni;have Fi:=Ni.ge E;have Oi_b:=Ni.lt hB;have Oi_mb:=Ni.ltM aa;have Oi_bx:=Ni.lt Bx;have Oi_bm:=Ni.ltM Mm;have hB:=Ni.keep hB;have aa:=Ni.keepM aa;have Bx:=Ni.keep Bx;have Mm:=Ni.keepM Mm;have E:=E.ext Ni.ext;have Ii:Cj wi bi mb (L.map FF).length []:=Ni.at';refine AB (AW (Ax (λnn_ σ W2=>∃(ac:oC) (L':List Cel) (es:List (ByteArray×Option Nat)),(∃jj_,σ=BW jj_ [(15,(P6 bi 0)),(3,(P6 bx 0))])∧Chg Aj w0 W2∧BV W2 b #[(I6 f.kind),(.slice fsa f.set.length fsc),(.slice faa f.args.length fac),(I6 f.mn),(I6 f.mx),(.bool f.neg),(I6 (most:Int)),(.slice ca cn cc),(.map (some mb)),(I6 a.made),(I6 a.drops)] Ky∧Bl W2 mb EK ED (L.map FF)∧BV W2 bx #[(I6 f.kind),(.slice fsa f.set.length fsc),(.slice faa f.args.length fac),(I6 f.mn),(I6 f.mx),(.bool f.neg),(I6 (most:Int)),(.slice ca cn cc),(.map (some bm)),(I6 a.made),(I6 a.drops)] 65∧Bl W2 bm EK ED es∧Cj W2 bi mb ((L.map FF).length) ac∧(ac.Nodup)∧(∀j∈ac,j<L.length)∧(es=L'.map FF)∧(Uh L ac L')∧(HeldAt (λy=>S y∨(w0.heap.size≤y∧y≠bx)) D W2 bm L')∧(∀y∈L',w0.heap.size≤y.nb)∧nn_=L.length - ac.length) (n:=L.length - ([]:oC).length) ?_ ?_))
 ·exact ⟨([]:oC),[],[],oH,E,hB,aa,Bx,Mm,Ii,g_,(λj hj=>absurd hj eY),rfl,Uh.nil L,⟨Mm,qP,g_,qP⟩,qP,rfl⟩
 ·clear E hB aa Bx Mm Ii;rintro _ _ W2 ⟨ac,L',es,⟨j2,rfl⟩,E,hB,aa,Bx,Mm,Ii,a9,a2,a6,hC,ah,bb,rfl⟩;refine AA (VA qD aa Ii rfl (λao=>?_) ?_)
  ·skip
   refine qV (BA rfl rfl) (AB (AH (Ae rfl (Av (AZ (AZ (Ao (AC (AA (qA _ rfl (AB (AO (AY results51 (v:=(P6 bx 0)) rfl ?_)))))))))))));exact ⟨⟨bx,bm,L',rfl,Fx,Fm,bb,Bx,ah,hC.rep (U_ a9 a2 (by simpa using ao)) (by simpa using ao) hR⟩,E⟩
  ·intro i p w3 hp a8 S3;have ah:=ah.chg S3.chg (λq _ hn e=>by subst e;exact Ii.no hn) (Kl Mm Ii) (λy hy=>Kl (ah.cel y hy).nx Ii);have hB:=S3.keep qO hB;have aa:=S3.keepM qO aa;have Bx:=S3.keep qO Bx;have Mm:=S3.keepM qO Mm;have E:=S3.step E (by first|exact dH qO|assumption|exact dG rfl|exact dG qO);have Ii:Cj w3 bi mb ((L.map FF).length) (ac++[i]):=S3.at';refine qV (BA rfl rfl) (AB (AH (Aq rfl (AM (AC (AW (AA (CM (v:=(.tuple #[(.string p.1),(ED p.2)])) rfl rfl qD (Sk aa Ii hp rfl) (qV (BA rfl rfl) (qV (BA rfl rfl) (qA _ rfl (qA _ rfl (AB ?_)))))))))))));have ba:=hp;rw[eN] at ba;obtain ⟨x,hx,rfl⟩:=iQ.1 ba;have aj:=hH.cel x (dK hx);obtain ⟨ai,ad,af,ae,a5,_,_,_⟩:=aj.re.form;have ay:=aj.blk;rw[a5] at ay;obtain ⟨z0,ar⟩:∃z0,z0=(w3).heap.size:=⟨_,rfl⟩;have hml:bm<z0:=by rw[ar];exact Mm.lt
   have bp:∀y∈L',y.nb<z0:=λy hy=>by rw[ar];exact (ah.cel y hy).nx.lt
   have hwz:w0.heap.size≤z0:=by rw[ar];exact E.size
   have hxz:bx<z0:=by rw[ar];exact Bx.lt
   have a7:=hC.fresh hH.nd hx a8;have an:(ac++[i]).Nodup:=gN.2 ⟨a9,qP,λu hu z hz=>by simp at hz;subst hz;exact λh9=>a8 (h9▸hu)⟩;have ak:∀j∈ac++[i],j<L.length:=λj hj=>by rcases eC.1 hj with h9|h9;exact a2 j h9;rw[dO] at h9;subst h9;exact AX hx
   have hl2:=Ld an ak;have hl3:(ac++[i]).length=ac.length+1:=qP
   have bj:w0.heap.size≤w3.heap.size:=E.size;have a0:b<w3.heap.size:=hB.lt;have au:mb<w3.heap.size:=aa.lt;have ax:bx<w3.heap.size:=Bx.lt;have aq:bm<w3.heap.size:=Mm.lt;have ap:bi<w3.heap.size:=Ii.lt;obtain ⟨bu,ab⟩:∃Fs:List CW,Fs=[(eF (P6 bx 8)),(eF (.map (some bm))),(eF (.string (Er x.t))),(eF (P6 x.sb 0)),(eF (P6 x.sb 0)),(eF (P6 x.sb 0)),(eF (.agg (R6 x.t ai ad af ae))),(eF (P6 x.sb 0)),(eF (P6 x.sb 0)),(eF (P6 x.sb 6)),(eF (.map (some x.nb))),(λ_ _=>Oq Eh EK x.ns z0),(λ_ _=>R_ (oJ x.t ai ad af ae) x.ns z0),(λ_ _=>Qk (oJ x.t ai ad af ae) x.ns SE z0),(eF undef)]:=⟨_,rfl⟩;refine EE (M6 []) [true,true,true,true,true,true,true,true,true,true,true,true,true,true,false] [14] [21,22,23,24,25,26,27,28,29,30,31,32,33,34,49] [[],[0],[],[],[3],[4],[5],[],[7],[8],[9],[10],[6,11],[12],[]] [[],[0],[],[],[3],[4,3],[5,4,3],[],[7],[8,7],[9,8,7],[10,9,8,7],[6,5,4,3,11,10,9,8,7],[12,6,5,4,3,11,10,9,8,7],[]] bu ab qK mixed qK qK qK qK ?_ ?_
   ·intro wd X0;refine qZ (λS s' w' hi hN X U V H=>?_) ?_
    ·have X:=Cq X;exact Ab (AQ (U 3 rfl) fS rfl G7 rfl) rfl
    refine qZ (λS s' w' hi hN X U V H=>?_) ?_
    ·have X:=Cq X;have bo:=(H 0 rfl).2 21 _ rfl (by rw[ab];rfl);exact Ab (AJ bo Hh (((X0.trans X).keep Bx).cell rfl)) rfl
    refine qZ (λS s' w' hi hN X U V H=>?_) ?_
    ·have X:=Cq X;exact Ab (Am (U 4 rfl)) rfl
    refine qZ (λS s' w' hi hN X U V H=>?_) ?_
    ·have X:=Cq X;exact Ab (Am (U 5 rfl)) rfl
    refine qZ (λS s' w' hi hN X U V H=>?_) ?_
    ·have X:=Cq X;have bn:=(H 3 rfl).2 24 _ rfl (by rw[ab];rfl);exact Ab (Ay bn) rfl
    refine qZ (λS s' w' hi hN X U V H=>?_) ?_
    ·have X:=Cq X;have be:=(H 4 rfl).2 25 _ rfl (by rw[ab];rfl);exact Ab (AQ be kZ rfl AG rfl) rfl
    refine qZ (λS s' w' hi hN X U V H=>?_) ?_
    ·have X:=Cq X;have b2:=(H 5 rfl).2 26 _ rfl (by rw[ab];rfl);exact Ab (AI b2 Ad AG rfl (((Ah.trans E (X0.trans X)).keep ay).cells rfl)) rfl
    refine qZ (λS s' w' hi hN X U V H=>?_) ?_
    ·have X:=Cq X;exact Ab (Am (U 5 rfl)) rfl
    refine qZ (λS s' w' hi hN X U V H=>?_) ?_
    ·have X:=Cq X;have bv:=(H 7 rfl).2 28 _ rfl (by rw[ab];rfl);exact Ab (Ay bv) rfl
    refine qZ (λS s' w' hi hN X U V H=>?_) ?_
    ·have X:=Cq X;have bt:=(H 8 rfl).2 29 _ rfl (by rw[ab];rfl);exact Ab (AQ bt kZ rfl Q_ rfl) rfl
    refine qZ (λS s' w' hi hN X U V H=>?_) ?_
    ·have X:=Cq X;have bd:=(H 9 rfl).2 30 _ rfl (by rw[ab];rfl);exact Ab (AJ bd O1 (((Ah.trans E (X0.trans X)).keep ay).cell rfl)) rfl
    refine DagStepsS.cons (Dl.chg (U:=Aj) (P5 _ _ _ _) (λp y hp hw h=>by
       exact h.elim)) (Hr.const) (λS s' w' hi hN X U V H=>dH ⟨AE rfl,?_⟩) ?_
    ·have X:=Cq X;have b1:=(H 10 rfl).2 31 _ rfl (by rw[ab];rfl);exact D_ (AS func88 kQ kQ (Ha b1)) (Vi _ x.nb x.ns z0 ((Ah.trans E (X0.trans X)).keepM aj.nx) (by have:=X0.size;have:=X.size;omega))
    refine DagStepsS.cons (Dl.chg (U:=Aj) (Qm _ _ _) (λp y hp hw h=>by
       exact h.elim)) (Hr.const) (λS s' w' hi hN X U V H=>dH ⟨AE rfl,?_⟩) ?_
    ·have X:=Cq X;have bw:=(H 6 rfl).2 27 _ rfl (by rw[ab];rfl);obtain ⟨az,bc,bs,bk⟩:=(show ((λ_ _=>Oq Eh EK x.ns z0):CW) S s' (s' 32) w' from (H 11 rfl).2 32 (λ_ _=>Oq Eh EK x.ns z0) rfl (by rw[ab];rfl));exact Ab (B0 (ps:=[(0,.agg (R6 x.t ai ad af ae)),(1,.map (some az))]) (v:=.agg #[I6 x.t.kind,.slice ai x.t.set.length ad,.slice af x.t.args.length ae,I6 x.t.mn,I6 x.t.mx,.bool x.t.neg,.map (some az)]) (bB bw bc) qK) ⟨az,rfl,bs,bk⟩
    refine DagStepsS.cons (Dl.chg (U:=Aj) (Qj _ _ _ _) (λp y hp hw h=>by
       exact h.elim)) (Hr.const) (λS s' w' hi hN X U V H=>dH ⟨AE rfl,?_⟩) ?_
    ·have X:=Cq X;obtain ⟨b33,br,bh,b0⟩:=(show ((λ_ _=>R_ (oJ x.t ai ad af ae) x.ns z0):CW) S s' (s' 33) w' from (H 12 rfl).2 33 (λ_ _=>R_ (oJ x.t ai ad af ae) x.ns z0) rfl (by rw[ab];rfl));exact Mp br rfl bh b0 (by have:=X0.size;have:=X.size;omega)
    refine DagStepsS.tail ?_;exact DagStepsS.nil
   ·intro s' wd4 w4 X0 X4 U H;have X4:=X4.mono (M':=Aj) (λy _ h=>by
      obtain ⟨j,hj,h⟩:=h;exact h.elim)
    have bg:=H 1 rfl 22 _ rfl (by rw[ab];rfl);have bf:=H 2 rfl 23 _ rfl (by rw[ab];rfl);obtain ⟨al,a3,bq,a1,g34,bz,h34⟩:=(show ((λ_ _=>Qk (oJ x.t ai ad af ae) x.ns SE z0):CW) (Me [true,true,true,true,true,true,true,true,true,true,true,true,true,true,false]) s' (s' 34) w4 from H 13 rfl 34 (λ_ _=>Qk (oJ x.t ai ad af ae) x.ns SE z0) rfl (by rw[ab];rfl));obtain ⟨j4,rfl⟩:=Ak.out (σ:=s') (l:=[(3,(P6 bx 0)),(15,(P6 bi 0)),(22,(.map (some bm))),(23,(.string (Er x.t))),(34,(P6 al 0))]) ⟨U 3 rfl,U 15 rfl,bg,bf,bq,trivial⟩;clear U H;have hB:=(X0.trans X4).keep hB;have aa:=(X0.trans X4).keepM aa;have Bx:=(X0.trans X4).keep Bx;have Mm:=(X0.trans X4).keepM Mm;have Ii:=Ah.keepI Ii (X0.trans X4);have ah:=ah.ext (X0.trans X4);have X4:=X0.trans X4;have E:=E.ext X4;obtain ⟨X,ag,a4,av,am,aw⟩:∃X:Cel,X.t=x.t∧X.vs=(oJ x.t ai ad af ae)∧X.sb=al∧X.nb=a3∧X.ns=x.ns:=⟨⟨x.t,_,al,a3,x.ns⟩,rfl,rfl,rfl,rfl,rfl⟩;refine Ea (eV:=ED) (k:=(Er x.t)) (v:=(some al)) iT (H0 hY) Mm rfl rfl rfl ?_;intro w5 S5 H5;have hB:=S5.keep qO hB;have aa:=S5.keepM qO aa;have Bx:=S5.keep qO Bx;have Ii:=PutO.keepI Ii S5 qO;have E:=S5.step E (by first|exact dH qO|assumption|exact dG rfl|exact dG (by assumption)|exact dG qP|exact dG qO|exact dG (by dsimp only;omega));have Mm:=H5;refine AB (AV (AC ?_));exact ⟨L.length - (ac++[i]).length,qO,ac++[i],L'++[X],C4 es (Er x.t) (some al),oH,E,hB,aa,Bx,Mm,Ii,an,ak,(by rw[a6,←av,←ag];exact ah.put_eq (by rw[ag];exact aj.ok) (by rw[ag];exact a7)),hC.add hx ag aw,ah.add (λ_ h=>h) S5.chg (by rw[ag,av,←a6];exact Mm) ⟨by rw[a4,av,am];exact S5.keep (D9 a1 ah.map) a1,by rw[av];exact .inr ⟨qO,qO⟩,by rw[ag,a4];exact AR.mono (λ_ h=>.inl h) _ (by have h9:=AR.ext E _ aj.re;rw[a5] at h9;exact h9),by rw[am,aw];exact S5.keepM qO bz,by rw[aw];exact aj.nk,by rw[ag];exact aj.ok,by rw[ag];exact aj.sz,by rw[aw,ag];exact aj.kv⟩ (by rw[ag];exact a7) (by rw[am];omega) (λy hy=>by have:=bp y hy;rw[am];omega),(λy hy=>by rcases eC.1 hy with h9|h9;exact bb y h9;rw[dO.1 h9,am];omega),rfl⟩
end Go.Proofs
namespace Go.Proofs
open Go Go.Eng Go.Sort
set_option maxRecDepth 100000
structure LzAt (S:oD) (cs:nZ) (w:World) (b most:Nat) (f:Re) (a:LzA Re):Prop where
 mem:∃(fsa faa ca:oE) (fsc fac cc mb:Nat) (L:List Cel),
  BV w b #[I6 f.kind,.slice fsa f.set.length fsc,.slice faa f.args.length fac,I6 f.mn,I6 f.mx,.bool f.neg,I6 ((most:Nat):Int),.slice ca cs.length cc,.map (some mb),I6 a.made,I6 a.drops] Ky∧
  LzF S cs w f (oJ f fsa fsc faa fac) (.slice ca cs.length cc) mb L∧RepA L a
 nb:¬S b
 fo:Au f
 fz:f.size<=300
 ok:a.Ok (EU cs) most
 mo:1<=most∧most<=100
section
variable {S S' : Nat → Prop} {cs : List (List Sp)} {w w' : World} {b most q : Nat} {f : Re} {a : LzA Re}
theorem LzAt.ext (h:LzAt S cs w b most f a) (c:Ah w w'):LzAt S cs w' b most f a:=by
 obtain ⟨g,d,j,e,i,cc,mb,L,m,k,l⟩:=h.mem;exact ⟨⟨g,d,j,e,i,cc,mb,L,c.keep m,k.ext c,l⟩,h.nb,h.fo,h.fz,h.ok,h.mo⟩
theorem LzAt.lt (h:LzAt S cs w b most f a):b<w.heap.size:=by
 obtain ⟨_,_,_,_,_,_,_,_,c,_⟩:=h.mem;exact c.lt
theorem LzAt.mono (h:LzAt S cs w b most f a) (hs:∀y,S y->y<w.heap.size->S' y) (hb:¬S' b):LzAt S' cs w b most f a:=by
 obtain ⟨g,e,j,c,d,cc,mb,L,m,l,k⟩:=h.mem;exact ⟨⟨g,e,j,c,d,cc,mb,L,m,l.lt.mono λy i=>hs y i.1 i.2,k⟩,hb,h.fo,h.fz,h.ok,h.mo⟩
end
theorem T5 {D:Re->Int->Re} {most:Nat} {a:LzA Re} {f:Re} (b:1<=most) (w:oB) (h:a.Ok D most):(matchA D most a f w).Ok D most:=Se b w (LC b h)
theorem P7 (S:oD) (cs:nZ) (m:World) (b most:Nat) (f:Re) (a:LzA Re) (h:LzAt S cs m b most f a) :
 Bj prog 17 #[P6 b 0] m λr w=>r=.tuple #[I6 a.made,I6 a.drops,I6 ((a.n:Nat):Int)]∧Ah m w:=by
 obtain ⟨fsa,faa,ca,fsc,fac,cc,mb,L,o,N,F⟩:=h.mem;have g:=N.hd.map;have x:(L.map FF).length=a.n:=by rw[dW,F.n]
 refine qR func17 O ntmps17 O (λE=>(AA (qA _ O (qA _ O (qA _ O (AB ?_))))));have hz_1:m.heap.size<=m.heap.size:=E.size;have lz_1_b:b<m.heap.size:=o.lt;have lz_1_mb:mb<m.heap.size:=g.lt;refine AH ?_;obtain ⟨u,c⟩:∃G:List CW,G=[(eF (P6 b 0)),(eF (P6 b 0)),(eF (P6 b 9)),(eF (I6 a.made)),(eF (P6 b 0)),(eF (P6 b 0)),(eF (P6 b 10)),(eF (I6 a.drops)),(eF (P6 b 0)),(eF (P6 b 0)),(eF (P6 b 8)),(eF (.map (some mb))),(eF (I6 (((L.map FF).length:Nat):Int))),(eF (I6 a.made)),(eF (I6 a.drops)),(eF undef)]:=⟨_,O⟩;refine EE (M6 []) [true,true,true,true,true,true,true,true,true,true,true,true,true,true,true,false] [15] [5,6,7,8,9,10,11,12,13,14,15,16,17,2,3,33] [[],[0],[1],[2],[],[4],[5],[6],[],[8],[9],[10],[11],[0,1,2,3,12],[0,1,2,3,4,5,6,7,13],[]] [[],[0],[1,0],[2,1,0],[],[4],[5,4],[6,5,4],[],[8],[9,8],[10,9,8],[11,10,9,8],[0,1,2,3,12,11,10,9,8],[0,1,2,3,4,5,6,7,13,12,11,10,9,8],[]] u c qK mixed qK qK qK qK ?_ ?_
 .intro wd i;refine qZ (λS d w' hi e X U V H=>?_) ?_
  .replace X:=Cq X;exact Ab (Am (U 0 O)) O
  refine qZ (λS d w' hi e X U V H=>?_) ?_
  .replace X:=Cq X;have K:=(H 0 O).2 5 _ O (by rw[c];rfl);exact Ab (Ay K) O
  refine qZ (λS d w' hi e X U V H=>?_) ?_
  .replace X:=Cq X;have I:=(H 1 O).2 6 _ O (by rw[c];rfl);exact Ab (AQ I fS O Al O) O
  refine qZ (λS d w' hi e X U V H=>?_) ?_
  .replace X:=Cq X;have M:=(H 2 O).2 7 _ O (by rw[c];rfl);exact Ab (AJ M Ag (((i.trans X).keep o).cell O)) O
  refine qZ (λS d w' hi e X U V H=>?_) ?_
  .replace X:=Cq X;exact Ab (Am (U 0 O)) O
  refine qZ (λS d w' hi e X U V H=>?_) ?_
  .replace X:=Cq X;have D:=(H 4 O).2 9 _ O (by rw[c];rfl);exact Ab (Ay D) O
  refine qZ (λS d w' hi e X U V H=>?_) ?_
  .replace X:=Cq X;have z:=(H 5 O).2 10 _ O (by rw[c];rfl);exact Ab (AQ z fS O Al O) O
  refine qZ (λS d w' hi e X U V H=>?_) ?_
  .replace X:=Cq X;have s:=(H 6 O).2 11 _ O (by rw[c];rfl);exact Ab (AJ s Ag (((i.trans X).keep o).cell O)) O
  refine qZ (λS d w' hi e X U V H=>?_) ?_
  .replace X:=Cq X;exact Ab (Am (U 0 O)) O
  refine qZ (λS d w' hi e X U V H=>?_) ?_
  .replace X:=Cq X;have p:=(H 8 O).2 13 _ O (by rw[c];rfl);exact Ab (Ay p) O
  refine qZ (λS d w' hi e X U V H=>?_) ?_
  .replace X:=Cq X;have A:=(H 9 O).2 14 _ O (by rw[c];rfl);exact Ab (AQ A fS O G7 O) O
  refine qZ (λS d w' hi e X U V H=>?_) ?_
  .replace X:=Cq X;have B:=(H 10 O).2 15 _ O (by rw[c];rfl);exact Ab (AJ B Hh (((i.trans X).keep o).cell O)) O
  refine qZ (λS d w' hi e X U V H=>?_) ?_
  .replace X:=Cq X;have q:=(H 11 O).2 16 _ O (by rw[c];rfl);exact Ab (Pf iT ((Ah.trans i X).keepM g) q) O
  refine qZ (λS d w' hi e X U V H=>?_) ?_
  .replace X:=Cq X;have P:=(H 3 O).2 8 _ O (by rw[c];rfl);exact Ab (Dg P) O
  refine qZ (λS d w' hi e X U V H=>?_) ?_
  .replace X:=Cq X;have t:=(H 7 O).2 12 _ O (by rw[c];rfl);exact Ab (Dg t) O
  refine DagStepsS.tail ?_;exact DagStepsS.nil
 .intro d wd1 w1 i k U H;have k:=k.mono (M':=Aj) (λy _ h=>by
   obtain ⟨j,hj,h⟩:=h;exact h.elim)
  have C:=H 12 O 17 _ O (by rw[c];rfl);have J:=H 13 O 2 _ O (by rw[c];rfl);have Q:=H 14 O 3 _ O (by rw[c];rfl);obtain ⟨j1,rfl⟩:=Ak.out (σ:=d) (l:=[(17,(I6 (((L.map FF).length:Nat):Int))),(2,(I6 a.made)),(3,(I6 a.drops))]) ⟨C,J,Q,trivial⟩;clear U H;have o:=(i.trans k).keep o;have g:=(i.trans k).keepM g;have k:=i.trans k;have E:=E.ext k;refine qA _ O (AB (AC (AO (JZ results17 (v:=(I6 a.made)) (v':=(I6 a.drops)) (v'':=(I6 (((L.map FF).length:Nat):Int))) O O O ?_))));exact ⟨by rw[x],E⟩
theorem P8 (S:oD) (cs:nZ) (i:World) (b most:Nat) (f:Re) (a:LzA Re) (v:Value) (text:oB) (h:LzAt S cs i b most f a) (M:Bw i v text) (hP:Dm i)
 (aj:∀r,CJ r=true->0<=Cg cs r∧Cg cs r<cs.length) (aa:∀l∈cs,l≠[]∧CJ (BH l)=true) (X:0<cs.length) :
 Bj prog 14 #[P6 b 0,v] i λr w=>
  ((1000<text.length∧r=.tuple #[.bool false,I6 2])∧Ah i w)∨
  ((text.length<=1000∧text.all CJ=false∧r=.tuple #[.bool false,I6 1])∧Ah i w)∨
  ((text.length<=1000∧text.all CJ=true∧r=.tuple #[.bool false,I6 2]∧∃u,u.length<=text.length∧u=(text.map (Cg cs)).take u.length∧300<(GV (EU cs) f u).size)∧Ah i w)∨
  ((text.length<=1000∧text.all CJ=true∧r=.tuple #[.bool (BN (GV (EU cs) f (text.map (Cg cs)))),I6 0])∧LzAt (λy=>S y∨i.heap.size<=y) cs w b most f (matchA (EU cs) most a f (text.map (Cg cs)))∧Chg (λq=>q=b) i w):=by
 obtain ⟨g,e,C,j,d,cc,mb,L,t,hF,hR⟩:=h.mem;obtain ⟨P,T,rfl⟩:∃P T,v=.slice P text.length T:=by
  obtain ⟨P,T,h,_⟩:=M;exact ⟨P,T,by rw[h,dW]⟩
 have ak:=t;have ac:=(B_.of M).ltg λr hr=>by obtain ⟨p,_,rfl⟩:=eU.1 hr;simp[GB]
 have R:text.all CJ = !(text.any λr=>!CJ r):=kO;refine Ew func14 O ntmps14 (RV O) ?_;have E:Chg (λq=>q=b) i i:=Chg.refl _ _;have n:Chg Aj i i:=Chg.refl _ _;refine AA (qA _ O (qA _ O (AB (AH (AA (qM _ O (qV (AT eA O) (qV (CN O O) (AB (qC O (λQ=>?_) (λQ=>?_)))))))))))
 .refine AA (qA _ O (qA _ O (AB (AO (AK (CA results14 (v:=(.bool false)) (v':=(I6 2)) O O ?_))))));exact .inl ⟨⟨qO,O⟩,n⟩
 .refine AM (AC (AH (AA (qM _ O (qE O (AS func50 kQ kQ O) (XZ _ _ text (M.ext n)) ?_)))));rintro _ D ⟨rfl,X9⟩;have t:=X9.keep t;have E:=E.ext X9;have n:=n.ext X9;refine qV (C1 O) (AB (A4 O (λc=>?_) (λc=>?_)))
  .have N:=c;have c:=by simpa using c
   have c:=by simpa using c
   refine AA (qA _ O (qA _ O (AB (AO (AK (CA results14 (v:=(.bool false)) (v':=(I6 1)) O O ?_))))));exact .inr (.inl ⟨⟨qO,by rw[R];simpa using c,O⟩,n⟩)
  .have N:=c;have c:=by simpa using c
   have c:=by simpa using c
   have z:text.all CJ=true:=by rw[R];simpa using c
   have F:=hF.lt.ext n;have hon:=h.ok.le;have hmo:=h.mo;have U:=n.size;have hbl:=ak.lt;refine AM (AC (AA (qM _ O (qE O (AS func51 kQ kQ O) (YA (λy=>S y∧y<i.heap.size) (EU cs) _ b mb most f g e C j d cs.length cc L a t F.hd hR qO) ?_))));rintro _ A ⟨⟨b',mb',L',rfl,ai,ae,aq,ad,ap,ao⟩,m⟩;have t:=m.keep t;have E:=E.ext m;have n:=n.ext m;obtain ⟨K,G⟩:∃K:oD,K=λy=>(S y∧y<i.heap.size)∨(D.heap.size<=y∧y≠b'):=⟨_,O⟩;have am:LzF K cs A f (oJ f g j e d) (.slice C cs.length cc) mb' L':=by rw[G];exact ⟨AR.mono (λ_ h=>.inl h) _ (AR.ext m _ F.hf),(F.sp.chgM m (λ_ _ _ f=>f)).mono (λ_ h=>.inl h),ap⟩
   have al:¬K b':=by rw[G];rintro (h|h);(have:=h.2;omega);exact h.2 O
   have ab:∀r∈text,0<=Cg cs r∧Cg cs r<cs.length:=λr hr=>aj r (fM.1 z r hr);have ah:B_ (λy=>y<D.heap.size) A 1 (.slice P text.length T) (text.map GB):=(ac.mono (λy h=>fD h.2 U)).chg n (λ_ _ f=>f);refine qA _ O (AB (AA (qM _ O (qM _ O (qE O (AS func52 kQ kQ O) ((Ze K cs _ b' mb' most D.heap.size f g e C j d cc L' a _ text ad am ao al h.fo h.fz h.ok h.mo ⟨ai,ae⟩ aq m.size (hP.ext n) (fD hP.lt U) ah qO ab aa X).mono (R':=λr w=>∃(W:Bool) (ev:Int),r=.tuple #[.bool W,I6 ev]∧((ev=0∧W=BN (GV (EU cs) f (text.map (Cg cs)))∧∃s L2 B,B=matchA (EU cs) most a f (text.map (Cg cs))∧BV w b' #[I6 f.kind,.slice g f.set.length j,.slice e f.args.length d,I6 f.mn,I6 f.mx,.bool f.neg,I6 (most:Int),.slice C cs.length cc,.map (some s),I6 B.made,I6 B.drops] Ky∧LzF (λy=>K y∧y<A.heap.size∨A.heap.size<=y) cs w f (oJ f g j e d) (.slice C cs.length cc) s L2∧RepA L2 B)∨(ev=2∧W=false∧∃u,u.length<=text.length∧u=(text.map (Cg cs)).take u.length∧300<(GV (EU cs) f u).size))∧Chg (λq=>D.heap.size<=q) A w) (λr w h=>by rcases h with ⟨⟨h1,h2⟩|⟨h1,h2⟩,hC⟩;exact ⟨_,_,h1,.inl ⟨O,O,h2⟩,hC⟩;exact ⟨_,_,h1,.inr ⟨O,O,h2⟩,hC⟩)) ?_)))));rintro _ w29 ⟨W,ev,rfl,hq,I⟩;have t:=I.keep (λh=>by have k:D.heap.size<=b:=h;omega) t;have E:=E.step I (λx M h=>by exfalso;have k:D.heap.size<=x:=h;omega);have n:=n.step I (λx M h=>by exfalso;have k:D.heap.size<=x:=h;omega);refine qM _ O (qV (BA O O) (qV (BA O O) (qA _ O (qA _ O (AB (AH (AA (qM _ O (qV (Bb O O) (AB (qC O (λhe=>?_) (λhe=>?_))))))))))))
   .obtain ⟨af,Z,u,hu⟩:=hq.resolve_left (λk=>he k.1);refine AA (qM _ O (qA _ O (qA _ O (AB (AO (AK (CA results14 (v:=(.bool false)) (v':=(I6 ev)) O O ?_)))))));exact .inr (.inr (.inl ⟨⟨qO,z,by rw[af],u,hu⟩,n⟩))
   .obtain ⟨h0,Z,s,L2,B,V,H,an,ag⟩:=hq.resolve_right (λk=>by have:=k.1;omega);have J:=an.mono (S':=λy=>(S y∧y<i.heap.size)∨i.heap.size<=y) (λy hy=>by rw[G] at hy;rcases hy with ⟨k|k,_⟩|k;exact .inl k;exact .inr qO;exact .inr (by have:=m.size;omega));have hbb:b≠b':=qO
    refine AM (AC (AA (qM _ O (qM _ O (qV (Ay O) (qV (AI (vs:=[(I6 f.kind),(.slice g f.set.length j),(.slice e f.args.length d),(I6 f.mn),(I6 f.mx),(.bool f.neg),(I6 (most:Int)),(.slice C cs.length cc),(.map (some s)),(I6 B.made),(I6 B.drops)]) O Y3 SY O (H.cells O)) (qV (Ay O) (Aa (b:=b) (o:=0) (c':=#[(I6 f.kind),(.slice g f.set.length j),(.slice e f.args.length d),(I6 f.mn),(I6 f.mx),(.bool f.neg),(I6 (most:Int)),(.slice C cs.length cc),(.map (some s)),(I6 B.made),(I6 B.drops)]) O O qS SY O t qL O ?_))))))));intro w4 S4;have J:=J.cells S4.chg (λk=>by rcases k with k|k;exact h.nb k.1;omega) (DT t);have H:=S4.keep qO H;have E:=S4.step E (by first|exact dH qO|assumption|exact dG rfl|exact dG (by assumption)|exact dG qP|exact dG qO|exact dG (by dsimp only;omega));have t:=S4.blk;refine AB (AA (qM _ O (qA _ O (qA _ O (AB (AO (CA results14 (v:=(.bool W)) (v':=(I6 0)) O O ?_)))))));exact .inr (.inr (.inr ⟨⟨qO,z,by rw[Z]⟩,⟨⟨g,e,C,j,d,cc,s,L2,by rw[<-V];exact t,J.mono (λy hy=>hy.imp nY id),by rw[<-V];exact ag⟩,λk=>k.elim h.nb qO,h.fo,h.fz,T5 h.mo.1 _ h.ok,h.mo⟩,E⟩))
theorem T7 (S:oD) (cs:nZ) (c:World) (b most:Nat) (f:Re) (a:LzA Re) (v:Value) (text:oB) (h:LzAt S cs c b most f a) (z:∀y,c.heap.size<=y->S y) (A:Bw c v text) (s:Dm c)
 (k:∀r,CJ r=true->0<=Cg cs r∧Cg cs r<cs.length) (i:∀l∈cs,l≠[]∧CJ (BH l)=true) (g:0<cs.length) (hl:text.length<=1000) (p:∀x∈text,CJ x=true) :
 Bj prog 14 #[P6 b 0,v] c λr w=>
  ∃(m:Bool) (ev:Int) (a':LzA Re),r=.tuple #[.bool m,I6 ev]∧
   ((ev=2∧m=false∧a'=a∧∃u,u.length<=text.length∧u=(text.map (Cg cs)).take u.length∧300<(GV (EU cs) f u).size)∨
    (ev=0∧m=BN (GV (EU cs) f (text.map (Cg cs)))∧a'=matchA (EU cs) most a f (text.map (Cg cs))))∧LzAt S cs w b most f a'∧Chg (λq=>q=b) c w:=by
 have e:text.all CJ=true:=fM.2 p;refine (P8 S cs c b most f a v text h A s k i g).mono λr w B=>?_;rcases B with ⟨⟨d,_⟩,_⟩|⟨⟨_,d,_⟩,_⟩|⟨⟨_,_,d,j⟩,n⟩|⟨⟨_,_,d⟩,j,o⟩
 .omega
 .rw[e] at d;cases d
 .exact ⟨_,_,a,d,.inl ⟨O,O,O,j⟩,h.ext n,n.mono λ_ _ f=>f.elim⟩
 .exact ⟨_,_,_,d,.inr ⟨O,O,O⟩,j.mono (λy t _=>t.elim id (z y)) h.nb,o⟩
def Dc (c:Int) (x:Re) (s:List Re×List Int):List Re×List Int:=
 if (A_ c x).kind=0 then (s.1,s.2++[-1]) else if (s.1.any λy=>BU y (A_ c x))=true then (s.1,s.2++[Hg (λy=>BU y (A_ c x)) s.1]) else (s.1++[A_ c x],s.2++[((s.1.length:Nat):Int)])
def DO (cs:nZ) (x:Re) (L:List Re):List Re×List Int:=cs.foldl (λs cl=>Dc (BH cl) x s) (L,[])
def CQ (cs:nZ) (t:Re):Nat->List Re×List oB
  | 0=>([CR t],[])
  | i+1=>match (CQ cs t i).1[i]? with
    | none=>CQ cs t i
    | some x=>((DO cs x (CQ cs t i).1).1,(CQ cs t i).2++[(DO cs x (CQ cs t i).1).2])
theorem JB {cs:nZ} {t x:Re} {i:Nat} (h:(CQ cs t i).1[i]?=some x):CQ cs t (i+1)=((DO cs x (CQ cs t i).1).1,(CQ cs t i).2++[(DO cs x (CQ cs t i).1).2]):=by
 rw[CQ,h]
theorem Rp {cs:nZ} {t:Re} {i:Nat} (h:(CQ cs t i).1[i]?=none):CQ cs t (i+1)=CQ cs t i:=by
 rw[CQ,h]
def Mj (cs:nZ) (t:Re) (i:Nat):Prop:=∃x,(CQ cs t i).1[i]?=some x∧((∃cl∈cs,300<(A_ (BH cl) x).size)∨200<(CQ cs t (i+1)).1.length)
def Wy (cs:nZ) (t:Re):Prop:=∃i,Mj cs t i
def KZ (cs:nZ) (t:Re) (L:List Re) (rows:List oB):Prop:=∃n,CQ cs t n=(L,rows)∧n=L.length∧∀j,j<n->¬Mj cs t j
theorem QT (c:Int) (x:Re) (s:List Re×List Int):∃M v,Dc c x s=(s.1++M,s.2++[v]):=by
 unfold Dc;split
 .exact ⟨[],-1,qP⟩
 split
 .exact ⟨[],_,by simp;rfl⟩
 .exact ⟨[_],_,O⟩
theorem H2 (x:Re):∀(cs:nZ) (s:List Re×List Int),∃M r,cs.foldl (λs f=>Dc (BH f) x s) s=(s.1++M,s.2++r)∧r.length=cs.length
 | [],s=>⟨[],[],qP,O⟩
 | c::cs,s=>by
  obtain ⟨M,v,h⟩:=QT (BH c) x s;obtain ⟨e,a,d,b⟩:=H2 x cs (Dc (BH c) x s);exact ⟨M++e,v::a,by rw[f_,d,h];simp,by simp[b]⟩
theorem QR {cs:nZ} {x:Re} {L:List Re} {k:Nat} {a:oF} (h:cs[k]?=some a):DO (cs.take (k+1)) x L=Dc (BH a) x (DO (cs.take k) x L):=by
 unfold DO;rw[eK,h,fL,hZ];rfl
theorem QS {cs:nZ} {x:Re} {L:List Re} (k:Nat):(DO (cs.take k) x L).1.length<=(DO cs x L).1.length:=by
 have h:DO cs x L=(cs.drop k).foldl (λs b=>Dc (BH b) x s) (DO (cs.take k) x L):=by
  unfold DO;rw[<-hZ,fF]
 obtain ⟨M,r,a,_⟩:=H2 x (cs.drop k) (DO (cs.take k) x L);rw[h,a];simp
theorem Rt {cs:nZ} {x:Re} {L:List Re} {k:Nat} (hk:k<=cs.length):(DO (cs.take k) x L).2.length=k:=by
 obtain ⟨M,r,b,a⟩:=H2 x (cs.take k) (L,[]);unfold DO;rw[b];simp[a];omega
theorem MN {cs:nZ} {t x:Re} {i k:Nat} {L:List Re} {R:List oB} (hs:CQ cs t i=(L,R)) (b:L[i]?=some x) (h:(∃c∈cs,300<(A_ (BH c) x).size)∨200<(DO (cs.take k) x L).1.length):Wy cs t:=by
 have a:(CQ cs t i).1[i]?=some x:=by rw[hs];exact b
 refine ⟨i,x,a,h.imp id λh=>?_⟩;rw[JB a,hs];exact fD h (QS k)
theorem MM {cs:nZ} {t x:Re} {i:Nat} {L:List Re} {R:List oB} (hs:CQ cs t i=(L,R)) (a:L[i]?=some x):CQ cs t (i+1)=((DO cs x L).1,R++[(DO cs x L).2]):=by
 rw[JB (x:=x) (by rw[hs];exact a),hs]
theorem Rq {cs:nZ} {t x:Re} {i:Nat} {L:List Re} {R:List oB} (hs:CQ cs t i=(L,R)) (c:L[i]?=some x) (d:∀b∈cs,(A_ (BH b) x).size<=300) (h2:(DO cs x L).1.length<=200):¬Mj cs t i:=by
 rintro ⟨y,a,hb⟩;rw[hs] at a;have a:L[i]?=some y:=a;rw[c] at a;cases a;rw[MM hs c] at hb;rcases hb with ⟨b,e,h⟩|h
 .have:=d b e;omega
 .simp only at h;omega
end Go.Proofs
namespace Go.Proofs
open Go Go.Eng
set_option maxRecDepth 100000
def Gr (w:World) (v:Value) (ll:List oB):Prop:=∃vs:n_,BX w 1 v (vs.map λx=>[x])∧vs.length=ll.length∧∀(i:Nat) (u:Value) (l:oB),vs[i]?=some u->ll[i]?=some l->Bw w u l
theorem Gr.form {w:World} {v:Value} {ll:List oB} (h:Gr w v ll):∃a c,v=.slice a ll.length c∧ll.length<=c∧ll.length<=9223372036854775807:=by
 obtain ⟨vs,b,d,_⟩:=h;obtain ⟨a,c,rfl⟩:=b.form;have:=b.cap;have:=b.le;simp only[dW] at *;rw[d] at *;exact ⟨a,c,O,qO,qO⟩
theorem QD {w:World} {a:oE} {n c:Nat} {ll:List oB} (h:Gr w (.slice a n c) ll) (hn:0<n) :
 ∃b o,a=oI b o∧∀i l,ll[i]?=some l->∃d e,w.cell? ⟨b,o+i,none⟩=some (.slice d l.length e)∧Bw w (.slice d l.length e) l:=by
 obtain ⟨vs,r,h2,p⟩:=h;obtain ⟨b,o,s,q⟩:=BX.at r hn;refine ⟨b,o,s,λi l j=>?_⟩;have hi:i<vs.length:=by have:=AX j;omega
 have m:vs[i]?=some vs[i]:=dM hi;have f:=p i vs[i] l m j;obtain ⟨d,e,g⟩:=BX.form f;simp only[dW] at g;have k:=q i [vs[i]] (by simp[m]) 0 _ O;rw[kT,jO,g] at k;rw[g] at f;exact ⟨d,e,k,f⟩
end Go.Proofs
namespace Go.Proofs
open Go Go.Eng Go.Sort
set_option maxRecDepth 100000
abbrev Z3:Nat:=3
abbrev Z2:Nat:=46
def Rg (l:oB):Nat×List Value:=(l.length,l.map (Value.int .i64))
theorem Rd (l:oB):(l.map GB).flatten=l.map (Value.int .i64):=by
 induction l with
 | nil=>rfl
 | cons x l ih=>simp[GB];simpa[GB] using ih
theorem Tv {w:World} {base n:Nat} {v:Value} {l:oB} (h:w.ownsRow base Z3 1 v n (l.map (Value.int .i64))) (hn:n=l.length):Bw w v l:=by
 rw[<-Rd] at h;exact Di h (by intro x a;simp only[eU] at a;obtain ⟨p,_,rfl⟩:=a;rfl) (by simp[hn]) qD
def LB (vo:Value) (vs:n_) (b:Nat):Prop:=vo.ownBlock=some b∨∃(i:Nat) (v:Value),vs[i]?=some v∧v.ownBlock=some b
section
variable {To e sz base : Nat} {w w' : World} {vo : Value} {vs : List Value} {ns : List (Nat × List Value)}
theorem LSt.ltB (h:LSt To e sz w base vo vs ns) {b:Nat} (hb:LB vo vs b):base<=b∧b<w.heap.size:=by
 rcases hb with a|⟨i,v,a,c⟩
 .exact h.o.lt b a
 .obtain ⟨p,d⟩:=AU (l:=ns) (i:=i) (by have:=AX a;have:=h.len;omega);exact (h.inn i v p a d).lt b c
theorem LSt.chgB {M:oD} (h:LSt To e sz w base vo vs ns) (c:Chg M w w') (d:∀b,LB vo vs b->¬M b):LSt To e sz w' base vo vs ns:=
 ⟨CH h.o c λb hb=>d b (.inl hb),h.len,λi v p a f=>CH (h.inn i v p a f) c λb hb=>d b (.inr ⟨i,v,a,hb⟩),h.apo⟩
theorem LB.push {v' u:Value} {b:Nat} (h:LB v' (vs++[u]) b):v'.ownBlock=some b∨u.ownBlock=some b∨LB vo vs b:=by
 rcases h with h|⟨i,v,a,d⟩
 .exact .inl h
 .right;rcases eI i vs.length with c|c
  .rw[dQ c] at a;exact .inr (.inr ⟨i,v,a,d⟩)
  .rw[dX c] at a;have e:=AX a;simp at e;rw[show i - vs.length=0 by omega] at a;simp at a;exact .inl (a▸d)
end
theorem LSt.intss {w:World} {base:Nat} {N:Value} {vs:n_} {rows:List oB} (h:LSt Z2 Z3 1 w base N vs (rows.map Rg)):Gr w N rows:=by
 have a:vs.length=rows.length:=by simpa using h.len
 refine ⟨vs,?_,a,λi u l d a=>?_⟩
 .have b:=h.o;rw[show vs=(vs.map λx=>[x]).flatten by simp[jI,lD]] at b;exact Di b (by intro r c;simp only[eU] at c;obtain ⟨x,_,rfl⟩:=c;rfl) (by simp[a]) qD
 .exact Tv (h.inn i u (Rg l) d (by rw[eN,a];rfl)) O
def Wx (t:Re) (m e:Int) (cs:nZ):Prop:=
 (By t 40≠0∧e=By t 40)∨(By t 40=0∧Cz t≠0∧e=Cz t)∨(By t 40=0∧Cz t=0∧(m<1∨100<m)∧e=1)∨(By t 40=0∧Cz t=0∧(1<=m∧m<=100)∧Kx (CU t) cs e)
theorem Vm (w0:World) (t:Re) (vs:n_) (m:Int) (ht:A3 w0 t vs) :
  Bj prog 5 #[.agg vs.toArray,I6 m] w0 λr w=>(∃e cs,Wx t m e cs∧((e≠0∧r=.tuple #[.pointer none,I6 e])∨
   (e=0∧∃(b most:Nat),m=((most:Nat):Int)∧w0.heap.size≤b∧r=.tuple #[P6 b 0,I6 0]∧LzAt (λy=>w0.heap.size≤y∧y≠b) cs w b most (CR t) LzA.zero)))∧Ah w0 w:=by
 have ag:=ht;obtain ⟨sa,sc,aa,ac,rfl,a7,bb,a2⟩:=ht.form;refine qR func5 rfl ntmps5 rfl (λE=>(AA (BC (v:=(.agg (R6 t sa sc aa ac))) (c:=(R6 t sa sc aa ac)) qD rfl rfl ?_)));intro br wr Nr;have Fr:=Nr.ge E;have E:=E.ext Nr.ext;have Br:=Nr.blk;refine qA _ rfl (qA _ rfl (AB (AH (AA (qV (AI (vs:=(oJ t sa sc aa ac)) rfl Ad AG rfl (Br.cells rfl)) (qE rfl (AS func24 kQ kQ rfl) (Yd _ t _ (A3.ext E t ag)) ?_))))));rintro _ w9 ⟨rfl,X9⟩;have Br:=X9.keep Br;have E:=E.ext X9;refine qA _ rfl (AB (AA (qM _ rfl (qV (Bb rfl rfl) (AB (qC rfl (λhf=>?_) (λhf=>?_)))))))
 ·refine AA (qM _ rfl (qA _ rfl (qA _ rfl (AB (AO (AK (CA nJ (v:=(.pointer none)) (v':=(I6 (By t 40))) rfl rfl ?_)))))));exact ⟨⟨_,[],.inl ⟨hf,rfl⟩,.inl ⟨hf,rfl⟩⟩,E⟩
 ·refine AM (AC (AH (AA (qV (AI (vs:=(oJ t sa sc aa ac)) rfl Ad AG rfl (Br.cells rfl)) (qE rfl (AS func25 kQ kQ rfl) (Rx _ t _ (A3.ext E t ag)) ?_)))));rintro _ w19 ⟨rfl,az⟩;have Br:=az.keep Br;have E:=E.ext az;refine qA _ rfl (AB (AA (qM _ rfl (qV (Bb rfl rfl) (AB (qC rfl (λhd=>?_) (λhd=>?_)))))))
  ·refine AA (qM _ rfl (qA _ rfl (qA _ rfl (AB (AO (AK (CA nJ (v:=(.pointer none)) (v':=(I6 (Cz t))) rfl rfl ?_)))))));exact ⟨⟨_,[],.inr (.inl ⟨qO,hd,rfl⟩),.inl ⟨hd,rfl⟩⟩,E⟩
  ·have ah:By t 40=0:=qO
   have ae:Cz t=0:=qO
   refine AM (AC (AH (AA (qM _ rfl ?_))));obtain ⟨e3,a0⟩:∃e,(decide ((m:Int)<1))=e:=⟨_,rfl⟩;refine qV ((A6 rfl rfl).trans (by rw[a0];try rfl)) (qM _ rfl (qG (.bool e3) (nU e3 (I6 m)) (by cases e3<;>first|exact gA|exact gB|exact .inl ⟨rfl,Am rfl⟩) ?_));obtain ⟨e4,aq⟩:∃e,(decide ((100:Int)<m))=e:=⟨_,rfl⟩;refine qG (.bool e3) (nU e3 (.bool e4)) (by cases e3<;>first|exact gA|exact gB|exact .inl ⟨rfl,(CN rfl rfl).trans (by rw[aq];try rfl)⟩) ?_;obtain ⟨e5,a1⟩:∃e,(e3 || e4)=e:=⟨_,rfl⟩;refine qV (Af (v:=.bool e5) rfl (by rw[←a1];cases e3<;>rfl)) (AB ?_);subst a1;subst aq;subst a0;refine A4 rfl (λhm=>?_) (λhm=>?_)
   ·have a9:=hm;refine AA (qA _ rfl (qA _ rfl (AB (AO (AK (CA nJ (v:=(.pointer none)) (v':=(I6 1)) rfl rfl ?_))))));exact ⟨⟨1,[],.inr (.inr (.inl ⟨ah,ae,by simpa using hm,rfl⟩)),.inl ⟨qD,rfl⟩⟩,E⟩
   ·have a9:=hm;have a4:1≤m∧m≤100:=by simp at hm;omega
    obtain ⟨mo,au⟩:∃mo:Nat,m=((mo:Nat):Int):=⟨m.toNat,qO⟩;obtain ⟨ax,_,hu,al,af⟩:=HL ae;have ao:=H' (GK ax hu);have ar:=Lc t;have aw:=QN ao;have hsz:=((EY (t:=t) (most:=40) qD qD).1 ah).2;refine AM (AC (AA (qV (AI (vs:=(oJ t sa sc aa ac)) rfl Ad AG rfl (Br.cells rfl)) (qE rfl (AS func27 kQ kQ rfl) ((bD _ t _ (A3.ext E t ag) (GK ax hu) qO).mono (R':=λv w=>(∃a c,v=.slice a (CU t).length c∧C0 w (.slice a (CU t).length c) (CU t))∧Ah _ w) (λv w h=>⟨by obtain ⟨a,c,h1,_⟩:=h.1.form;exact ⟨a,c,h1,h1▸h.1⟩,h.2⟩)) ?_))));rintro _ ba ⟨⟨aa9,ac9,rfl,a8⟩,av⟩;have Br:=av.keep Br;have E:=E.ext av;have an:w0.heap.size≤ba.heap.size:=E.size;refine qE rfl (AS func26 kQ kQ rfl) (Wd _ _ (CU t) a8 qO qO) ?_;rintro _ aj ⟨⟨cs,e,ap,ca,cc,rfl,a3⟩,ay⟩;have Br:=ay.keep Br;have E:=E.ext ay;refine qM _ rfl (qV (BA rfl rfl) (qV (BA rfl rfl) (qA _ rfl (qA _ rfl (AB (AH (AA (qM _ rfl (qV (Bb rfl rfl) (AB (qC rfl (λhe=>?_) (λhe=>?_))))))))))))
    ·refine AA (qM _ rfl (qA _ rfl (qA _ rfl (AB (AO (AK (CA nJ (v:=(.pointer none)) (v':=(I6 e)) rfl rfl ?_)))))));exact ⟨⟨e,cs,.inr (.inr (.inr ⟨ah,ae,qO,ap⟩)),.inl ⟨he,rfl⟩⟩,E⟩
    ·have ak:w0.heap.size≤aj.heap.size:=E.size;have a6:e=0:=qO
     obtain ⟨M,hM⟩:∃M,M=CR t:=⟨_,rfl⟩;refine AM (AC (AA (qV (AI (vs:=(oJ t sa sc aa ac)) rfl Ad AG rfl (Br.cells rfl)) (qE rfl (AS func28 kQ kQ rfl) ((YQ _ (λy=>y<w0.heap.size) t _ (AR.ext E t (AR.mono (λ_ h=>h.2) t (AR.lt t (AR.of_at t ag)))) (λy hy=>by have:=E.size;have h9:y<w0.heap.size:=hy;omega)).mono (R':=λr w=>(∃(xa:oE) (xc:Nat) (ya:oE) (yc:Nat),r=.tuple #[.agg (R6 M xa xc ya yc),I6 0]∧AR (λb=>aj.heap.size≤b) w M (oJ M xa xc ya yc))∧Ah aj w) (λr w h=>⟨by obtain ⟨us,h1,h2⟩:=h.1;rw[show QJ t=M by unfold QJ;rw[if_pos ae,hM]] at h2;have h3:=h2;obtain ⟨xa,xc,ya,yc,rfl,_⟩:=h3.form;exact ⟨xa,xc,ya,yc,by rw[h1,ae],h2⟩,h.2⟩)) ?_))));rintro _ a5 ⟨⟨xa,xc,ya,yc,rfl,hR⟩,am⟩;have Br:=am.keep Br;have E:=E.ext am;obtain ⟨z0,ai⟩:∃z,z=a5.heap.size:=⟨_,rfl⟩;have hwz:w0.heap.size≤z0:=by rw[ai];exact E.size
     have ad:=AR.mono (S':=λy=>w0.heap.size≤y∧y<z0) (λy hy=>⟨dL ak hy.1,by rw[ai];exact hy.2⟩) M (AR.lt M hR);have ab:=((a3.chgM am (λ_ _ _ f=>f)).lt).mono (S':=λy=>w0.heap.size≤y∧y<z0) (λy hy=>⟨dL an hy.1,by rw[ai];exact hy.2⟩);refine qM _ rfl (qV (BA rfl rfl) (qV (BA rfl rfl) (As (v:=(.agg (R6 M xa xc ya yc))) (c:=(R6 M xa xc ya yc)) (n:=6) qD A1 rfl AG rfl rfl rfl qS ?_)));intro bo wo No;have Fo:=No.ge E;have Oo_br:=No.lt Br;have Br:=No.keep Br;have ad:=AR.ext No.ext _ ad;have ab:=ab.chgM No.ext (λ_ _ _ f=>f);have E:=E.ext No.ext;have Bo:=No.blk;refine qA _ rfl (AB (AA (qV (AI (vs:=(oJ M xa xc ya yc)) rfl Ad AG rfl (Bo.cells rfl)) (qM _ rfl (qM _ rfl (G9 EK ED qD ?_))))));intro b8 w8 N8;have F8:=N8.ge E;have O8_br:=N8.lt Br;have O8_bo:=N8.lt Bo;have Br:=N8.keep Br;have Bo:=N8.keep Bo;have ad:=AR.ext N8.ext _ ad;have ab:=ab.chgM N8.ext (λ_ _ _ f=>f);have E:=E.ext N8.ext;intro M8;refine qV (B0 (ps:=[(0,(.agg (R6 M xa xc ya yc))),(1,(I6 m)),(2,(.slice ca cs.length cc)),(3,(.map (some b8)))]) (v:=(.agg #[(I6 M.kind),(.slice xa M.set.length xc),(.slice ya M.args.length yc),(I6 M.mn),(I6 M.mx),(.bool M.neg),(I6 m),(.slice ca cs.length cc),(.map (some b8)),(I6 0),(I6 0)])) rfl qK) (BC (v:=(.agg #[(I6 M.kind),(.slice xa M.set.length xc),(.slice ya M.args.length yc),(I6 M.mn),(I6 M.mx),(.bool M.neg),(I6 m),(.slice ca cs.length cc),(.map (some b8)),(I6 0),(I6 0)])) (c:=#[(I6 M.kind),(.slice xa M.set.length xc),(.slice ya M.args.length yc),(I6 M.mn),(I6 M.mx),(.bool M.neg),(I6 m),(.slice ca cs.length cc),(.map (some b8)),(I6 0),(I6 0)]) qD rfl rfl ?_);intro b9 w9 N9;have F9:=N9.ge E;have O9_br:=N9.lt Br;have O9_bo:=N9.lt Bo;have O9_b8:=N9.ltM M8;have Br:=N9.keep Br;have Bo:=N9.keep Bo;have M8:=N9.keepM M8;have ad:=AR.ext N9.ext _ ad;have ab:=ab.chgM N9.ext (λ_ _ _ f=>f);have E:=E.ext N9.ext;have B9:=N9.blk;refine qA _ rfl (qA _ rfl (AB (AO (CA nJ (v:=(P6 b9 0)) (v':=(I6 0)) rfl rfl ?_))));have hb9:z0≤b9:=by have:=No.eq;omega
     exact ⟨⟨e,cs,.inr (.inr (.inr ⟨ah,ae,a4,ap⟩)),.inr ⟨a6,b9,mo,au,F9,rfl,⟨⟨xa,ya,ca,xc,yc,cc,b8,[],by rw[←hM,←au];exact B9,⟨by rw[←hM];exact AR.mono (λy hy=>⟨hy.1,by have:=hy.2;omega⟩) _ ad,by exact ab.mono (λy hy=>⟨hy.1,by have:=hy.2;omega⟩),⟨M8,qP,g_,qP⟩⟩,RepA.none 0 0⟩,λh=>h.2 rfl,al,af,LzA.Ok.zero,qO⟩⟩⟩,E⟩
theorem Zk {α:Type} {p:α->Bool} {l:List α} (h:l.any p=true):∃(j:Nat) (y:α),Hg p l=((j:Nat):Int)∧l[j]?=some y∧p y=true:=by
 unfold Hg;cases hf:l.findIdx? p with
 | none=>
  rw[iL] at hf;rw[eX] at h;obtain ⟨x,b,a⟩:=h;have:=hf x b;rw[a] at this;cases this
 | some k=>
  rw[gH] at hf;obtain ⟨c,a,_⟩:=hf;exact ⟨k,l[k],O,dM c,a⟩
def Kb (x:Re) (c:Int) (L:List Re) (v:Int):Prop:=((A_ c x).kind=0∧v = -1)∨∃j:Nat,v=((j:Nat):Int)∧L[j]?=some (A_ c x)
theorem Kb.app {x:Re} {c:Int} {L:List Re} {v:Int} (h:Kb x c L v) (M:List Re):Kb x c (L++M) v:=
 h.imp id λ⟨j,b,a⟩=>⟨j,b,by rw[dQ (AX a)];exact a⟩
theorem O4 (c:Int) (x:Re) (s:List Re×List Int):∃M v,Dc c x s=(s.1++M,s.2++[v])∧Kb x c (s.1++M) v:=by
 unfold Dc;split
 .rename_i h
  exact ⟨[],-1,qP,.inl ⟨h,O⟩⟩
 split
 .rename_i h
  obtain ⟨j,y,b,d,a⟩:=Zk h;rw[BY] at a;exact ⟨[],_,qP,.inr ⟨j,b,by rw[gD,d,a]⟩⟩
 .exact ⟨[A_ c x],_,O,.inr ⟨s.1.length,O,qP⟩⟩
theorem Ja (x:Re):∀(cs:nZ) (s:List Re×List Int),∃M r,cs.foldl (λs a=>Dc (BH a) x s) s=(s.1++M,s.2++r)∧r.length=cs.length∧∀(k:Nat) a,cs[k]?=some a->∃v,r[k]?=some v∧Kb x (BH a) (s.1++M) v
 | [],s=>⟨[],[],qP,O,λk a h=>by simp at h⟩
 | c::cs,s=>by
  obtain ⟨M,v,h,l⟩:=O4 (BH c) x s;obtain ⟨d,j,g,f,m⟩:=Ja x cs (Dc (BH c) x s);refine ⟨M++d,v::j,by rw[f_,g,h];simp,by simp[f],λk a b=>?_⟩;cases k with
  | zero=>
   rw[List.getElem?_cons_zero,fI] at b;subst b;exact ⟨v,O,by rw[<-eW];exact l.app d⟩
  | succ k=>
   rw[mS] at b;obtain ⟨u,i,e⟩:=m k a b;rw[h] at e;exact ⟨u,by rw[mS];exact i,by rw[<-eW];exact e⟩
def Y5 (cs:nZ) (L:List Re) (x:Re) (r:oB):Prop:=r.length=cs.length∧∀(k:Nat) cl,cs[k]?=some cl->∃v,r[k]?=some v∧Kb x (BH cl) L v
theorem Rr (cs:nZ) (t:Re):∀n,(CQ cs t n).1[0]?=some (CR t)∧((CQ cs t n).2.length=n∨((CQ cs t n).1.length<n∧(CQ cs t n).2.length<=(CQ cs t n).1.length))∧∀(i:Nat) r,(CQ cs t n).2[i]?=some r->∃x,(CQ cs t n).1[i]?=some x∧Y5 cs (CQ cs t n).1 x r:=by
 intro n
 induction n with
 | zero=>exact ⟨O,.inl O,λi r h=>by simp[CQ] at h⟩
 | succ n ih=>
 obtain ⟨g,hl,e⟩:=ih;cases hx:(CQ cs t n).1[n]? with
 | none=>
  rw[Rp hx];have j:(CQ cs t n).1.length<=n:=by
   rcases eI n (CQ cs t n).1.length with h|h
   .rw[dM h] at hx;cases hx
   .exact h
  have d:(CQ cs t n).2.length<=(CQ cs t n).1.length:=by
   rcases eI (CQ cs t n).1.length (CQ cs t n).2.length with h|h
   .obtain ⟨r,f⟩:=AU h;obtain ⟨x,c,_⟩:=e _ r f;rw[eR (dU _)] at c;cases c
   .exact h
  exact ⟨g,.inr ⟨qO,d⟩,e⟩
 | some x=>
  have hn:=AX hx;have a:(CQ cs t n).2.length=n:=qO
  obtain ⟨M,r,j,d,l⟩:=Ja x cs ((CQ cs t n).1,[]);have z:DO cs x (CQ cs t n).1=((CQ cs t n).1++M,r):=j;rw[JB hx,z];refine ⟨by rw[dQ qO];exact g,.inl (by simp[a]),λi q b=>?_⟩;simp only at b⊢;rcases eI i n with h|h
  .rw[dQ qO] at b;obtain ⟨y,w,A,u⟩:=e i q b;exact ⟨y,by rw[dQ qO];exact w,A,λk p s=>by obtain ⟨v,o,m⟩:=u k p s;exact ⟨v,o,m.app M⟩⟩
  .have hi:=AX b;rw[dN,a] at hi;obtain rfl:i=n:=by simp at hi;omega
   rw[dX qO,a,kI] at b;simp at b;subst b;exact ⟨x,by rw[dQ qO];exact hx,d,l⟩
theorem Kq {cs:nZ} {t:Re} {L:List Re} {rows:List oB} (h:KZ cs t L rows):L[0]?=some (CR t)∧rows.length=L.length∧∀(i:Nat) x,L[i]?=some x->∃r,rows[i]?=some r∧Y5 cs L x r:=by
 obtain ⟨n,k,h2,_⟩:=h;obtain ⟨a,f,b⟩:=Rr cs t n;rw[k] at a f b;simp only at a f b;have j:rows.length=L.length:=qO
 refine ⟨a,j,λi x e=>?_⟩;obtain ⟨r,c⟩:=AU (l:=rows) (i:=i) (by have:=AX e;omega);obtain ⟨y,d,g⟩:=b i r c;rw[e] at d;cases d;exact ⟨r,c,g⟩
end Go.Proofs
namespace Go.Proofs
open Go Go.Eng
set_option maxRecDepth 100000
abbrev Lg:=List Int->Prop
end Go.Proofs
namespace Go.Proofs
open Go Go.Eng Go.Sort
set_option maxRecDepth 100000
theorem Uv (c:Int) (t:Re):A_ c t=(if t.kind=2 then (if Ca t.set c=true then BT else BO) else if t.kind=3 then Ek c t.args
 else if t.kind=4∨t.kind=7∨t.kind=8 then C5 t.kind [] (t.args.map (A_ c)) 0 0 false
 else if t.kind=5 then De [(t.args.map (A_ c)).headD BO,t]
 else if t.kind=6 then De [(t.args.map (A_ c)).headD BO,C5 6 [] [t.args.headD BO] (max 0 (t.mn - 1)) (t.mx - 1) false]
 else BO):=by cases t;simp only[A_,Ix];rfl
theorem T6 (ll:nZ) (r s:Int):A5 ll r=A5 ll s↔∀l∈ll,Ca l r=Ca l s:=by
 unfold A5;rw[List.map_inj_left]
theorem Wo {P:oF->Prop} (t:Re):Cu P t↔(t.kind=2->P t.set)∧∀y∈t.args,Cu P y:=by
 cases t with
 | mk k s a m x g=>simp only[Cu,HR];rfl
theorem Mf:∀(l:List Re) (s:nZ),s.Nodup->(l.foldl Ez s).Nodup
 | [],s,h=>h
 | t::l,s,h=>by
  rw[f_];refine Mf l _ ?_;unfold Ez;split
  .rename_i b
   rw[gN];exact ⟨h,qP,λp c q a=>by rw[dO] at a;subst a;exact λe=>b.2 (e▸c)⟩
  .exact h
def Ny:nZ:=[[(97,97)],[(97,98)],[(97,99)],[(97,100)],[(98,98)],[(98,99)],[(98,100)],[(99,99)],[(99,100)],[(100,100)]]
theorem WA {l:oF} (h:∃lo hi:Int,l=[(lo,hi)]∧97<=lo∧lo<=hi∧hi<=100):l∈Ny:=by
 obtain ⟨lo,hi,rfl,h1,h2,h3⟩:=h;have a:lo=97∨lo=98∨lo=99∨lo=100:=qO
 have b:hi=97∨hi=98∨hi=99∨hi=100:=qO
 rcases a with rfl|rfl|rfl|rfl<;>rcases b with rfl|rfl|rfl|rfl<;>first|(exfalso;omega)|(unfold Ny;simp)
theorem QI:∀(ll:nZ),(∀l∈ll,l∈Ny)->ll.flatten.length=ll.length∧∀s∈ll.flatten,97<=s.1∧s.1<=s.2∧s.2<=100
 | [],_=>⟨O,λs h=>by cases h⟩
 | l::ll,h=>by
  obtain ⟨d,f⟩:=QI ll λx e=>h x (eP _ e);have a:=h l eJ;have c:l.length=1∧∀s∈l,97<=s.1∧s.1<=s.2∧s.2<=100:=by
   unfold Ny at a;simp only[dZ,eY,or_false] at a;rcases a with rfl|rfl|rfl|rfl|rfl|rfl|rfl|rfl|rfl|rfl<;>simp
  refine ⟨by rw[fE,dN,d,c.1,d_];omega,λs hs=>?_⟩;rw[fE] at hs;rcases eC.1 hs with b|b
  .exact c.2 s b
  .exact f s b
theorem YL {ll cs:nZ} (b:∀l∈ll,l∈Ny) (hn:ll.Nodup) (h:Gv ll cs):¬KE cs:=by
 obtain ⟨hfl,a⟩:=QI ll b;have h10:ll.length<=10:=GQ hn b;rintro (⟨c,g,j⟩|j)
 .have:=h.short c g;omega
 .obtain ⟨p,d,hl,_⟩:=h;have f:(DD (p.map (A5 ll))).length<=(p.map (A5 ll)).length:=GQ (O3 _) (Ro _);rw[dW] at f;have e:p.length<=([0,97,98,99,100,101]:oB).length:=GQ (d.1.imp λh=>Int.ne_of_lt h) λk i=>by
   rcases (d.2 k).1 i with rfl|⟨s,hs,h4⟩
   .simp
   .have h5:=a s hs;have:k=97∨k=98∨k=99∨k=100∨k=101:=qO
    rcases this with rfl|rfl|rfl|rfl|rfl<;>simp
  simp at e;omega
theorem Wr {p:Re->Prop} (t:Re):Fa p t↔p t∧∀y∈t.args,Fa p y:=by
 cases t with
 | mk k s a m x g=>
 simp only[Fa];refine and_congr Iff.rfl ?_;show Gy p a↔∀y∈a,Fa p y
 induction a with
 | nil=>simp[Gy]
 | cons z a ih=>simp[Gy,ih]
theorem V_:∀(n:Nat) (t:Re),t.size<=n->Fa (My 8) t->Cu (λs=>s∈Ny) t:=by
 intro n
 induction n with
 | zero=>intro t h;have:=t.size_pos;omega
 | succ n ih=>
 intro t hs h;obtain ⟨b,c⟩:=(Wr t).1 h;refine (Wo t).2 ⟨λd=>WA (b.2.2 d),λy a=>?_⟩;obtain ⟨i,hi⟩:=gF a;have:=Re.size_arg hi;exact ih y qO (c y a)
theorem PX (t:Re):(CU t).Nodup:=Mf _ _ qP
mutual
theorem ND {c:oB} {p:Re->Prop} (b:∀t,p t->c.contains t.kind=false):∀(t:Re),Fa p t->DA c t=false
 | .mk k set args mn mx ng,h=>by
  simp only[Fa] at h;have a:=b _ h.1;simp only[Re.kind] at a;simp only[DA,a,gZ];exact LM b args h.2
theorem LM {b:oB} {p:Re->Prop} (a:∀t,p t->b.contains t.kind=false):∀(ts:List Re),Gy p ts->DH b ts=false
 | [],_=>rfl
 | t::ts,h=>by
  simp only[Gy] at h;simp only[DH,ND a t h.1,LM a ts h.2,Bool.or_self]
end
section
variable {t : Re} {cs : List (List Sp)}
theorem O' (o:∀l∈CU t,BJ l=0) (n:Gv (CU t) cs):(∀r,CJ r=true->∃(k:Nat) (c:oF),Cg cs r=((k:Nat):Int)∧cs[k]?=some c∧∀s∈CU t,Ca s r=Ca s (BH c))∧(∀l∈cs,l≠[]∧CJ (BH l)=true)∧0<cs.length:=by
 have b:=n.parted (WB o);have j:∀r,CJ r=true->∃(k:Nat) (c:oF),Cg cs r=((k:Nat):Int)∧cs[k]?=some c∧∀s∈CU t,Ca s r=Ca s (BH c):=λr a=>by
  unfold CJ at a;rw[dP] at a;have g:=of_decide_eq_true a.1;have m:=of_decide_eq_true a.2;obtain ⟨k,c,p,h,q⟩:=UV b.part g m;exact ⟨k,c,p,h,(T6 _ _ _).1 ((b.mark k c r h g m).1 q)⟩
 refine ⟨j,λl i=>?_,?_⟩
 .have d:=b.low l i;obtain ⟨k,f⟩:=gF i;have hd:=b.heads k (AX f);unfold Ri at hd;refine ⟨λe=>?_,by unfold CJ;rw[dP];exact ⟨decide_eq_true d.1,decide_eq_true d.2⟩⟩;rw[eG,f] at hd;exact hd.1 e
 .obtain ⟨k,c,_,d,_⟩:=j 0 qD;have:=AX d;omega
end
theorem QH {t:Re} (b:Fa (My 8) t):DA [9,10] t=false:=ND (p:=My 8) (λu a=>by have:=a.2.1;simp;omega) t b
theorem KN {t:Re} (a:Fa (My 8) t):∀l∈CU t,BJ l=0:=H' (GK (Rk t a) (QH a))
theorem YM {t:Re} (b:Fa (My 8) t) {cs:nZ} {e:Int} (h:Kx (CU t) cs e):e=0∧Gv (CU t) cs:=by
 have g:=KN b;rcases h with ⟨d,_⟩|⟨_,cs',c,⟨a,_⟩|⟨_,a,f⟩⟩
 .exact absurd (FI g) d
 .exact absurd a (YL (H' (V_ _ _ (dU _) b)) (PX t) c)
 .rw[f];exact ⟨a,c⟩
theorem YN {t:Re} (b:Fa (My 8) t) (hs:t.size<=31):By t 40=0∧Cz t=0:=by
 have a:=Rk t b;refine ⟨(EY qD qD).2 ⟨a,qO⟩,?_⟩;unfold Cz;rw[if_neg (by rw[(EY (t:=t) (most:=300) qD qD).2 ⟨a,qO⟩];decide),if_neg (by rw[QH b];decide)]
theorem T2 {x:Re} (c:Int) (h:x.kind=0):(A_ c x).kind=0:=by
 rw[Uv];simp[h];rfl
theorem T3 {x:Re} (c:Au x) (h:x.kind=0):x.size<=300:=by
 have b:=c.n.none (.inl h);obtain ⟨k,s,a,m,y,g⟩:=x;simp only[Re.args] at b;subst b;simp[Re.size,Re.sizes]
section
variable {cs : List (List Sp)} {t : Re} {L : List Re} {rows : List (List Int)}
theorem TH (h:KZ cs t L rows) (b:∀x∈L,Au x∧x.size<=300):∀(u:oB) (x:Re),(x∈L∨(Au x∧x.kind=0))->(∀c∈u,0<=c∧c<cs.length)->(GV (EU cs) x u).size<=300
 | [],x,a,_=>a.elim (λk=>(b x k).2) λk=>T3 k.1 k.2
 | c::u,x,a,hc=>by
  refine TH h b u (EU cs x c) ?_ λd hd=>hc d (eP _ hd);have hcc:=hc c eJ;rcases a with a|⟨a,o⟩
  .obtain ⟨_,_,n⟩:=Kq h;obtain ⟨i,hi⟩:=eS.1 a;obtain ⟨r,_,_,p⟩:=n i x hi;obtain ⟨m,f⟩:=AU (l:=cs) (i:=c.toNat) qO;obtain ⟨v,_,g⟩:=p c.toNat m f;have e:EU cs x c=A_ (BH m) x:=by unfold EU;rw[eG,f];rfl
   rw[e];rcases g with ⟨g,_⟩|⟨j,_,g⟩
   .exact .inr ⟨Du _ (b x a).1,g⟩
   .exact .inl (dK g)
  .exact .inr ⟨Du _ a,T2 _ o⟩
theorem OD (h:KZ cs t L rows) (a:∀x∈L,Au x∧x.size<=300) {u:oB} (b:∀c∈u,0<=c∧c<cs.length):(GV (EU cs) (CR t) u).size<=300:=
 TH h a u _ (.inl (dK (Kq h).1)) b
end
theorem Uc {α:Type} {D:α->Int->α} {t:α} {k:Int} (h:D t k=t):(matchA D 2 (LzA.zero:LzA α) t [k,k]).made=1∧(matchA D 2 (LzA.zero:LzA α) t [k,k]).n=1:=by
 have c:holdA 2 (LzA.zero:LzA α) t=⟨λx=>False∨x=t,λ_ _=>False,1,0,0⟩:=FY (a:=(LzA.zero:LzA α)) (λf=>f) (by show (0:Nat)≠2;decide);have hd:(LzA.mk (λx=>False∨x=t) (λ_ _=>False) 1 0 0:LzA α).dom t:=.inr O;have d:stepA D 2 (LzA.mk (λx=>False∨x=t) (λ_ _=>False) 1 0 0:LzA α) t k=⟨λx=>False∨x=t,λx y=>False∨(x=t∧y=k),1,Et 0,0⟩:=by
  rw[G3 (λf=>f),h,GD (a:=GR _) hd,Gk (a:=GR _) hd];rfl
 have b:matchA D 2 (LzA.zero:LzA α) t [k,k]=⟨λx=>False∨x=t,λx y=>False∨(x=t∧y=k),1,Et 0,0⟩:=by
  show runA D 2 (stepA D 2 (stepA D 2 (holdA 2 LzA.zero t) t k) (D t k) k) (D (D t k) k) []=_;rw[c,d,h,GM (dG ⟨O,O⟩)];rfl
 rw[b];exact ⟨show Et 0=1 by decide,O⟩
def aT:Re:=.mk 5 [] [.mk 2 [(97,97)] [] 0 0 false] 0 0 false
theorem SB:Fa (My 8) aT:=by
 unfold aT;simp only[Fa,Gy,and_true];exact ⟨⟨qD,qD,λh=>by cases h⟩,qD,qD,λ_=>⟨97,97,O,qD,qD,qD⟩⟩
theorem Z1:CR aT=aT:=by kernel_rfl
theorem Yl:A_ 97 aT=aT:=by kernel_rfl
theorem Ym:CU aT=[[(97,97)]]:=by kernel_rfl
theorem bE {cs:nZ} (g:Gv (CU aT) cs):EU cs aT (Cg cs 97)=aT:=by
 obtain ⟨b,_,_⟩:=O' (KN SB) g;obtain ⟨k,c,e,i,d⟩:=b 97 qD;have f:=d [(97,97)] (by rw[Ym];exact dO.2 O);have a:Ca [(97,97)] (BH c)=true:=f.symm.trans qD;have h:BH c=97:=by
  unfold Ca at a;simp at a;omega
 unfold EU;rw[e,iY,eG,i];show A_ (BH c) aT=aT;rw[h];exact Yl
end Go.Proofs
namespace Go.Proofs
open Go Go.Eng
set_option maxRecDepth 100000
def bl (m:Nat):Nat:=if m=0 then 0 else Nat.log2 m+1
theorem aG (w0:World) (lo hi:Int):Bj prog 77 #[I6 lo,I6 hi] w0 λv w=>v=.agg #[I6 lo,I6 hi]∧Ah w0 w:=by
 refine qR func77 rfl ntmps77 rfl (λE=>(AA (BK (c:=#[(I6 0),(I6 0)]) qD Df rfl ?_)));intro b1 w1 N1;have F1:=N1.ge E;have E:=E.ext N1.ext;have B1:=N1.blk;refine AB (AA (qM _ rfl (qM _ rfl (qV (B0 (ps:=[(0,(I6 lo)),(1,(I6 hi))]) (v:=(.agg #[(I6 lo),(I6 hi)])) rfl qK) (Aa (b:=b1) (o:=0) (c':=#[(I6 lo),(I6 hi)]) rfl rfl qS BL rfl B1 qL rfl ?_)))));intro w2 S2;have E:=S2.step E (by first|exact dH qO|assumption|exact dG rfl|exact dG (by assumption)|exact dG qP|exact dG qO|exact dG (by dsimp only;omega));have B1:=S2.blk;refine AB (AO (A2 results77 (vs:=[(I6 lo),(I6 hi)]) (b:=b1) rfl Dw BL rfl (B1.cells rfl) ?_));exact ⟨rfl,E⟩
theorem Zf (w0:World) (r:Int):Bj prog 30 #[I6 r] w0 λv w=>∃b,v=.agg #[I6 2,.slice (oI b 0) 1 1,.slice none 0 0,I6 0,I6 0,.bool false]∧BP w (.slice (oI b 0) 1 1) [(r,r)]∧Ah w0 w:=by
 refine qR func30 rfl ntmps30 rfl (λE=>(AA (BK (c:=#[(I6 0),(.slice none 0 0),(.slice none 0 0),(I6 0),(I6 0),(.bool false)]) qD A1 rfl ?_)));intro bp wp Np;have Fp:=Np.ge E;have E:=E.ext Np.ext;have Bp:=Np.blk;refine AB (AA (qM _ rfl (qM _ rfl (qE rfl (AS func77 kQ kQ rfl) (aG _ r r) ?_))));rintro _ w9 ⟨rfl,X9⟩;have Bp:=X9.keep Bp;have E:=E.ext X9;refine Aw (ps:=[(0,(.agg #[(I6 r),(I6 r)]))]) (c:=#[(I6 r),(I6 r)]) qD rfl dS BL Df qD qD qK ?_;intro bq wq Nq;have Fq:=Nq.ge E;have Oq_bp:=Nq.lt Bp;have Bp:=Nq.keep Bp;have E:=E.ext Nq.ext;have Bq:=Nq.blk;refine qV (B0 (ps:=[(0,(I6 2)),(1,(.slice (oI bq 0) 1 1))]) (v:=(.agg #[(I6 2),(.slice (oI bq 0) 1 1),(.slice none 0 0),(I6 0),(I6 0),(.bool false)])) rfl qK) (Aa (b:=bp) (o:=0) (c':=#[(I6 2),(.slice (oI bq 0) 1 1),(.slice none 0 0),(I6 0),(I6 0),(.bool false)]) rfl rfl qS AG rfl Bp qL rfl ?_);intro w1 S1;have Bq:=S1.keep qO Bq;have E:=S1.step E (by first|exact dH qO|assumption|exact dG rfl|exact dG (by assumption)|exact dG qP|exact dG qO|exact dG (by dsimp only;omega));have Bp:=S1.blk;refine AB (AO (A2 results30 (vs:=[(I6 2),(.slice (oI bq 0) 1 1),(.slice none 0 0),(I6 0),(I6 0),(.bool false)]) (b:=bp) rfl Ad AG rfl (Bp.cells rfl) ?_));exact ⟨bq,rfl,Od [(r,r)] Bq qP qP,E⟩
theorem Xw (w0:World) (t:Re) (vs:n_) (ht:A3 w0 t vs):Bj prog 29 #[.agg vs.toArray] w0 λv w=>(∃b,v=.agg #[I6 5,.slice none 0 0,.slice (oI b 0) 1 1,I6 0,I6 0,.bool false]∧A3 w (aE t) [I6 5,.slice none 0 0,.slice (oI b 0) 1 1,I6 0,I6 0,.bool false])∧Ah w0 w:=by
 have ae:=ht;obtain ⟨sa,sc,aa,ac,rfl,ad,af,ab⟩:=ht.form;refine qR func29 rfl ntmps29 rfl (λE=>(AA (BC (v:=(.agg (R6 t sa sc aa ac))) (c:=(R6 t sa sc aa ac)) qD rfl rfl ?_)));intro bp wp Np;have Fp:=Np.ge E;have E:=E.ext Np.ext;have Bp:=Np.blk;refine BK (c:=#[(I6 0),(.slice none 0 0),(.slice none 0 0),(I6 0),(I6 0),(.bool false)]) qD A1 rfl ?_;intro bo wo No;have Fo:=No.ge E;have Oo_bp:=No.lt Bp;have Bp:=No.keep Bp;have E:=E.ext No.ext;have Bo:=No.blk;refine AB (AA (qV (AI (vs:=(oJ t sa sc aa ac)) rfl Ad AG rfl (Bp.cells rfl)) (Aw (ps:=[(0,(.agg (R6 t sa sc aa ac)))]) (c:=(R6 t sa sc aa ac)) qD rfl dJ AG A1 qD qD qK ?_)));intro bq wq Nq;have Fq:=Nq.ge E;have Oq_bp:=Nq.lt Bp;have Oq_bo:=Nq.lt Bo;have Bp:=Nq.keep Bp;have Bo:=Nq.keep Bo;have E:=E.ext Nq.ext;have Bq:=Nq.blk;refine qV (B0 (ps:=[(0,(I6 5)),(2,(.slice (oI bq 0) 1 1))]) (v:=(.agg #[(I6 5),(.slice none 0 0),(.slice (oI bq 0) 1 1),(I6 0),(I6 0),(.bool false)])) rfl qK) (Aa (b:=bo) (o:=0) (c':=#[(I6 5),(.slice none 0 0),(.slice (oI bq 0) 1 1),(I6 0),(I6 0),(.bool false)]) rfl rfl qS AG rfl Bo qL rfl ?_);intro w1 S1;have Bp:=S1.keep qO Bp;have Bq:=S1.keep qO Bq;have E:=S1.step E (by first|exact dH qO|assumption|exact dG rfl|exact dG (by assumption)|exact dG qP|exact dG qO|exact dG (by dsimp only;omega));have Bo:=S1.blk;refine AB (AO (A2 results29 (vs:=[(I6 5),(.slice none 0 0),(.slice (oI bq 0) 1 1),(I6 0),(I6 0),(.bool false)]) (b:=bo) rfl Ad AG rfl (Bo.cells rfl) ?_));exact ⟨⟨bq,rfl,A3.of (set:=[]) (args:=[t]) (BX.nil _ _ _ _) qP (.inr ⟨bq,0,rfl,by simp only[CY];exact ⟨⟨_,Bq.cells rfl,A3.ext E t ae⟩,trivial⟩⟩)⟩,E⟩
end Go.Proofs
namespace Go.Eng
open Go
theorem Ln {P:Program} {σ:CZ} {w:World} {ty:TypeId} {pos:String} {af:Array Edge} {g:Option (Nat×Bool)} {t e:TypeId} {x y:Operand} {dst:Option Tmp} {u:Addr} (a:P.underlying t=some (.pointer e)) (b:ev σ x=.pointer (some u)) (c:ev σ y=.pointer none):(execOp (ev σ) ⟨dst,.binOp .eql t x y t,ty,pos,af,g⟩).run P w=.ok (.value (.bool false)) w:=by
 simp only[execOp,b,c,eqGuard,binOp,Op.equal,Op.maxDepth];have h:=Io (P:=P) (w:=w) (u:=u) 9999 a;simp[h]
end Go.Eng
namespace Go.Proofs
open Go Go.Eng Go.Sort
set_option maxRecDepth 100000
theorem Xy (c:World) (t:Re) (vs:n_) (m:Int) (o:A3 c t vs) (f:Fa (My 8) t) (hs:t.size<=31) (hm:1<=m∧m<=100) :
 Bj prog 5 #[.agg vs.toArray,I6 m] c λr w=>(∃(b most:Nat) (cs:nZ),m=((most:Nat):Int)∧c.heap.size<=b∧r=.tuple #[P6 b 0,I6 0]∧Gv (CU t) cs∧LzAt (λy=>c.heap.size<=y∧y≠b) cs w b most (CR t) LzA.zero)∧Ah c w:=by
 refine (Vm c t vs m o).mono λr w ⟨⟨e,cs,i,j⟩,s⟩=>⟨?_,s⟩;obtain ⟨l,g⟩:=YN f hs;rcases i with ⟨a,_⟩|⟨_,a,_⟩|⟨_,_,a,_⟩|⟨_,_,_,a⟩
 .exact absurd l a
 .exact absurd g a
 .omega
 .obtain ⟨q,k⟩:=YM f a;rcases j with ⟨d,_⟩|⟨_,b,most,d,h,n,p⟩
  .exact absurd q d
  .exact ⟨b,most,cs,d,h,n,k,p⟩
theorem Yn (a:World) (vs:n_) (f:A3 a aT vs) :
 Bj prog 5 #[.agg vs.toArray,I6 2] a λr w=>(∃(b:Nat) (cs:nZ),a.heap.size<=b∧r=.tuple #[P6 b 0,I6 0]∧Gv (CU aT) cs∧LzAt (λy=>a.heap.size<=y∧y≠b) cs w b 2 aT LzA.zero)∧Ah a w:=by
 refine (Xy a aT vs 2 f SB qD qD).mono λr w ⟨⟨b,most,cs,h1,e,d,g,c⟩,h⟩=>⟨⟨b,cs,e,d,g,?_⟩,h⟩;obtain rfl:most=2:=qO
 rw[Z1] at c;exact c
theorem SD {cs:nZ} {k:Int} (h:EU cs aT k=aT):∀u:oB,(∀x∈u,x=k)->GV (EU cs) aT u=aT
 | [],_=>rfl
 | x::u,hu=>by
  show GV (EU cs) (EU cs aT x) u=aT;rw[hu x eJ,h];exact SD h u λy a=>hu y (eP _ a)
theorem Ws {S:oD} {cs:nZ} (e:World) (b:Nat) (v:Value) (h:LzAt S cs e b 2 aT LzA.zero) (G:∀y,e.heap.size<=y->S y) (a:Bw e v [97,97]) (D:Dm e) (l:Gv (CU aT) cs) :
 Bj prog 14 #[P6 b 0,v] e λr w=>(r=.tuple #[.bool true,I6 0]∧∃a',LzAt S cs w b 2 aT a'∧a'.made=1∧a'.n=1)∧Chg (λq=>q=b) e w:=by
 obtain ⟨j,g,f⟩:=O' (KN SB) l;have d:=bE l;refine (T7 S cs e b 2 aT LzA.zero v [97,97] h G a D (λr t=>by obtain ⟨k,c,e1,B,_⟩:=j r t;have:=AX B;omega) g f qD qD).mono λr w ⟨bv,ev,a',E,C,s,A⟩=>?_;have i:([97,97]:oB).map (Cg cs)=[Cg cs 97,Cg cs 97]:=rfl;rcases C with ⟨_,_,_,u,_,z,o⟩|⟨F,hb,p⟩
 .rw[SD d u λx a=>by rw[z,i] at a;have:=gP a;simp at this;exact this] at o;exact absurd o qD
 .rw[i,SD d _ (λx a=>by simp at a;exact a)] at hb;rw[i] at p;have m:=Uc d
  rw[<-p] at m;exact ⟨⟨by rw[E,F,hb];rfl,a',s,m⟩,A⟩
theorem P_ (p:World) (B:Dm p):Bj prog 6 #[] p λv w=>v=.bool true∧Ah p w:=by
 refine qR func6 O ntmps6 O (λE=>(AA (qA _ O (AB (AA (qE O (AS func30 kQ kQ O) (Zf _ 97) ?_))))));rintro _ w9 ⟨b,rfl,j,C⟩;refine qE O (AS func29 kQ kQ O) (Xw _ (aM 97) _ (Za j)) ?_;rintro _ w19 ⟨⟨b2,rfl,l⟩,m⟩;have E:=(E.ext C).ext m;have hz19:=E.size;refine qE O (AS func5 kQ kQ O) (Yn _ _ l) ?_;rintro _ w29 ⟨⟨bl,cs,hbl,rfl,A,g⟩,i⟩;have E:=E.ext i;refine qM _ O (qV (BA O O) (qV (BA O O) (qA _ O (qA _ O (AB (AH (AA (qM _ O (qV (Bb O O) (qM _ O (AF O O qD O (qM _ O (AF O O qD O (qV (Ln jT O O) (qV (Af O O) (AB ?_))))))))))))))));have hlz:=g.lt;refine Ae O (AM (AC (AA (qM _ O (Aw (ps:=[(0,(I6 97)),(1,(I6 97))]) (c:=#[(I6 97),(I6 97)]) qD O eA Al Ex qD qD qK ?_)))));intro u wp f;have g:=g.ext f.ext;have E:=E.ext f.ext;have a:=f.blk;have o:=g.mono (S':=λy=>y≠bl) (λy z _=>z.2) (λh=>h O);have hpl:bl<u:=by have:=f.eq;omega
 refine qE O (AS func14 kQ kQ O) (Ws _ bl _ o (λy z=>by have:=a.lt;omega) (FX [97,97] a qP qP) (B.ext E) A) ?_;rintro _ s ⟨⟨rfl,t,k,n,q⟩,e⟩;have a:=e.keep (λh=>by have D:u=bl:=h;omega) a;have E:=E.step e (λx hx h=>by exfalso;have D:x=bl:=h;omega);refine qM _ O (qV (BA O O) (qV (BA O O) (qA _ O (qA _ O (AB (AA (qM _ O (qE O (AS func17 kQ kQ O) ((P7 _ cs _ bl 2 aT t k).mono (R':=λr w=>r=.tuple #[I6 1,I6 t.drops,I6 1]∧Ah s w) (λr w h=>⟨by rw[h.1,n,q];rfl,h.2⟩)) ?_))))))));rintro _ w49 ⟨rfl,d⟩;have a:=d.keep a;have E:=E.ext d;refine qM _ O (qV (BA O O) (qV (BA O O) (qV (BA O O) (qA _ O (qA _ O (qA _ O (AB (AA (qM _ O (qV (Ai O O) (qM _ O (AF O O qD O (qM _ O (qV (Af O O) (qM _ O ?_)))))))))))))));refine AF O O qD O (qM _ O (AF O O qD O (qV (Ai O O) (qV (Af O O) (qM _ O (AF O O qD O (qM _ O (AF O O qD O (qV (Ai O O) (qV (Af O O) (qA _ O (AB (AO (AY results6 (v:=(.bool true)) O ?_))))))))))))));exact ⟨O,E⟩
theorem Xa (b:World) (t:Re) (vs:n_) (m:Nat) (hm:m<=1000000) (f:A3 b t vs) (hs:t.size<=2097152) :
 Bj prog 43 #[.agg vs.toArray,I6 (m:Int)] b λv w=>v=I6 ((min (m+1) t.size:Nat):Int)∧Ah b w:=by
 have e:=f;obtain ⟨sa,sc,aa,ac,rfl,hset,hlen,hargs⟩:=f.form;have a:((EX t).take ((m:Int)+1).toNat).length=min (m+1) t.size:=by rw[gE,En];congr 1
 refine qR func43 O ntmps43 O (λE=>(AA (BC (v:=(.agg (R6 t sa sc aa ac))) (c:=(R6 t sa sc aa ac)) qD O O ?_)));intro b1 w1 h;have E:=E.ext h.ext;have d:=h.blk;refine qA _ O (AB (AA (qV (AI (vs:=(oJ t sa sc aa ac)) O Ad AG O (d.cells O)) (qM _ O (qV (A0 O O (A8 qO)) (qE O (AS func31 kQ kQ O) (Pj _ t _ _ (A3.ext E t e) hs) ?_))))));rintro _ w9 ⟨la,lc,rows,rfl,hsl,hrows,g⟩;have d:=g.keep d;have E:=E.ext g;refine qV (AT dJ O) (qA _ O (AB (AO (AY results43 (v:=(I6 ((((EX t).take ((m:Int)+1).toNat).length:Nat):Int))) O ?_))));exact ⟨by rw[a],E⟩
structure SpSt (wr w:World) (base:Nat) (vo:Value) (vs:n_) (ll:nZ):Prop where
 o:w.ownsRow base PF 1 vo ll.length vs
 len:vs.length=ll.length
 el:∀(i:Nat) u l,vs[i]?=some u->ll[i]?=some l->BP wr u l
theorem SpSt.spss {c w:World} {base:Nat} {vo:Value} {vs:n_} {ll:nZ} (h:SpSt c w base vo vs ll) (e:Ah c w):C0 w vo ll:=by
 refine ⟨vs,?_,h.len,λi u l f d=>(h.el i u l f d).ext e⟩;have b:=h.o;rw[show vs=(vs.map λx=>[x]).flatten by simp[jI,lD]] at b;exact Di b (by intro r a;simp only[eU] at a;obtain ⟨x,_,rfl⟩:=a;rfl) (by simp[h.len]) qD
theorem SpSt.push {d w w':World} {base:Nat} {vo v' u:Value} {vs:n_} {ll:nZ} {l:oF} (h:SpSt d w base vo vs ll) (e:w'.ownsRow base PF 1 v' (ll.length+1) (vs++[u])) (g:BP d u l):SpSt d w' base v' (vs++[u]) (ll++[l]):=by
 refine ⟨by rw[dN];exact e,by simp[h.len],λi x y a b=>?_⟩;rcases eI i vs.length with c|c
 .rw[dQ c] at a;rw[dQ (by have:=h.len;omega)] at b;exact h.el i x y a b
 .rw[dX c] at a;rw[dX (by have:=h.len;omega)] at b;have f:=AX a;simp at f;rw[show i - vs.length=0 by omega] at a;rw[show i - ll.length=0 by have:=h.len;omega] at b;simp at a b;subst a;subst b;exact g
theorem Ud {L:List Re} {k:Nat} {x:Re} (h:L[k]?=some x):(L.take (k+1)).foldl Ez []=Ez ((L.take k).foldl Ez []) x:=by
 rw[eK,h,fL,hZ];rfl
theorem U6 (S:World) (t:Re) (vs:n_) (ht:A3 S t vs) (hs:t.size<=1000) :
 Bj prog 10 #[.agg vs.toArray] S λv w=>C0 w v (CU t)∧Ah S w:=by
 have am:=ht;obtain ⟨sa,sc,aa,ac,rfl,hset,hlen,hargs⟩:=ht.form;refine qR func10 O ntmps10 O (λE=>(AA (BC (v:=(.agg (R6 t sa sc aa ac))) (c:=(R6 t sa sc aa ac)) qD O O ?_)));intro br wr Nr;have E:=E.ext Nr.ext;have Br:=Nr.blk;refine qA _ O (AB (AA (qA _ O (AB (AH (AA (qV (AI (vs:=(oJ t sa sc aa ac)) O Ad AG O (Br.cells O)) (qE O (AS func31 kQ kQ O) (Pj _ t _ _ (A3.ext E t am) qO) ?_))))))));rintro _ I ⟨la,lc,rows,rfl,X,s,X9⟩;have Br:=X9.keep Br;have E:=E.ext X9;obtain ⟨L,hL⟩:∃L,L=EX t:=⟨_,O⟩;have hLl:L.length=t.size:=by rw[hL,En]
 have aj:(EX t).take (1000000:Int).toNat=L:=by rw[hL];exact fK (by rw[En];have:(1000000:Int).toNat=1000000:=rfl;omega)
 rw[aj] at X s⊢;have C:EM I L rows:=EM.ext X9 s;have ag:CU t=L.foldl Ez []:=by rw[hL];rfl
 have d:Chg Aj I I:=Chg.refl _ _;obtain ⟨n1,ae⟩:∃n,n=I.heap.size:=⟨_,O⟩;have hn0:S.heap.size<=n1:=by rw[ae];exact E.size
 refine qV (AT dJ O) (qM _ O (AB (AW (Ax (λnn_ σ F=>∃(k:Nat) (ll:nZ) (T:n_) (oa:oE) (oc:Nat),(∃jj_,σ=BW jj_ [(10,(.slice la L.length lc)),(11,(I6 (L.length:Int))),(12,(I6 (k:Int))),(3,(.slice oa ll.length oc))])∧Chg Aj S F∧Chg Aj I F∧(k<=L.length)∧(ll=(L.take k).foldl Ez [])∧(SpSt I F n1 (.slice oa ll.length oc) T ll)∧(n1<=F.heap.size)∧nn_=L.length - k) (n:=L.length - 0) ?_ ?_))))
 .exact ⟨0,[],[],none,0,oH,E,d,dR _,O,⟨World.ownsRow_nil _ _ _ _,O,λi u l h=>by simp at h⟩,qO,O⟩
 .clear E d;rintro _ _ F ⟨k,ll,T,oa,oc,⟨j1,rfl⟩,E,d,hk1,A,R,hbs,rfl⟩;refine AA (qV (A6 O O) (AB (AH (qC O (λai=>?_) (λai=>?_)))))
  .obtain ⟨x,hx⟩:=AU (l:=L) (i:=k) qO;obtain ⟨r,hr,an⟩:=C.get hx;obtain ⟨b,o,rfl,ao⟩:=BX.at X qO;have af:=(ao k r hr).ext d;obtain ⟨G,J,ya,yc,rfl,q,hxlen,hxargs⟩:=an.form;have hll1:ll.length<=1000:=by have h:=Mh (L.take k) [];rw[<-A] at h;simp at h;omega
   have z:=Ud hx;rw[<-A] at z;have M:=R.o;refine AM (AC (AH (AW (AA (qV (AL (b:=b) (o:=o) (len:=L.length) (cap:=lc) (i:=k) (o':=o+k*6) O O O dJ AG qO qO) (qV (AI O Ad AG O (af)) ?_))))));have e:Chg Aj F F:=Chg.refl _ _;refine As (v:=(.agg (R6 x G J ya yc))) (c:=(R6 x G J ya yc)) (n:=6) qD A1 O AG O O O qS ?_;intro bu wu Nu;have E:=E.ext Nu.ext;have p:=Nu.blk;have d:=d.ext Nu.ext;have e:=e.ext Nu.ext;refine AB (AA (qF bu 0 0 O dI O Al O (qV (AJ O Ag (p.cell O)) (qV (Bb O O) (qA _ O (AB (AH (AA (qM _ O (qV (AT eH O) (qM _ O (AB (AW (Ax (λnn_ σ W3=>∃(j:Nat) (B:Bool),(∃jj_,σ=BW jj_ [(3,(.slice oa ll.length oc)),(5,(P6 bu 0)),(10,(.slice (oI b o) L.length lc)),(11,(I6 (L.length:Int))),(12,(I6 (k:Int))),(19,(.slice oa ll.length oc)),(20,(I6 (ll.length:Int))),(21,(I6 (j:Int))),(6,(.bool B))])∧Chg Aj S W3∧Chg Aj I W3∧Chg Aj F W3∧BV W3 bu (R6 x G J ya yc) 25∧(j<=ll.length)∧(B=(decide (x.kind≠2) || decide (x.set∈ll.take j)))∧nn_=ll.length - j) (n:=ll.length - 0) ?_ ?_))))))))))))))
   .exact ⟨0,decide ((x.kind:Int)≠2),oH,E,d,e,p,dR _,qP,O⟩
   .clear E d e p;rintro _ _ W3 ⟨j,B,⟨j3,rfl⟩,E,d,e,p,hj,hq,rfl⟩;refine AA (qV (A6 O O) (AB (AH (qC O (λV=>?_) (λV=>?_)))))
    .obtain ⟨l,hl⟩:=AU (l:=ll) (i:=j) qO;have ah:=SpSt.spss ⟨(Az M e),R.len,R.el⟩ d;obtain ⟨kb,ko,rfl,ak⟩:=CD ah qO;obtain ⟨ra,rc,K,ab⟩:=ak j l hl;refine AM (AC (AH (AW (AA (qV (AL (b:=kb) (o:=ko) (len:=ll.length) (cap:=oc) (i:=j) (o':=ko+j) O O O eH Bc qO qO) (qV (AJ O Bf (K)) (qA _ O (AB (AN (qM _ O (qM _ O ?_)))))))))));rcases dT (B) with g|g
     .have P:=g;refine AD O O qD (v:=.bool true) (Ar g) (dH O) (AD O O qD (v:=.bool true) (Ar g) (dH O) (AD O O qD (v:=.bool true) (Ar g) (dH O) (AD O O qD (v:=.bool true) (Ar g) (dH O) (qV (Af (v:=(.bool true)) O (by rw[g];rfl)) (qA _ O (AB (AV (AC (AN (qV (A0 O O (A8 qO)) (qM _ O (AB (AC ?_)))))))))))));exact ⟨ll.length - (j+1),qO,j+1,true,oH,E,d,e,p,qO,(by have y:=hq;simp[P] at y⊢;rw[eK,hl];simp;rcases y with y|y;exact .inl y;exact .inr (.inl y)),O⟩
     .have P:=g;refine AF O O qD (Ar g) (qM _ O (AF O O qD (Ar g) (qF bu 0 1 O dI O Bc O (AF O O qD (Ar g) (qV (AJ O Bf (p.cell O)) (AF O O qD (Ar g) (qE O (AS func40 kQ kQ O) (Sf _ _ _ l x.set ab (BX.ext q d)) ?_)))))));rintro _ w19 ⟨rfl,D⟩;have p:=D.keep p;have E:=E.ext D;have d:=d.ext D;have e:=e.ext D;refine qV (Af (v:=(.bool (decide (l=x.set)))) O (by rw[g];rfl)) (qA _ O (AB (AV (AC (AN (qV (A0 O O (A8 qO)) (qM _ O (AB (AC ?_)))))))));exact ⟨ll.length - (j+1),qO,j+1,decide (l=x.set),oH,E,d,e,p,qO,(by have y:=hq;simp[P] at y⊢;rw[eK,hl];simp[y,eq_comm]),O⟩
    .rw[show ll.take j=ll from fK qO] at hq;refine Av (AZ (AZ (Ao (AC (AA (qM _ O (qV (C1 O) (AB (A4 O (λa=>?_) (λa=>?_))))))))))
     .have N:=a;have a:=by simpa using a
      have ar:x.kind=2∧x.set∉ll:=by rw[hq] at a;simpa using a
      refine AN (qM _ O (qF bu 0 1 O dI O Bc O (qV (AJ O Bf (p.cell O)) (Aw (ps:=[(0,(.slice G x.set.length J))]) (c:=#[(.slice G x.set.length J)]) qD O eH Bc Kc qD qD qK ?_))));intro bv wv Z;have p:=Z.keep p;have E:=E.ext Z.ext;have Bv:=Z.blk;have d:=d.ext Z.ext;have e:=e.ext Z.ext;have Q:=Az M e;have hS3:=e.size;refine BQ (base:=n1) (n:=ll.length) (m:=1) (xs:=T) (news:=[(.slice G x.set.length J)]) (size:=1) (bytes:=24) (v:=(.slice oa ll.length oc)) qD eH Bc TU Kc O qD O Q O (O) (Bv.cells O) qS (by unfold maxLen;omega) qO qO ?_;intro v9 w79 U H Dv9;have E:=E.step H (λx hx h=>absurd (Q.lt x h).1 qO);have d:=d.step H (λx hx h=>absurd (Q.lt x h).1 qO);obtain ⟨ap,al,rfl⟩:=BB U;have W:(ll++[x.set]).length=ll.length+1:=qP
      have ad:=R.push U q;rw[<-W] at ad⊢;have f:Ez ll x=ll++[x.set]:=by unfold Ez;rw[if_pos ar]
      refine qA _ O (AB (AV (AC (AN (qV (A0 O O (A8 qO)) (qM _ O (AB (AC ?_))))))));exact ⟨L.length - (k+1),qO,k+1,ll++[x.set],T++[.slice G x.set.length J],ap,al,oH,E,d,qO,(by rw[z,f]),ad,(by have:=H.size;omega),O⟩
     .have N:=a;have a:=by simpa using a
      have f:Ez ll x=ll:=by unfold Ez;rw[if_neg (by rintro ⟨h1,y⟩;rw[hq] at a;simp[h1,y] at a)]
      refine AM (AV (AC (AN (qV (A0 O O (A8 qO)) (qM _ O (AB (AC ?_)))))));exact ⟨L.length - (k+1),qO,k+1,ll,T,oa,oc,oH,E,d,qO,(by rw[z,f]),⟨(Az M e),R.len,R.el⟩,(by have:=e.size;omega),O⟩
  .have aq:L.take k=L:=fK qO;rw[aq,<-ag] at A;refine Av (AZ (AZ (Ao (AC (AA (qM _ O (qA _ O (AB (AO (AY results10 (v:=(.slice oa ll.length oc)) O ?_))))))))));rw[<-A];exact ⟨R.spss d,E⟩
def Z5 (m:Nat) (cs:nZ) (t:Re) (v:Value) (w:World):Prop:=
 (v=.tuple #[.slice none 0 0,.slice none 0 0,I6 2]∧(m=200->Wy cs t))∨
  ∃(L:List Re) (rows:List oB) (la:oE) (lc:Nat) (na:oE) (nc:Nat),v=.tuple #[.slice la L.length lc,.slice na rows.length nc,I6 0]∧Hn w (.slice la L.length lc) L∧Gr w (.slice na rows.length nc) rows∧KZ cs t L rows∧L.length<=m∧(∀x∈L,Au x∧x.size<=300)
def SI (D:Re) (L:List Re) (j:Nat) (z:Int):Prop:=(z = -1∧∀(m:Nat) y,m<j->L[m]?=some y->D.kind=0∨y≠D)∨∃m:Nat,z=m∧m<j∧L[m]?=some D∧D.kind≠0
theorem SI.row {c:Int} {x D:Re} {L:List Re} {row:oB} {z:Int} (l:D=A_ c x) (h:SI D L L.length z) (d:L.Nodup) (g:¬(z<0∧D.kind≠0)):Dc c x (L,row)=(L,row++[z]):=by
 unfold Dc;rw[<-l];by_cases a:D.kind=0
 .rw[if_pos a];rcases h with ⟨h,_⟩|⟨m,_,_,_,h⟩
  .rw[h]
  .exact absurd a h
 .rw[if_neg a];rcases h with ⟨h,_⟩|⟨m,n,h2,b,_⟩
  .exact absurd ⟨qO,a⟩ g
  .rw[if_pos (show (L.any λy=>BU y D)=true from eX.2 ⟨D,dK b,(BY D D).2 O⟩)];have f:Hg (λy=>BU y D) L=z:=by
    rw[GC (p:=λy=>BU y D) (k:=m) b ((BY D D).2 O) λi y hi e=>by
     rw[kR];intro o;have j:=(BY y D).1 o;subst j;have:=(iZ (AX e) d).1 (e.trans b.symm);omega]
    exact n.symm
   show (L,row++[Hg (λy=>BU y D) L])=_;rw[f]
theorem SI.new {c:Int} {x D:Re} {L:List Re} {row:oB} {z:Int} (e:D=A_ c x) (h:SI D L L.length z) (d:z<0∧D.kind≠0):D∉L∧Dc c x (L,row)=(L++[D],row++[((L.length:Nat):Int)]):=by
 have hn:D∉L:=λa=>by
  rcases h with ⟨_,h⟩|⟨m,h1,_⟩
  .obtain ⟨m,a⟩:=eS.1 a;rcases h m D (AX a) a with h|h
   .exact d.2 h
   .exact h O
  .omega
 refine ⟨hn,?_⟩;unfold Dc;rw[<-e,if_neg d.2,if_neg];rw[eX];rintro ⟨y,b,f⟩;rw[(BY y D).1 f] at b;exact hn b
theorem WN (w0:World) (S:Nat→Prop) (t:Re) (vs:n_) (vc:Value) (cs:nZ) (ht:AR S w0 t vs) (hS:∀x,S x→x<w0.heap.size) (hc0:Cz t=0) (hcs:C0 w0 vc cs) (hhd:∀cl∈cs,cl≠[]) (hc16:cs.length≤16) (m:Nat) (hm:1≤m∧m≤200) :
    Bj prog 12 #[.agg vs.toArray,vc,I6 ((m:Nat):Int)] w0 λv w=>Z5 m cs t v w∧Ah w0 w:=by
  have fo:=ht;obtain ⟨sa,sc,aa,ac,rfl,et,en,d7⟩:=ht.form;obtain ⟨ca,cc,rfl,fk,_⟩:=hcs.form;obtain ⟨fn,hsz,hu,dm,b8⟩:=HL hc0;obtain ⟨z0,dx⟩:∃z,z=w0.heap.size:=⟨_,rfl⟩;rw[←dx] at hS;refine qR func12 rfl ntmps12 rfl (λE=>?_);obtain ⟨M,hM⟩:∃M,M=CR t:=⟨_,rfl⟩;refine AA (BC (v:=(.agg (R6 t sa sc aa ac))) (c:=(R6 t sa sc aa ac)) qD rfl rfl ?_);intro br wr Nr;have Fr:=Nr.ge E;have E:=E.ext Nr.ext;have Br:=Nr.blk;refine qA _ rfl (qA _ rfl (qA _ rfl (AB (AA (qV (AI (vs:=(oJ t sa sc aa ac)) rfl Ad AG rfl (Br.cells rfl)) (qE rfl (AS func13 kQ kQ rfl) ((Jz t.size t _ _ S (dU _) qO (K5 fn hu) (AR.ext E t fo) (λy hy=>by have:=hS y hy;have:=E.size;omega)).mono (R':=λr w=>DQ (λb=>S b∨z0≤b) M r w∧Ah _ w) (λr w h=>⟨CI (S':=λb=>S b∨wr.heap.size≤b) (λb hb=>by rcases hb with h1|h1;exact .inl h1;exact .inr (by have:=E.size;omega)) (by rw[hM];exact h.1),h.2⟩)) ?_))))));rintro _ bp ⟨⟨xa,xc,ya,yc,rfl,hR⟩,eg⟩;have Br:=eg.keep Br;have E:=E.ext eg;have E2:Chg Aj bp bp:=Chg.refl _ _;obtain ⟨n1,ds⟩:∃n,n=(bp).heap.size:=⟨_,rfl⟩;have e9:br<n1:=by rw[ds];exact Br.lt
  have e5:z0≤n1:=by rw[ds,dx];exact E.size
  have fe:=AR.lt M hR;have cy:Fam t [M]:=by rw[hM];exact Fam.first dm b8
  have dq:=hcs.ext E;refine Aw (ps:=[(0,(.agg (R6 M xa xc ya yc)))]) (c:=(R6 M xa xc ya yc)) qD rfl dJ AG A1 qD qD qK ?_;intro bq wq Nq;have Fq:=Nq.ge E;have Fq_E2:=Nq.ge E2;have Oq_br:=Nq.lt Br;have Br:=Nq.keep Br;have E:=E.ext Nq.ext;have Bq:=Nq.blk;have E2:=E2.ext Nq.ext;refine qA _ rfl (AB (AA (qA _ rfl (AB (AH (AA (qA _ rfl (AB (AW ?_)))))))));have fj:n1≤bq:=by have:=Nq.eq;omega
  have dn:∀b,(Value.slice (oI bq 0) 1 1).ownBlock=some b→b=bq:=λb hb=>(by simpa[Value.ownBlock] using hb:bq=b).symm;have dh:ListR S z0 n1 wq (.slice (oI bq 0) 1 1) [M] (λb=>(S b∨z0≤b)∧b<n1):=⟨⟨[(oJ M xa xc ya yc)],⟨rfl,.inr ⟨bq,1,_,rfl,fj,Bq,dU _,qD,rfl,rfl⟩⟩,Ap.single (AR.mono (λb hb=>⟨hb.1,qO⟩) M (AR.ext Nq.ext M fe))⟩,λy hy=>⟨hy.1,by have:=Nq.size;omega⟩,λb hb hy=>by have h2:=dn b hb;have h3:=hy.2;omega⟩;have cv:n1≤wq.heap.size:=by have:=Nq.size;omega
  refine Ax (λnn_ σ W1=>∃(i:Nat) (L:List Re) (la:oE) (lc:Nat) (T:Nat→Prop) (vs:n_) (ag:List oB) (na:oE) (nc:Nat),(∃jj_,σ=BW jj_ [(1,(.slice ca cs.length cc)),(2,(I6 (m:Int))),(11,(I6 (i:Int))),(9,(.slice la L.length lc)),(10,(.slice na i nc))])∧Chg Aj w0 W1∧Chg Aj bp W1∧(i≤L.length)∧(ListR S z0 n1 W1 (.slice la L.length lc) L T)∧(LSt Z2 Z3 1 W1 n1 (.slice na i nc) vs (ag.map Rg))∧(ag.length=i)∧(CQ cs t i=(L,ag))∧(∀j,j<i→¬Mj cs t j)∧(∀b,LB (.slice na i nc) vs b→¬T b∧(Value.slice la L.length lc).ownBlock≠some b)∧(Fam t L)∧(L.length≤m)∧(n1≤W1.heap.size)∧nn_=201 - i) (n:=201 - 0) ?_ ?_
  · exact ⟨0,[M],oI bq 0,1,(λb=>(S b∨z0≤b)∧b<n1),[],[],none,0,oH,E,E2,dR _,dh,LSt.start _ _ _ _ _,rfl,(by rw[hM];rfl),(λj h=>absurd h (fU _)),(λb h=>by rcases h with h|⟨i,v,h,_⟩;cases h;simp at h),cy,(by simp;omega),cv,rfl⟩
  · clear E E2;rintro _ _ W1 ⟨i,L,la,lc,T,vs,ag,na,nc,⟨j1,rfl⟩,E,E2,hi,ef,hX,cp,b0,ee,hA,df,es,fp,rfl⟩;refine AH (AA (qM _ rfl (qM _ rfl (qV (AT dJ rfl) (qV (A6 rfl rfl) (AB (qC rfl (λe6=>?_) (λe6=>?_))))))))
    · obtain ⟨x,hx⟩:=AU (l:=L) (i:=i) qO;obtain ⟨cz,eb⟩:=df.ok x (dK hx);have ff:=λb (h:LB (.slice na i nc) vs b)=>(hX.ltB h).2;obtain ⟨nr,ey⟩:∃n,n=(W1).heap.size:=⟨_,rfl⟩;have di:n1≤nr:=by rw[ey];exact fp
      have c3:∀b,LB (.slice na i nc) vs b→b<nr:=λb hb=>by have:=ff b hb;omega
      refine AM (AC (AH (AW (AA (qA _ rfl (AB (AH (AA (qM _ rfl (qV (AT eH rfl) (qM _ rfl (AB (AW (Ax (λnn_ σ W3=>∃(k:Nat) (L1:List Re) (lb:oE) (ld:Nat) (T1:Nat→Prop) (row:oB) (qa:oE) (qc:Nat),(∃jj_,σ=BW jj_ [(1,(.slice ca cs.length cc)),(2,(I6 (m:Int))),(10,(.slice na i nc)),(11,(I6 (i:Int))),(28,(.slice ca cs.length cc)),(29,(I6 (cs.length:Int))),(30,(I6 (k:Int))),(9,(.slice lb L1.length ld)),(12,(.slice qa k qc))])∧Chg Aj w0 W3∧Chg Aj bp W3∧(k≤cs.length)∧(DO (cs.take k) x L=(L1,row))∧(L1[i]?=some x)∧(ListR S z0 n1 W3 (.slice lb L1.length ld) L1 T1)∧(LSt Z2 Z3 1 W3 n1 (.slice na i nc) vs (ag.map Rg))∧(W3.ownsRow nr Z3 1 (.slice qa k qc) k (row.map (Value.int .i64)))∧(∀b,LB (.slice na i nc) vs b→¬T1 b∧(Value.slice lb L1.length ld).ownBlock≠some b)∧(∀b,(Value.slice qa k qc).ownBlock=some b→¬T1 b∧(Value.slice lb L1.length ld).ownBlock≠some b)∧(Fam t L1)∧(∀cl∈cs.take k,(A_ (BH cl) x).size≤300)∧(L1.length≤m+k)∧(nr≤W3.heap.size)∧nn_=cs.length - k) (n:=cs.length - 0) ?_ ?_))))))))))))))
      · exact ⟨0,L,la,lc,T,[],none,0,oH,E,E2,dR _,rfl,hx,ef,hX,World.ownsRow_nil _ _ _ _,hA,(λb h=>by cases h),df,qP,qO,qO,rfl⟩
      · clear E E2;rintro _ _ W3 ⟨k,L1,lb,ld,T1,row,qa,qc,⟨j3,rfl⟩,E,E2,hk,an,bw,ab,ap,av,a7,bo,ce,a8,hl1,ej,rfl⟩;refine AA (qV (A6 rfl rfl) (AB (AH (qC rfl (λc8=>?_) (λc8=>?_)))))
        · obtain ⟨cl,ay⟩:=AU (l:=cs) (i:=k) qO;have ch:=dK ay;have a9:=hhd cl ch;obtain ⟨b2,o2,rfl,ep⟩:=CD dq qO;obtain ⟨ra,rc,cd,c9⟩:=ep k cl ay;obtain ⟨b3,o3,rfl,ek⟩:=BR c9 (gT.2 a9);obtain ⟨s0,fa,fd⟩:∃s0,cl[0]?=some s0∧BH cl=s0.1:=by
            cases cl with
            | nil=>exact absurd rfl a9
            | cons s l=>exact ⟨s,rfl,rfl⟩
          have d3:=gT.2 a9;obtain ⟨D,hD⟩:∃D,D=A_ (BH cl) x:=⟨_,rfl⟩;have fl:D=A_ s0.1 x:=by rw[hD,fd]
          have fg:Au D:=by rw[hD];exact Du _ cz
          have hDz:D.size≤200000:=by rw[hD];exact E5 cz eb
          have aw:=QR (x:=x) (L:=L) ay;rw[an] at aw;have b7:∀(h:D.size≤300),∀cl∈cs.take (k+1),(A_ (BH cl) x).size≤300:=λh c hc=>by
            rw[eK,ay,fL] at hc;rcases eC.1 hc with h1|h1
            · exact a8 c h1
            · rw[dO.1 h1,←hD];exact h
          obtain ⟨lg,rfl,xs,fm,ec⟩:=ab.at bw;have de:=AX bw;have dj:=ec;obtain ⟨c1,dc,c7,dr,rfl,_,_,_⟩:=ec.form;obtain ⟨nw,hnw⟩:∃n,n=(W3).heap.size:=⟨_,rfl⟩;have ba:=λb h=>(ab.t b h).2;have b9:=λb h=>(ab.lt b h).2;have cf:=λb (h:LB (.slice na i nc) vs b)=>(ap.ltB h).2;have bz:=λb h=>(av.lt b h).2;refine AM (AC (AH (AW (AA (qV (AL (b:=b2) (o:=o2) (len:=cs.length) (cap:=cc) (i:=k) (o':=o2+k) rfl rfl rfl eH Bc qO qO) (qV (AJ rfl Bf (E2.cell (λf=>f) cd)) (qA _ rfl (AB ?_))))))));have ei:w0.heap.size≤W3.heap.size:=E.size;refine AH ?_;obtain ⟨e0,ae⟩:∃Fs:(Nat→Prop)→List Fact,Fs=λRR=>[.eq (.slice (oI lg 0) L1.length ld),.eq (I6 (i:Int)),.eq (.pointer (some ⟨lg,0+i*6,none⟩)),.eq (.agg (R6 x c1 dc c7 dr)),.eq (.slice (oI b3 o3) cl.length rc),.eq (.pointer (some ⟨b3,o3+0*2,none⟩)),.eq (.pointer (some ⟨b3,o3+0*2,none⟩)),.eq (I6 s0.1),.gen (DQ RR D) (BD _ _),.gen (OW 25 #[(I6 0),(.slice none 0 0),(.slice none 0 0),(I6 0),(I6 0),(.bool false)] W3.heap.size) (Dv _ _ _),.eq undef]:=⟨_,rfl⟩;refine Ig [true,true,true,true,true,true,true,true,true,true,false] [10] 11 10 [] [34,35,36,37,38,39,40,41,42,15,101] [[],[],[0,1],[2],[],[4],[5],[6],[3,7],[],[]] e0 ae (λb=>T1 b∨nw≤b) (λy hy=>.inr qO) 9 15 (lo:=W3.heap.size) (dU _) rfl rfl (PD.mk' A1 rfl) (λRR=>⟨_,by rw[ae];rfl⟩) (λn=>by rw[ae];repeat (first|exact Cvs.nil|refine Cvs.same ?_|refine Cvs.cons (λv w e h=>by first|exact J5 e h|exact J2 e h|exact IG e h) ?_)) mixed qK qK rfl qK qK qK ?_ ?_ (λh9=>absurd h9 qD)
          · intro wd X0 RR dl dp;refine DagStepsP.cons (λs' w' X U H=>dH ⟨?_,?_⟩) ?_
            · exact AE rfl
            · exact AP (Am (U 9 rfl)) (Ah.refl _) rfl
            refine DagStepsP.cons (λs' w' X U H=>dH ⟨?_,?_⟩) ?_
            · exact AE rfl
            · exact AP (Am (U 11 rfl)) (Ah.refl _) rfl
            refine DagStepsP.cons (λs' w' X U H=>dH ⟨?_,?_⟩) ?_
            · exact AE rfl
            · have e4:s' 34=(.slice (oI lg 0) L1.length ld):=H 0 rfl 34 (.eq (.slice (oI lg 0) L1.length ld)) rfl (by rw[ae];rfl);have fi:s' 35=(I6 ((i:Nat):Int)):=H 1 rfl 35 (.eq (I6 ((i:Nat):Int))) rfl (by rw[ae];rfl);exact AP (AL (i:=i) e4 fi rfl dJ AG qO qO) (Ah.refl _) rfl
            refine DagStepsP.cons (λs' w' X U H=>dH ⟨?_,?_⟩) ?_
            · exact AE rfl
            · have e3:s' 36=(.pointer (some ⟨lg,0+i*6,none⟩)):=H 2 rfl 36 (.eq (.pointer (some ⟨lg,0+i*6,none⟩))) rfl (by rw[ae];rfl);exact AP (AI e3 Ad AG rfl (fm.ext (X0.trans X))) (Ah.refl _) rfl
            refine DagStepsP.cons (λs' w' X U H=>dH ⟨?_,?_⟩) ?_
            · exact AE rfl
            · exact AP (Am (U 14 rfl)) (Ah.refl _) rfl
            refine DagStepsP.cons (λs' w' X U H=>dH ⟨?_,?_⟩) ?_
            · exact AE rfl
            · have e2:s' 38=(.slice (oI b3 o3) cl.length rc):=H 4 rfl 38 (.eq (.slice (oI b3 o3) cl.length rc)) rfl (by rw[ae];rfl);exact AP (AL (i:=0) e2 rfl rfl dS BL qO qO) (Ah.refl _) rfl
            refine DagStepsP.cons (λs' w' X U H=>dH ⟨?_,?_⟩) ?_
            · exact AE rfl
            · have fu:s' 39=(.pointer (some ⟨b3,o3+0*2,none⟩)):=H 5 rfl 39 (.eq (.pointer (some ⟨b3,o3+0*2,none⟩))) rfl (by rw[ae];rfl);exact AP (AQ fu eM rfl Al rfl) (Ah.refl _) rfl
            refine DagStepsP.cons (λs' w' X U H=>dH ⟨?_,?_⟩) ?_
            · exact AE rfl
            · have ez:s' 40=(.pointer (some ⟨b3,o3+0*2,none⟩)):=H 6 rfl 40 (.eq (.pointer (some ⟨b3,o3+0*2,none⟩))) rfl (by rw[ae];rfl);exact AP (AJ ez Ag (((ek 0 s0 fa).ext (Ah.trans E2 (X0.trans X))).at0)) (Ah.refl _) rfl
            refine DagStepsP.cons (λs' w' X U H=>dH ⟨?_,?_⟩) ?_
            · exact AE rfl
            · have fv:s' 37=(.agg (R6 x c1 dc c7 dr)):=H 3 rfl 37 (.eq (.agg (R6 x c1 dc c7 dr))) rfl (by rw[ae];rfl);have eh:s' 41=(I6 s0.1):=H 7 rfl 41 (.eq (I6 s0.1)) rfl (by rw[ae];rfl);exact A7 (AS func42 kQ kQ (F_ fv eh)) ((OE s0.1 _ T1 x _ cz eb (AR.ext (X0.trans X) x dj) (λy hy=>by have:=ba y hy;have:=X0.size;have:=X.size;omega)).mono (λr w h=>⟨by obtain ⟨⟨a1,a2,a3,a4,h5,h6⟩,_⟩:=h;rw[←fl] at h5 h6;exact ⟨a1,a2,a3,a4,h5,AR.mono (λb hb=>by rcases hb with h1|h1;exact dl b (by have:=ba b h1;omega) (.inl h1);exact dp b (by have:=X.size;omega)) D h6⟩,h.2⟩))
            refine DagStepsP.cons (λs' w' X U H=>dH ⟨?_,?_⟩) ?_
            · exact AE rfl
            · exact FM (c:=#[(I6 0),(.slice none 0 0),(.slice none 0 0),(I6 0),(I6 0),(.bool false)]) A1 rfl (by have:=X0.size;have:=X.size;omega)
            refine DagStepsP.tail ?_;exact DagStepsP.nil
          · intro s' w5 RR β X5 U c2 hβ H;obtain ⟨ai,ak,aj,ah,ew,bd⟩:=H 8 rfl 42 (.gen (DQ RR D) (BD _ _)) rfl (by rw[ae];rfl);obtain ⟨a6,ct,ad,g15⟩:=H 9 rfl 15 (.gen (OW 25 #[(I6 0),(.slice none 0 0),(.slice none 0 0),(I6 0),(I6 0),(.bool false)] W3.heap.size) (Dv _ _ _)) rfl (by rw[ae];rfl);have d5:β=a6:=by have h9:=ct.symm.trans hβ;simpa using h9.symm
            rw[d5] at c2;clear hβ d5 β;obtain ⟨j5,rfl⟩:=Ak.out (σ:=s') (l:=[(1,(.slice (oI b2 o2) cs.length cc)),(2,(I6 ((m:Nat):Int))),(9,(.slice (oI lg 0) L1.length ld)),(10,(.slice na i nc)),(11,(I6 ((i:Nat):Int))),(12,(.slice qa k qc)),(28,(.slice (oI b2 o2) cs.length cc)),(29,(I6 ((cs.length:Nat):Int))),(30,(I6 ((k:Nat):Int))),(42,(.agg (R6 D ai ak aj ah))),(15,(P6 a6 0))]) ⟨U 1 rfl,U 2 rfl,U 9 rfl,U 10 rfl,U 11 rfl,U 12 rfl,U 28 rfl,U 29 rfl,U 30 rfl,ew,ct,trivial⟩;clear U H;have ab:=ab.ext X5;have ap:=ap.ext X5;have av:=Az av X5;have E:=E.ext X5;have E2:=E2.ext X5;have ex:nw≤a6:=qO
            refine Aa (b:=a6) (o:=0) (c':=(R6 D ai ak aj ah)) rfl rfl qS AG rfl ad qL rfl ?_;intro w6 S6;have ab:=ab.chg S6.chg (λb hb h=>by have h2:b=_:=h;have:=b9 b hb;omega) (λb hb h=>by have h2:b=_:=h;have:=ba b hb;omega);have ap:=ap.chgB S6.chg λb hb h=>by have h2:b=_:=h;have:=cf b hb;omega
            have av:=CH av S6.chg λb hb h=>by have h2:b=_:=h;have:=bz b hb;omega
            have bd:=AR.chg S6.chg (λy hy h=>by have h2:y=a6:=h;exact (c2 y hy).2 h2) _ bd;have E:=S6.step E (by first|exact dH qO|assumption|exact dG rfl|exact dG (by assumption)|exact dG qP|exact dG qO|exact dG (by dsimp only;omega));have E2:=S6.step E2 (dH qO);have ad:=S6.blk;refine AB (AC (AH (AA (qV (AI (vs:=(oJ D ai ak aj ah)) rfl Ad AG rfl (ad.cells rfl)) (qE rfl (AS func43 kQ kQ rfl) (Xa _ D _ 300 qO (AR.at D bd) qO) ?_)))));rintro _ cn ⟨rfl,bm⟩;have ad:=bm.keep ad;have ab:=ab.ext bm;have ap:=ap.ext bm;have av:=Az av bm;have bd:=AR.ext bm D bd;have E:=E.ext bm;have E2:=E2.ext bm;refine qV (CN rfl rfl) (AB (qC rfl (λhz=>?_) (λhz=>?_)))
            · refine AA (qA _ rfl (qA _ rfl (qA _ rfl (AB (AO (AK (Ac (AK (AK (Ac (AK (Ac (AK (AK (Ac (AK (JZ results12 (v:=(.slice none 0 0)) (v':=(.slice none 0 0)) (v'':=(I6 2)) rfl rfl rfl ?_)))))))))))))))));exact ⟨.inl ⟨rfl,λ_=>MN (k:=0) b0 hx (.inl ⟨cl,ch,by rw[←hD];omega⟩)⟩,E⟩
            · have bf:D.size≤300:=qO
              obtain ⟨n3,eu⟩:∃n,n=(cn).heap.size:=⟨_,rfl⟩;have e1:=ad.lt;have db:=AR.lt D bd;rw[←eu] at db;have E3:Chg Aj cn cn:=Chg.refl _ _;refine AM (AC (AA (qA _ rfl (AB (AH (AA (qM _ rfl (qV (AT dJ rfl) (qM _ rfl (AB (AW (Ax (λnn_ σ W8=>∃(j:Nat) (z:Int),(∃jj_,σ=BW jj_ [(1,(.slice (oI b2 o2) cs.length cc)),(2,(I6 (m:Int))),(9,(.slice (oI lg 0) L1.length ld)),(10,(.slice na i nc)),(11,(I6 (i:Int))),(12,(.slice qa k qc)),(15,(P6 a6 0)),(28,(.slice (oI b2 o2) cs.length cc)),(29,(I6 (cs.length:Int))),(30,(I6 (k:Int))),(46,(.slice (oI lg 0) L1.length ld)),(47,(I6 (L1.length:Int))),(48,(I6 (j:Int))),(16,(I6 z))])∧Chg Aj w0 W8∧Chg Aj bp W8∧Chg Aj cn W8∧BV W8 a6 (R6 D ai ak aj ah) 25∧(j≤L1.length)∧(SI D L1 j z)∧nn_=L1.length - j) (n:=L1.length - 0) ?_ ?_))))))))))))
              · exact ⟨0,-1,oH,E,E2,E3,ad,dR _,.inl ⟨rfl,λm y h=>absurd h (fU _)⟩,rfl⟩
              · clear E E2 E3 ad;rintro _ _ W8 ⟨j,z,⟨j8,rfl⟩,E,E2,E3,ad,hj,b1,rfl⟩;refine AA (qV (A6 rfl rfl) (AB (AH (qC rfl (λcu=>?_) (λcu=>?_)))))
                · obtain ⟨y,hy⟩:=AU (l:=L1) (i:=j) qO;obtain ⟨lg2,c0,ys,fs,dy⟩:=ab.at hy;cases c0;obtain ⟨d0,dw,dz,d8,rfl,_,_,_⟩:=dy.form;have ao:=AR.ext E3 D db;have bg:=AR.mono (S':=λb=>b<n3) (λb hb=>by have:=(ab.t b hb).2;omega) y (AR.ext E3 y dy);refine AM (AC (AH (AW (AA (qM _ rfl (qV (AL (b:=lg) (o:=0) (len:=L1.length) (cap:=ld) (i:=j) (o':=0+j*6) rfl rfl rfl dJ AG qO qO) (qV (AI rfl Ad AG rfl (fs.ext E3)) (BK (c:=#[(I6 0),(.slice none 0 0),(.slice none 0 0),(I6 0),(I6 0),(.bool false)]) qD A1 rfl ?_))))))));intro bv wv Nv;have Fv:=Nv.ge E;have Fv_E2:=Nv.ge E2;have Fv_E3:=Nv.ge E3;have Ov_b15:=Nv.lt ad;have ad:=Nv.keep ad;have ao:=AR.ext Nv.ext D ao;have bg:=AR.ext Nv.ext y bg;have E:=E.ext Nv.ext;have Bv:=Nv.blk;have E2:=E2.ext Nv.ext;have E3:=E3.ext Nv.ext;refine qA _ rfl (Aa (b:=bv) (o:=0) (c':=(R6 y d0 dw dz d8)) rfl rfl qS AG rfl Bv qL rfl ?_);intro w10 bk;have ao:=AR.chg bk.chg (λu hu h=>by have h2:u=bv:=h;have:=hu.2;omega) D ao;have bg:=AR.chg bk.chg (λu hu h=>by have h2:u=bv:=h;have h3:u<n3:=hu;omega) y bg;have ad:=bk.keep qO ad;have E:=bk.step E (by first|exact dH qO|assumption|exact dG rfl|exact dG (by assumption)|exact dG qP|exact dG qO|exact dG (by dsimp only;omega));have E2:=bk.step E2 (dH qO);have E3:=bk.step E3 (dH qO);have Bv:=bk.blk;refine AB (AA (qF _ _ _ rfl dI rfl Al rfl (qV (AJ rfl Ag (ad.cell rfl)) (qV (Bb rfl rfl) (qM _ rfl ?_)))));rcases dT (decide ((D.kind:Int)≠0)) with g1|g1
                  · have bh:=g1;have bh:=of_decide_eq_true bh;refine AF rfl rfl qD (Ar g1) (qV (AI (vs:=(oJ D ai ak aj ah)) rfl Ad AG rfl (ad.cells rfl)) (AF rfl rfl qD (Ar g1) (qV (AI (vs:=(oJ y d0 dw dz d8)) rfl Ad AG rfl (Bv.cells rfl)) (AF rfl rfl qD (Ar g1) (qE rfl (AS func44 kQ kQ rfl) (JJ D.size D y _ _ _ (dU _) (AR.at D ao) (AR.at y bg)) ?_)))));rintro _ w59 ⟨rfl,bb⟩;have ad:=bb.keep ad;have Bv:=bb.keep Bv;have ao:=AR.ext bb D ao;have bg:=AR.ext bb y bg;have E:=E.ext bb;have E2:=E2.ext bb;have E3:=E3.ext bb;refine qV (Af (v:=(.bool (BU D y))) rfl (by rw[g1];rfl)) (AB (A4 rfl (λg2=>?_) (λg2=>?_)))
                    · have fr:=g2;have da:D=y:=(BY D y).1 g2;refine AN (qM _ rfl (qA _ rfl (AB (AV (AC (AN (qV (A0 rfl rfl (A8 qO)) (qM _ rfl (AB (AC ?_))))))))));exact ⟨L1.length - (j+1),qO,j+1,((j:Nat):Int),oH,E,E2,E3,ad,qO,.inr ⟨j,rfl,qO,by rw[da];exact hy,bh⟩,rfl⟩
                    · have fr:=g2;have da:y≠D:=λh=>by rw[h,(BY D D).2 rfl] at g2;cases g2
                      refine AM (AV (AC (AN (qV (A0 rfl rfl (A8 qO)) (qM _ rfl (AB (AC ?_)))))));exact ⟨L1.length - (j+1),qO,j+1,z,oH,E,E2,E3,ad,qO,b1.imp (λh=>⟨h.1,λm u hm hu=>by rcases eI m j with h1|h1;exact h.2 m u h1 hu;obtain rfl:m=j:=qO;rw[hy] at hu;cases hu;exact .inr da⟩) (λh=>by obtain ⟨m,h1,h2,h3⟩:=h;exact ⟨m,h1,qO,h3⟩),rfl⟩
                  · have bh:=g1;have bh:=of_decide_eq_false bh;refine AD rfl rfl qD (v:=.bool false) (Ar g1) (dH rfl) (AD rfl rfl qD (v:=.bool false) (Ar g1) (dH rfl) (AD rfl rfl qD (v:=.bool false) (Ar g1) (dH rfl) (qV (Af (v:=(.bool false)) rfl (by rw[g1];rfl)) (AB (Ae rfl (AM (AV (AC (AN (qV (A0 rfl rfl (A8 qO)) (qM _ rfl (AB (AC ?_)))))))))))));exact ⟨L1.length - (j+1),qO,j+1,z,oH,E,E2,E3,ad,qO,b1.imp (λh=>⟨h.1,λm u hm hu=>.inl (by simpa using bh)⟩) (λh=>by obtain ⟨m,h1,h2,h3⟩:=h;exact ⟨m,h1,qO,h3⟩),rfl⟩
                · have ft:j=L1.length:=qO
                  rw[ft] at b1;have al:=ab.ext E3;have bx:=ap.ext E3;have az:=Az av E3;have ao:=AR.ext E3 D bd;refine Av (AZ (AZ (Ao (AC (AH (AA (qM _ rfl ?_)))))));obtain ⟨ar,ci⟩:∃e,(decide ((z:Int)<0))=e:=⟨_,rfl⟩;refine qV ((A6 rfl rfl).trans (by rw[ci];try rfl)) (qM _ rfl (qG (.bool ar) (yU ar (P6 a6 0)) (by cases ar<;>first|exact gA|exact gB|exact .inl ⟨rfl,AQ rfl dI rfl Al rfl⟩) (qG (.bool ar) (yU ar (I6 D.kind)) (by cases ar<;>first|exact gA|exact gB|exact .inl ⟨rfl,AJ rfl Ag (ad.cell rfl)⟩) ?_)));obtain ⟨d6,cg⟩:∃e,(decide ((D.kind:Int)≠0))=e:=⟨_,rfl⟩;refine qG (.bool ar) (yU ar (.bool d6)) (by cases ar<;>first|exact gA|exact gB|exact .inl ⟨rfl,(Bb rfl rfl).trans (by rw[cg];try rfl)⟩) ?_;obtain ⟨ct,b5⟩:∃e,(ar && d6)=e:=⟨_,rfl⟩;refine qV (Af (v:=.bool ct) rfl (by rw[←b5];cases ar<;>rfl)) (AB ?_);subst b5;subst cg;subst ci;refine A4 rfl (λg3=>?_) (λg3=>?_)
                  · have e8:=g3;have cx:z<0∧D.kind≠0:=by simpa using g3
                    obtain ⟨dv,c5⟩:=SI.new (x:=x) (c:=BH cl) (row:=row) (L:=L1) hD b1 cx;rw[c5] at aw;have ao:=AR.ext E3 D db;refine AA (qM _ rfl (qV (AT dJ rfl) (qA _ rfl (AB (AN (qM _ rfl (qV (AI (vs:=(oJ D ai ak aj ah)) rfl Ad AG rfl (ad.cells rfl)) (Aw (ps:=[(0,(.agg (R6 D ai ak aj ah)))]) (c:=(R6 D ai ak aj ah)) qD rfl dJ AG A1 qD qD qK ?_))))))));intro bu wu Nu;have Fu:=Nu.ge E;have Fu_E2:=Nu.ge E2;have Fu_E3:=Nu.ge E3;have Ou_b15:=Nu.lt ad;have ad:=Nu.keep ad;have al:=al.ext Nu.ext;have bx:=bx.ext Nu.ext;have az:=Az az Nu.ext;have ao:=AR.ext Nu.ext D ao;have E:=E.ext Nu.ext;have Bu:=Nu.blk;have E2:=E2.ext Nu.ext;have E3:=E3.ext Nu.ext;obtain ⟨cb,c6,fq⟩:=al.o;refine BQ (base:=n1) (n:=L1.length) (m:=1) (xs:=cb.flatten) (news:=(oJ D ai ak aj ah)) (size:=6) (bytes:=80) (v:=(.slice (oI lg 0) L1.length ld)) qD dJ AG E0 A1 rfl qD rfl c6 rfl (rfl) (Bu.cells rfl) qS (by unfold maxLen;omega) qO (by rw[ds];exact E2.size) ?_;intro v9 w79 d1 bj c4;have E:=E.step bj (λx hx h=>absurd (c6.lt x h).1 qO);have E2:=E2.step bj (λx hx h=>absurd (c6.lt x h).1 qO);obtain ⟨cj,cm,rfl⟩:=BB d1;have fb:nw≤wu.heap.size:=by have:=E3.size;omega
                    have am:=al.push (n0:=nw) (x:=D) fq (AR.mono (λb hb=>(c2 b hb.1.1).1.imp id (λh=>⟨h,hb.2⟩)) D (AR.lt D ao)) (λb h=>by have:=b9 b h;omega) qO d1 bj c4;have bs:=bx.chgB bj (λb hb h=>(a7 b hb).2 h);have bt:=CH az bj (λb hb h=>(bo b hb).2 h);have cr:∀b,LB (.slice na i nc) vs b→¬(T1 b∨(nw≤b∧b<wu.heap.size))∧(Value.slice cj (L1.length+1) cm).ownBlock≠some b:=λb hb=>by
                      have em:=cf b hb;refine ⟨λh=>?_,λh=>?_⟩
                      · rcases h with h|h
                        · exact (a7 b hb).1 h
                        · omega
                      · rcases c4 b h with h|h
                        · exact (a7 b hb).2 h
                        · omega
                    have du:∀b,(Value.slice qa k qc).ownBlock=some b→¬(T1 b∨(nw≤b∧b<wu.heap.size))∧(Value.slice cj (L1.length+1) cm).ownBlock≠some b:=λb hb=>by
                      have em:=bz b hb;refine ⟨λh=>?_,λh=>?_⟩
                      · rcases h with h|h
                        · exact (bo b hb).1 h
                        · omega
                      · rcases c4 b h with h|h
                        · exact (bo b hb).2 h
                        · omega
                    refine qA _ rfl (AB (AC (AN (qM _ rfl (qM _ rfl (Aw (ps:=[(0,(I6 (L1.length:Int)))]) (c:=#[(I6 (L1.length:Int))]) qD rfl eA Al Ex qD qD qK ?_))))));intro be we Ne;have Fe:=Ne.ge E;have Fe_E2:=Ne.ge E2;have am:=am.ext Ne.ext;have bs:=bs.ext Ne.ext;have bt:=Az bt Ne.ext;have E:=E.ext Ne.ext;have Be:=Ne.blk;have E2:=E2.ext Ne.ext;have aq:=λb h=>(am.t b h).2;have au:=λb h=>(am.lt b h).2;refine BQ (base:=nr) (n:=k) (m:=1) (xs:=row.map (Value.int .i64)) (news:=[(I6 (L1.length:Int))]) (size:=1) (bytes:=8) (v:=(.slice qa k qc)) qD eA Al PA Ex rfl qD rfl bt rfl (rfl) (Be.cells rfl) qS (by unfold maxLen;omega) qO (by have:=E2.size;have:=Ne.ext.size;have:=bj.size;omega) ?_;intro eo co ax af bc;have E:=E.step af (λx hx h=>absurd (bt.lt x h).1 qO);have E2:=E2.step af (λx hx h=>absurd (bt.lt x h).1 qO);obtain ⟨bi,bn,rfl⟩:=BB ax;have a0:=am.chg af (λb hb h=>(du b h).2 hb) (λb hb h=>(du b h).1 hb);have dk:=bs.chgB af (λb hb h=>by have:=c3 b hb;have:=(bt.lt b h).1;omega);have cq:∀b,(Value.slice bi (k+1) bn).ownBlock=some b→¬(T1 b∨(nw≤b∧b<wu.heap.size))∧(Value.slice cj (L1.length+1) cm).ownBlock≠some b:=λb hb=>by
                      rcases bc b hb with h|h
                      · exact du b h
                      · exact ⟨λh2=>by have:=aq b h2;omega,λh2=>by have:=au b h2;omega⟩
                    have e7:(L1++[D]).length=L1.length+1:=qP
                    rw[←e7] at a0 cr cq⊢;have ck:(co).ownsRow nr Z3 1 (.slice bi (k+1) bn) (k+1) ((row++[((L1.length:Nat):Int)]).map (Value.int .i64)):=by rw[eT];exact ax
                    refine qA _ rfl (AB (AV (AC (AN (qV (A0 rfl rfl (A8 qO)) (qM _ rfl (AB (AC ?_))))))));exact ⟨cs.length - (k+1),qO,k+1,L1++[D],cj,cm,(λb=>T1 b∨(nw≤b∧b<wu.heap.size)),row++[((L1.length:Nat):Int)],bi,bn,oH,E,E2,qO,aw,(by rw[dQ de];exact bw),a0,dk,ck,cr,cq,ce.push ⟨fg,bf⟩ dv (λP hP=>by rw[hD];exact KX _ (ce.cl P hP x (dK bw))),b7 bf,qO,(by have:=(ck.lt);have:=E2.size;have:=af.size;have:=Ne.ext.size;have:=bj.size;have:=Nu.ext.size;have:=E3.size;omega),rfl⟩
                  · have e8:=g3;have cx:¬(z<0∧D.kind≠0):=by simpa using g3
                    rw[SI.row hD b1 ce.nd cx] at aw;refine AM (AC (AN (qM _ rfl (qM _ rfl (Aw (ps:=[(0,(I6 z))]) (c:=#[(I6 z)]) qD rfl eA Al Ex qD qD qK ?_)))));intro be we Ne;have Fe:=Ne.ge E;have Fe_E2:=Ne.ge E2;have Fe_E3:=Ne.ge E3;have Oe_b15:=Ne.lt ad;have ad:=Ne.keep ad;have al:=al.ext Ne.ext;have bx:=bx.ext Ne.ext;have az:=Az az Ne.ext;have E:=E.ext Ne.ext;have Be:=Ne.blk;have E2:=E2.ext Ne.ext;have E3:=E3.ext Ne.ext;have aq:=λb h=>(al.t b h).2;have au:=λb h=>(al.lt b h).2;refine BQ (base:=nr) (n:=k) (m:=1) (xs:=row.map (Value.int .i64)) (news:=[(I6 z)]) (size:=1) (bytes:=8) (v:=(.slice qa k qc)) qD eA Al PA Ex rfl qD rfl az rfl (rfl) (Be.cells rfl) qS (by unfold maxLen;omega) qO (by have:=E3.size;have:=Ne.ext.size;omega) ?_;intro eo co ax af bc;have E:=E.step af (λx hx h=>absurd (az.lt x h).1 qO);have E2:=E2.step af (λx hx h=>absurd (az.lt x h).1 qO);obtain ⟨bi,bn,rfl⟩:=BB ax;have a0:=al.chg af (λb hb h=>(bo b h).2 hb) (λb hb h=>(bo b h).1 hb);have dk:=bx.chgB af (λb hb h=>by have:=c3 b hb;have:=(az.lt b h).1;omega);have cq:∀b,(Value.slice bi (k+1) bn).ownBlock=some b→¬T1 b∧(Value.slice (oI lg 0) L1.length ld).ownBlock≠some b:=λb hb=>by
                      rcases bc b hb with h|h
                      · exact bo b h
                      · exact ⟨λh2=>by have:=aq b h2;omega,λh2=>by have:=au b h2;omega⟩
                    have ck:(co).ownsRow nr Z3 1 (.slice bi (k+1) bn) (k+1) ((row++[z]).map (Value.int .i64)):=by rw[eT];exact ax
                    refine qA _ rfl (AB (AV (AC (AN (qV (A0 rfl rfl (A8 qO)) (qM _ rfl (AB (AC ?_))))))));exact ⟨cs.length - (k+1),qO,k+1,L1,oI lg 0,ld,T1,row++[z],bi,bn,oH,E,E2,qO,aw,bw,a0,dk,ck,a7,cq,ce,b7 bf,qO,(by have:=af.size;have:=Ne.ext.size;have:=E3.size;omega),rfl⟩
        · have fh:k=cs.length:=qO
          have fc:row.length=k:=by have h:=Rt (x:=x) (L:=L) hk;rw[an] at h;exact h
          rw[fh,eE] at an a8;refine Av (AZ (AZ (Ao (AC (AH (AA (qM _ rfl (qV (AT dJ rfl) (qM _ rfl (qV (CN rfl rfl) (AB (qC rfl (λcw=>?_) (λcw=>?_)))))))))))))
          · refine AA (qA _ rfl (qA _ rfl (qA _ rfl (AB (AO (AK (Ac (AK (AK (Ac (AK (JZ results12 (v:=(.slice none 0 0)) (v':=(.slice none 0 0)) (v'':=(I6 2)) rfl rfl rfl ?_))))))))))));exact ⟨.inl ⟨rfl,λ_=>MN (k:=cs.length) b0 hx (.inr (by rw[eE,an];simp only;omega))⟩,E⟩
          · have a5:L1.length≤m:=qO
            have b6:=MM b0 hx;rw[an] at b6;have dd:∀j,j<i+1→¬Mj cs t j:=λj hj=>by
              rcases eI j i with h|h
              · exact ee j h
              · obtain rfl:j=i:=qO
                exact Rq b0 hx a8 (by rw[an];exact dL a5 hm.2)
            have hi1:=AX bw;refine AM (AC (AN (qM _ rfl (qM _ rfl (Aw (ps:=[(0,(.slice qa k qc))]) (c:=#[(.slice qa k qc)]) qD rfl lO U3 Yt qD qD qK ?_)))));intro bu wu Nu;have Fu:=Nu.ge E;have Fu_E2:=Nu.ge E2;have ab:=ab.ext Nu.ext;have ap:=ap.ext Nu.ext;have av:=Az av Nu.ext;have E:=E.ext Nu.ext;have Bu:=Nu.blk;have E2:=E2.ext Nu.ext;have dt:=ap.on (n:=i) (by simp[cp]);have aq:=λb h=>(ab.t b h).2;have au:=λb h=>(ab.lt b h).2;refine BQ (base:=n1) (n:=i) (m:=1) (xs:=vs) (news:=[(.slice qa k qc)]) (size:=1) (bytes:=24) (v:=(.slice na i nc)) qD lO U3 a_ Yt rfl qD rfl dt rfl (rfl) (Bu.cells rfl) qS (by unfold maxLen;omega) qO (by have:=Nu.ext.size;omega) ?_;intro v8 co d2 b4 d4;have E:=E.step b4 (λx hx h=>absurd (dt.lt x h).1 qO);have E2:=E2.step b4 (λx hx h=>absurd (dt.lt x h).1 qO);obtain ⟨ea,d9,rfl⟩:=BB d2;have am:=ab.chg b4 (λb hb h=>(a7 b (.inl h)).2 hb) (λb hb h=>(a7 b (.inl h)).1 hb);have bs:=ap.push (n:=i) (by simp[cp]) av di (λb hb=>c3 b (.inl hb)) d2 b4 d4;have cr:∀b,LB (.slice ea (i+1) d9) (vs++[.slice qa k qc]) b→¬T1 b∧(Value.slice lb L1.length ld).ownBlock≠some b:=λb hb=>by
              rcases LB.push (vo:=.slice na i nc) hb with hb|hb|hb
              · rcases d4 b hb with h|h
                · exact a7 b (.inl h)
                · exact ⟨λh2=>by have:=aq b h2;omega,λh2=>by have:=au b h2;omega⟩
              · exact bo b hb
              · exact a7 b hb
            rw[show (ag.map Rg++[(k,row.map (Value.int .i64))])=(ag++[row]).map Rg by simp[Rg,fc]] at bs;refine qA _ rfl (AB (AV (AC (AN (qM _ rfl (qV (A0 rfl rfl (A8 qO)) (qA _ rfl (AB (AC ?_)))))))));exact ⟨201 - (i+1),qO,i+1,L1,lb,ld,T1,vs++[.slice qa k qc],ag++[row],ea,d9,oH,E,E2,qO,am,bs,(by simp[cp]),b6,dd,cr,ce,a5,(by have:=b4.size;have:=Nu.ext.size;omega),rfl⟩
    · have er:i=L.length:=qO
      have dg:KZ cs t L ag:=⟨i,b0,er,ee⟩;have ed:=hX.intss;refine Av (AZ (AZ (Ao (AC (AA (qM _ rfl (qM _ rfl (qA _ rfl (qA _ rfl (qA _ rfl (AB (AO (JZ results12 (v:=(.slice la L.length lc)) (v':=(.slice na i nc)) (v'':=(I6 0)) rfl rfl rfl ?_)))))))))))));rw[←cp] at ed⊢;exact ⟨.inr ⟨L,ag,la,lc,na,nc,rfl,Sg (ef.rs e5),ed,dg,es,df.ok⟩,E⟩
theorem aZ (S:World) (v:Value) (ll:nZ) (h:C0 S v ll) :
 Bj prog 53 #[v] S λr w=>r=I6 (partE ll)∧Ah S w:=by
 obtain ⟨a,c,rfl,_,hle⟩:=h.form;refine qR func53 O ntmps53 O (λE=>(AA (qA _ O (AB (AH (AA (qM _ O (qV (AT eH O) (qV (CN O O) (AB (qC O (λaj=>?_) (λaj=>?_))))))))))))
 .refine AA (qA _ O (AB (AO (AK (AY mB (v:=(I6 2)) O ?_)))));exact ⟨BI (Pq qO).symm,E⟩
 .have t:¬16<ll.length:=qO
  refine AM (AC (AH (AA (qM _ O (qV (AT eH O) (qM _ O (AB (AW (Ax (λnn_ σ W2=>∃(k:Nat),(∃jj_,σ=BW jj_ [(0,(.slice a ll.length c)),(17,(.slice a ll.length c)),(18,(I6 (ll.length:Int))),(19,(I6 (k:Int)))])∧Chg Aj S W2∧(k<=ll.length)∧(∀l∈ll.take k,BJ l=0)∧nn_=ll.length - k) (n:=ll.length - 0) ?_ ?_)))))))))
  .exact ⟨0,oH,E,dR _,qP,O⟩
  .clear E;rintro _ _ W2 ⟨k,⟨j2,rfl⟩,E,hk,V,rfl⟩;refine AA (qV (A6 O O) (AB (AH (qC O (λah=>?_) (λah=>?_)))))
   .obtain ⟨l,B⟩:=AU (l:=ll) (i:=k) qO;obtain ⟨b,o,rfl,D⟩:=CD h qO;obtain ⟨ra,rc,m,C⟩:=D k l B;refine AM (AC (AH (AW (AA (qV (AL (b:=b) (o:=o) (len:=ll.length) (cap:=c) (i:=k) (o':=o+k) O O O eH Bc qO qO) (qV (AJ O Bf (E.cell (λf=>f) m)) (qA _ O (AB (AA (qM _ O (qE O (AS func34 kQ kQ O) (O7 _ _ l (C.ext E)) ?_)))))))))));rintro _ w9 ⟨rfl,X9⟩;have E:=E.ext X9;refine qA _ O (AB (AA (qM _ O (qV (Bb O O) (AB (qC O (λhc=>?_) (λhc=>?_)))))))
    .refine AA (qM _ O (qA _ O (AB (AO (Ac (AK (AK (Ac (AK (AY mB (v:=(I6 (BJ l))) O ?_))))))))));have hb:=Ic V B hc;exact ⟨BI ((Tu t (by rw[hb];exact hc)).trans hb).symm,E⟩
    .refine AM (AV (AC (AN (qV (A0 O O (A8 qO)) (qM _ O (AB (AC ?_)))))));exact ⟨ll.length - (k+1),qO,k+1,oH,E,qO,(λy hy=>by rw[CL B] at hy;rcases eC.1 hy with A|A;exact V y A;rw[dO] at A;subst A;omega),O⟩
   .have am:k=ll.length:=qO
    rw[am,eE] at V;have I:=FI V;have ad:∀l∈ll,Canon l:=λl Q=>(Dd (V l Q)).1;have M:∀s∈ll.flatten,EA s:=λs hs=>by obtain ⟨l,Q,hs⟩:=iA.1 hs;exact (ad l Q).ok s hs
    have hf:=TF V;refine Av (AZ (AZ (Ao (AC (AA (qA _ O (AB (AH (AA (qM _ O (qV (AT eH O) (qM _ O (AB (AW (Ax (λnn_ σ W5=>∃(u:Nat) (la:Int),(∃jj_,σ=BW jj_ [(0,(.slice a ll.length c)),(29,(.slice a ll.length c)),(30,(I6 (ll.length:Int))),(31,(I6 (u:Int))),(6,(I6 la))])∧Chg Aj S W5∧(u<=ll.length)∧(∀j,j<u->Ri ll j)∧(la=Vq ll u)∧nn_=ll.length - u) (n:=ll.length - 0) ?_ ?_)))))))))))))))
    .exact ⟨0,-1,oH,E,dR _,(λj h=>absurd h (fU _)),O,O⟩
    .clear E;rintro _ _ W5 ⟨u,la,⟨j5,rfl⟩,E,hk2,hh,ae,rfl⟩;refine AA (qV (A6 O O) (AB (AH (qC O (λaa=>?_) (λaa=>?_)))))
     .obtain ⟨l,B⟩:=AU (l:=ll) (i:=u) qO;obtain ⟨b,o,rfl,D⟩:=CD h qO;obtain ⟨ra,rc,m,C⟩:=D u l B;have H:=QG (d:=[]) B;refine AM (AC (AH (AW (AA (qV (AL (b:=b) (o:=o) (len:=ll.length) (cap:=c) (i:=u) (o':=o+u) O O O eH Bc qO qO) (qV (AJ O Bf (E.cell (λf=>f) m)) (qA _ O (AB (AH (AA (qM _ O (qV (AT dS O) (qV (Ai O O) (qM _ O ?_))))))))))))));rcases dT (decide ((((l.length:Nat):Int):Int)=0)) with g|g
      .have q:=g;have q:=of_decide_eq_true q;refine AD O O qD (v:=.bool true) (Ar g) (dH O) (AD O O qD (v:=.bool true) (Ar g) (dH O) (AD O O qD (v:=.bool true) (Ar g) (dH O) (AD O O qD (v:=.bool true) (Ar g) (dH O) (AD O O qD (v:=.bool true) (Ar g) (dH O) (AD O O qD (v:=.bool true) (Ar g) (dH O) (qV (Af (v:=(.bool true)) O (by rw[g];rfl)) (AB (Aq O (AA (qA _ O (AB (AO (AK (Ac (AK (AK (Ac (AK (AY mB (v:=(I6 3)) O ?_)))))))))))))))))));exact ⟨BI (I0 t I (Yz (k:=u) qO λhd=>by have A:=hd.1;rw[H] at A;exact A (eD qO))).symm,E⟩
      .have q:=g;have q:=of_decide_eq_false q;have P:l≠[]:=λe=>by subst e;exact q O
       obtain ⟨s1,U,N⟩:=UJ P;obtain ⟨sb,so,rfl,ag⟩:=BR C (by cases l with|nil=>exact absurd rfl P|cons x y=>simp);have hlpos:0<l.length:=AX U;refine AF O O qD (Ar g) (qM _ O (AF O O qD (Ar g) (qV (AL (b:=sb) (o:=so) (len:=l.length) (cap:=rc) (i:=0) (o':=so+0*2) O O O dS BL qO qO) (AF O O qD (Ar g) (qF _ _ _ O eM O Al O (AF O O qD (Ar g) (qV (AJ O Ag (E.cell (λf=>f) (ag 0 s1 U 0 _ O))) (AF O O qD (Ar g) (qM _ O (AF O O qD (Ar g) (qV (ER O O) (qV (Af (v:=(.bool (decide ((s1.1:Int)<=la)))) O (by rw[g];rfl)) (AB (qC O (λal=>?_) (λal=>?_)))))))))))))))
       .refine AA (qA _ O (AB (AO (AK (Ac (AK (AK (Ac (AK (AY mB (v:=(I6 3)) O ?_))))))))));exact ⟨BI (I0 t I (Yz (k:=u) qO λhd=>by have A:=hd.2;rw[H,N,<-ae] at A;omega)).symm,E⟩
       .refine AM (AC (AN (qM _ O (qV (AL (b:=sb) (o:=so) (len:=l.length) (cap:=rc) (i:=0) (o':=so+0*2) O O O dS BL qO qO) (qF _ _ _ O eM O Al O (qV (AJ O Ag (E.cell (λf=>f) (ag 0 s1 U 0 _ O))) (qA _ O (AB (AV (AC (AN (qV (A0 O O (A8 qO)) (qM _ O (AB (AC ?_)))))))))))))));exact ⟨ll.length - (u+1),qO,u+1,s1.1,oH,E,qO,YJ hh ⟨by rw[H];exact P,by rw[H,N,<-ae];omega⟩,(by show s1.1=BH (ll.getD u []);rw[H,N]),O⟩
     .have hk22:u=ll.length:=qO
      have J:I_ ll:=λj hj=>hh j qO;refine Av (AZ (AZ (Ao (AC (AH (AA (qM _ O (qE O (AS func35 kQ kQ O) (Ls _ _ ll (h.ext E) qO M) ?_))))))));rintro _ w9 ⟨⟨p,hP,⟨pa,pc,rfl⟩,K⟩,X9⟩;have E:=E.ext X9;have ab:=VT hP M;have hpl:p.length<=1114112:=K7 hP.1 (λx B=>Cn hP M B);refine qV (AT eA O) (qM _ O (AB (AW (Ax (λnn_ σ W9=>∃(i:Nat),(∃jj_,σ=BW jj_ [(0,(.slice a ll.length c)),(52,(.slice pa p.length pc)),(53,(I6 (p.length:Int))),(54,(I6 (i:Int)))])∧Chg Aj S W9∧(i<=p.length)∧(∀r∈p.take i,ll.countP (λl=>Ca l r)=1)∧(Bw W9 (.slice pa p.length pc) p)∧nn_=p.length - i) (n:=p.length - 0) ?_ ?_))))
      .exact ⟨0,oH,E,dR _,qP,K,O⟩
      .clear E;rintro _ _ W9 ⟨i,⟨j9,rfl⟩,E,hi,F,K,rfl⟩;refine AA (qV (A6 O O) (AB (AH (qC O (λX=>?_) (λX=>?_)))))
       .obtain ⟨x,B⟩:=AU (l:=p) (i:=i) qO;obtain ⟨pb,po,rfl,ak⟩:=CX (l:=p) K qO;refine AM (AC (AH (AW (AA (qV (AL (b:=pb) (o:=po) (len:=p.length) (cap:=pc) (i:=i) (o':=po+i) O O O eA Al qO qO) (qV (AJ O Ag (ak i x B)) (qA _ O (AB (AA (qA _ O (AB (AH (AA (qM _ O (qV (AT eH O) (qM _ O (AB (AW (Ax (λnn_ σ L=>∃(z:Nat) (mn:Nat),(∃jj_,σ=BW jj_ [(0,(.slice a ll.length c)),(10,(I6 x)),(52,(.slice (oI pb po) p.length pc)),(53,(I6 (p.length:Int))),(54,(I6 (i:Int))),(58,(.slice a ll.length c)),(59,(I6 (ll.length:Int))),(60,(I6 (z:Int))),(11,(I6 (mn:Int)))])∧Chg Aj S L∧(z<=ll.length)∧(mn=(ll.take z).countP (λl=>Ca l x))∧(mn<=z)∧(Bw L (.slice (oI pb po) p.length pc) p)∧nn_=ll.length - z) (n:=ll.length - 0) ?_ ?_)))))))))))))))))))
        .exact ⟨0,0,oH,E,dR _,O,dU _,K,O⟩
        .clear E;rintro _ _ L ⟨z,mn,⟨j11,rfl⟩,E,hk3,T,hml,K,rfl⟩;refine AA (qV (A6 O O) (AB (AH (qC O (λaf=>?_) (λaf=>?_)))))
         .obtain ⟨l,Q⟩:=AU (l:=ll) (i:=z) qO;obtain ⟨b,o,rfl,D⟩:=CD h qO;obtain ⟨ra,rc,m,C⟩:=D z l Q;refine AM (AC (AH (AW (AA (qV (AL (b:=b) (o:=o) (len:=ll.length) (cap:=c) (i:=z) (o':=o+z) O O O eH Bc qO qO) (qV (AJ O Bf (E.cell (λf=>f) m)) (qA _ O (AB (AA (qM _ O (qM _ O (qE O (AS func36 kQ kQ O) (JV _ _ l x (C.ext E)) ?_))))))))))));rintro _ w51 ⟨rfl,R⟩;have E:=E.ext R;refine AB (A4 O (λG=>?_) (λG=>?_))
          .have ac:=G;refine AN (qM _ O (qV (A0 (c:=((mn+1:Nat):Int)) O O ((A8 qO).trans qO)) (qA _ O (AB (AV (AC (AN (qV (A0 O O (A8 qO)) (qM _ O (AB (AC ?_)))))))))));exact ⟨ll.length - (z+1),qO,z+1,mn+1,oH,E,qO,(by rw[CL Q,kJ,T];simp[G]),qO,K.ext R,O⟩
          .have ac:=G;refine AM (AV (AC (AN (qV (A0 O O (A8 qO)) (qM _ O (AB (AC ?_)))))));exact ⟨ll.length - (z+1),qO,z+1,mn,oH,E,qO,(by rw[CL Q,kJ,T];simp[G]),qO,K.ext R,O⟩
         .have W:z=ll.length:=qO
          rw[W,eE] at T;refine Av (AZ (AZ (Ao (AC (AA (qM _ O (qV (Bb O O) (AB (qC O (λZ=>?_) (λZ=>?_))))))))))
          .refine AA (qA _ O (AB (AO (Ac (AK (AK (Ac (AK (AY mB (v:=(I6 3)) O ?_)))))))));exact ⟨BI (I0 t I λhq=>by have A:=ab.1 hq.2 x (dK B);omega).symm,E⟩
          .refine AM (AV (AC (AN (qV (A0 O O (A8 qO)) (qM _ O (AB (AC ?_)))))));exact ⟨p.length - (i+1),qO,i+1,oH,E,qO,(λr hr=>by rw[CL B] at hr;rcases eC.1 hr with A|A;exact F r A;rw[dO] at A;subst A;omega),K,O⟩
       .have ai:i=p.length:=qO
        rw[ai,eE] at F;refine Av (AZ (AZ (Ao (AC (AA (qA _ O (AB (AO (AY mB (v:=(I6 0)) O ?_)))))))));exact ⟨BI (Pp t I ⟨J,ab.2 F⟩).symm,E⟩
def Gm (ll:nZ) (x:Int) (k:Nat):oB:=((List.range k).filter λj=>Ca (ll.getD j []) x).map λj=>((j:Nat):Int)
theorem MG (ll:nZ) (x:Int) (k:Nat):Gm ll x (k+1)=Gm ll x k++(if Ca (ll.getD k []) x then [((k:Nat):Int)] else []):=by
 unfold Gm;rw[List.range_succ,jK,eT];congr 1;cases h:Ca (ll.getD k []) x
 .rw[mQ (by rw[h];exact Bool.false_ne_true)];rfl
 .rw[mR (p:=λj=>Ca (ll.getD j []) x) h];rfl
theorem Nw {ll:nZ} {x:Int} (h:ll.countP (λl=>Ca l x)=1):Gm ll x ll.length=[Cg ll x]:=by
 have f:∀n,n<=ll.length->((List.range n).filter λj=>Ca (ll.getD j []) x).length=(ll.take n).countP (λl=>Ca l x):=by
  intro n
  induction n with
  | zero=>intro _;rfl
  | succ n ih=>
   intro hn;obtain ⟨l,c⟩:=AU (l:=ll) (i:=n) qO;rw[List.range_succ,jK,dN,ih qO,CL c,kJ];congr 1;have:ll.getD n []=l:=by simp[List.getD,c]
   cases h:Ca l x<;>simp[h,this,c]
 have e:=f ll.length (dU _);rw[eE,h] at e;obtain ⟨j,k⟩:∃j,((List.range ll.length).filter λj=>Ca (ll.getD j []) x)=[j]:=by
  cases hh:((List.range ll.length).filter λj=>Ca (ll.getD j []) x) with
  | nil=>rw[hh] at e;cases e
  | cons j t=>cases t with
   | nil=>exact ⟨j,O⟩
   | cons a b=>rw[hh] at e;simp at e
 have m:∀i,i∈((List.range ll.length).filter λj=>Ca (ll.getD j []) x)↔i<ll.length∧Ca (ll.getD i []) x=true:=λi=>by rw[List.mem_filter,gJ]
 have d:=(m j).1 (by rw[k];exact eJ);obtain ⟨l,c⟩:=AU d.1;have g:ll.getD j []=l:=by simp[List.getD,c]
 have p:Cg ll x=((j:Nat):Int):=GC c (by rw[<-g];exact d.2) λi y hi o=>by
  cases hc:Ca y x with
  | false=>rfl
  | true=>
   have:=(m i).2 ⟨qO,by simp[List.getD,o,hc]⟩;rw[k,dO] at this;omega
 unfold Gm;rw[k,p];rfl
theorem UI (ll:nZ) (x:Int) (k:Nat):(Gm ll x k).length<=k:=by
 unfold Gm;rw[dW];exact dL (jQ _ _) qP
theorem MH (ll:nZ) (x:Int):∀(d k:Nat),(Gm ll x k).length<=(Gm ll x (k+d)).length
 | 0,k=>dU _
 | d+1,k=>by
  have h1:=MH ll x d k;have a:=MG ll x (k+d);rw[show k+(d+1)=k+d+1 by omega,a,dN];omega
theorem V9 {ll:nZ} {x:Int} (h:Hd ll) (b:0<=x) (c:x<=1114111) {k:Nat} (hk:k<=ll.length):(Gm ll x k).length<=1:=by
 have a:=MH ll x (ll.length - k) k;rw[show k+(ll.length - k)=ll.length by omega,Nw (h x b c)] at a;exact a
theorem UF {l:oF} {r:Int} (h:Canon l) (hi:Ca l r=true):0<=r∧r<=1114111:=by
 obtain ⟨s,hs,h1,h2⟩:=Eu.1 hi;have a:=h.ok s hs;unfold EA at a;omega
theorem Tc {ll:nZ} {t:oB} (h:partE ll≠0):wordE ll t=partE ll∧wordL ll t=[]:=by
 have e:wordE ll t=partE ll:=by unfold wordE;rw[if_pos h]
 exact ⟨e,by unfold wordL;rw[e,if_neg h]⟩
theorem Jt {ll:nZ} {t:oB} (h:partE ll=0) (a:(t.any λr=>!CJ r)=true):wordE ll t=1∧wordL ll t=[]:=by
 have e:wordE ll t=1:=by unfold wordE;rw[if_neg (by simp[h]),if_pos a]
 exact ⟨e,by unfold wordL;rw[e];rfl⟩
theorem PI {ll:nZ} {t:oB} (h:partE ll=0) (a:(t.any λr=>!CJ r)=false):wordE ll t=0∧wordL ll t=t.map (Cg ll):=by
 have e:wordE ll t=0:=by unfold wordE;rw[if_neg (by simp[h]),if_neg (by simp[a])]
 exact ⟨e,by unfold wordL;rw[if_pos e]⟩
def Z4 (base:Nat) (w:World) (r:Value) (out:oB) (e:Int):Prop:=∃a c,r=.tuple #[.slice a out.length c,I6 e]∧Wv w base (.slice a out.length c) out
theorem Y8 (K:World) (v u:Value) (ll:nZ) (t:oB) (h:C0 K v ll) (ht:Bw K u t) (hb:t.length<=17592186044415) :
 Bj prog 15 #[v,u] K λr w=>Z4 K.heap.size w r (wordL ll t) (wordE ll t)∧Ah K w:=by
 obtain ⟨a,c,rfl,_,hle⟩:=h.form;obtain ⟨ta,tc,rfl⟩:=BX.form ht;simp only[dW] at ht⊢;obtain ⟨base,M⟩:∃base,base=K.heap.size:=⟨_,O⟩;rw[<-M];refine qR func15 O ntmps15 O (λE=>(AA (qA _ O (qA _ O (AB (AH (AA (qM _ O (qE O (AS func53 kQ kQ O) (aZ _ _ ll h) ?_)))))))));rintro _ w9 ⟨rfl,X9⟩;have E:=E.ext X9;refine qA _ O (AB (AA (qM _ O (qV (Bb O O) (AB (qC O (λhp=>?_) (λhp=>?_)))))))
 .refine AA (qM _ O (qA _ O (qA _ O (AB (AO (AK (CA results15 (v:=(.slice none 0 0)) (v':=(I6 (partE ll))) O O ?_)))))));obtain ⟨P,N⟩:=Tc (t:=t) hp;rw[P,N];exact ⟨⟨none,0,O,⟨_,_,O⟩,World.ownsRow_nil _ _ _ _⟩,E⟩
 .have G:partE ll=0:=qO
  obtain ⟨hl16,ad,hheads,C⟩:=RJ G;refine AM (AC (AA (qA _ O (AB (AH (AA (qM _ O (qV (AT eA O) (qM _ O (AB (AW (Ax (λnn_ σ W2=>∃(i:Nat) (J:oE) (I n:Nat),(∃jj_,σ=BW jj_ [(0,(.slice a ll.length c)),(17,(.slice ta t.length tc)),(18,(I6 (t.length:Int))),(19,(I6 (i:Int))),(7,(.slice J n I))])∧Chg Aj K W2∧(i<=t.length)∧(∀r∈t.take i,CJ r=true)∧(n=i)∧(W2.ownsRow base Qt 1 (.slice J n I) n (((t.take i).map (Cg ll)).map (Value.int .i64)))∧(base<=W2.heap.size)∧nn_=t.length - i) (n:=t.length - 0) ?_ ?_))))))))))))
  .exact ⟨0,none,0,0,oH,E,dR _,qP,O,World.ownsRow_nil _ _ _ _,(by have:=E.size;omega),O⟩
  .clear E;rintro _ _ W2 ⟨i,J,I,n,⟨j2,rfl⟩,E,hi,s,hn,D,af,rfl⟩;refine AA (qV (A6 O O) (AB (AH (qC O (λab=>?_) (λab=>?_)))))
   .obtain ⟨x,S⟩:=AU (l:=t) (i:=i) qO;obtain ⟨tb,to,rfl,ak⟩:=CX ht qO;refine AM (AC (AH (AW (AA (qV (AL (b:=tb) (o:=to) (len:=t.length) (cap:=tc) (i:=i) (o':=to+i) O O O eA Al qO qO) (qV (AJ O Ag (E.cell (λf=>f) (ak i x S))) (qA _ O (AB (AH (AA (qM _ O (qV (AT eH O) (qM _ O (AB (AW (Ax (λnn_ σ W4=>∃(k:Nat) (A:oE) (y F:Nat),(∃jj_,σ=BW jj_ [(0,(.slice a ll.length c)),(9,(I6 x)),(17,(.slice (oI tb to) t.length tc)),(18,(I6 (t.length:Int))),(19,(I6 (i:Int))),(23,(.slice a ll.length c)),(24,(I6 (ll.length:Int))),(25,(I6 (k:Int))),(7,(.slice A F y))])∧Chg Aj K W4∧(k<=ll.length)∧(F=i+(Gm ll x k).length)∧(W4.ownsRow base Qt 1 (.slice A F y) F (((t.take i).map (Cg ll)++Gm ll x k).map (Value.int .i64)))∧(base<=W4.heap.size)∧nn_=ll.length - k) (n:=ll.length - 0) ?_ ?_))))))))))))))))
    .exact ⟨0,J,I,n,oH,E,dR _,(by rw[hn];rfl),(by rw[show Gm ll x 0=[] from O,gD];exact D),af,O⟩
    .clear E;rintro _ _ W4 ⟨k,A,y,F,⟨j4,rfl⟩,E,hk,B,e,j,rfl⟩;refine AA (qV (A6 O O) (AB (AH (qC O (λW=>?_) (λW=>?_)))))
     .obtain ⟨l,hl⟩:=AU (l:=ll) (i:=k) qO;obtain ⟨b,o,rfl,ae⟩:=CD h qO;obtain ⟨ra,rc,R,aa⟩:=ae k l hl;have aj:=QG (d:=[]) hl;have z:=MG ll x k;rw[aj] at z;have hhl:=UI ll x k;refine AM (AC (AH (AW (AA (qM _ O (qV (AL (b:=b) (o:=o) (len:=ll.length) (cap:=c) (i:=k) (o':=o+k) O O O eH Bc qO qO) (qV (AJ O Bf (E.cell (λf=>f) R)) (qA _ O (qA _ O (AB (AA (qM _ O (qM _ O (qE O (AS func36 kQ kQ O) (JV _ _ l x (aa.ext E)) ?_))))))))))))));rintro _ w51 ⟨rfl,Q⟩;have e:=Az e Q;have j:=dL j Q.size;have E:=E.ext Q;refine AB (A4 O (λq=>?_) (λq=>?_))
      .have Z:=q;obtain ⟨ac,ag⟩:=UF (Dd (Qn ad l (dK hl))).1 q;have L:=V9 C ac ag (k:=k+1) qO;rw[z,q,if_pos O,dN] at L;rw[jP] at L;refine AN (qM _ O (qM _ O (Aw (ps:=[(0,(I6 (k:Int)))]) (c:=#[(I6 (k:Int))]) qD O eA Al Ex qD qD qK ?_)));intro b7 w7 N7;have e:=Az e N7.ext;have j:=dL j N7.ext.size;have E:=E.ext N7.ext;have B7:=N7.blk;refine BQ (base:=base) (n:=F) (m:=1) (xs:=(((t.take i).map (Cg ll)++Gm ll x k).map (Value.int .i64))) (news:=[(I6 (k:Int))]) (size:=1) (bytes:=8) (v:=(.slice A F y)) qD eA Al PA Ex O qD O e O (O) (B7.cells O) qS (by unfold maxLen;omega) qO (j) ?_;intro v7 w59 T U Dv7;have E:=E.step U (λx S h=>absurd (e.lt x h).1 qO);obtain ⟨al,ai,rfl⟩:=BB T;refine qA _ O (AB (AV (AC (AN (qV (A0 O O (A8 qO)) (qM _ O (AB (AC ?_))))))));exact ⟨ll.length - (k+1),qO,k+1,al,ai,F+1,oH,E,qO,(by rw[z,q,if_pos O,dN,B];rfl),(by rw[z,q,if_pos O,<-eW,eT];exact T),dL j U.size,O⟩
      .have Z:=q;refine AM (AV (AC (AN (qV (A0 O O (A8 qO)) (qM _ O (AB (AC ?_)))))));exact ⟨ll.length - (k+1),qO,k+1,A,y,F,oH,E,qO,(by rw[z,q,if_neg qP,gD,B]),(by rw[z,q,if_neg qP,gD];exact e),j,O⟩
     .have ah:k=ll.length:=qO
      rw[ah] at B e;refine Av (AZ (AZ (Ao (AC (AA (qM _ O (qV (A6 O O) (qM _ O ?_))))))));rcases dT (decide ((x:Int)<0)) with g|g
      .have p:=g;have p:=of_decide_eq_true p;refine AD O O qD (v:=.bool true) (Ar g) (dH O) (AD O O qD (v:=.bool true) (Ar g) (dH O) (qV (Af (v:=(.bool true)) O (by rw[g];rfl)) (AB (Aq O (AA (qA _ O (qA _ O (AB (AO (Ac (AK (AK (Ac (AK (CA results15 (v:=(.slice none 0 0)) (v':=(I6 1)) O O ?_)))))))))))))));obtain ⟨P,N⟩:=Jt (t:=t) G (by rw[eX];exact ⟨x,dK S,by unfold CJ;rw[decide_eq_false qO];rfl⟩);rw[P,N];exact ⟨⟨none,0,O,⟨_,_,O⟩,World.ownsRow_nil _ _ _ _⟩,E⟩
      .have p:=g;have p:=of_decide_eq_false p;refine AF O O qD (Ar g) (qM _ O (AF O O qD (Ar g) (qV (CN O O) (qV (Af (v:=(.bool (decide ((1114111:Int)<x)))) O (by rw[g];rfl)) (AB (qC O (λX=>?_) (λX=>?_)))))))
       .refine AA (qA _ O (qA _ O (AB (AO (Ac (AK (AK (Ac (AK (CA results15 (v:=(.slice none 0 0)) (v':=(I6 1)) O O ?_))))))))));obtain ⟨P,N⟩:=Jt (t:=t) G (by rw[eX];exact ⟨x,dK S,by unfold CJ;rw[decide_eq_false (show ¬x<=1114111 by omega),Bool.and_false];rfl⟩);rw[P,N];exact ⟨⟨none,0,O,⟨_,_,O⟩,World.ownsRow_nil _ _ _ _⟩,E⟩
       .have V:=Nw (C x qO qO);rw[V] at B e;refine AM (AV (AC (AN (qV (A0 O O (A8 qO)) (qM _ O (AB (AC ?_)))))));exact ⟨t.length - (i+1),qO,i+1,A,y,F,oH,E,qO,(λr hr=>by rw[CL S] at hr;rcases eC.1 hr with h1|h1;exact s r h1;rw[dO] at h1;rw[h1];unfold CJ;rw[decide_eq_true qO,decide_eq_true qO];rfl),(by simpa using B),(by rw[CL S,eT];exact e),j,O⟩
   .have H:i=t.length:=qO
    rw[H,eE] at s D;refine Av (AZ (AZ (Ao (AC (AA (qM _ O (qA _ O (qA _ O (AB (AO (CA results15 (v:=(.slice J n I)) (v':=(I6 0)) O O ?_)))))))))));obtain ⟨P,N⟩:=PI (t:=t) G (by rw[kP];intro r hr;rw[s r hr];decide);have hO:Wv _ base (.slice J n I) (t.map (Cg ll)):=⟨⟨J,I,by rw[dW];congr 1;omega⟩,by rw[dW,<-H,<-hn];exact D⟩;rw[P,N];exact ⟨⟨J,I,by rw[dW,<-H,<-hn],by rw[dW,<-H,<-hn];exact hO⟩,E⟩
end Go.Proofs
namespace Go.Eng
open Go
theorem G' {P:Program} {σ:CZ} {w:World} {ty:TypeId} {pos:String} {af:Array Edge} {g:Option (Nat×Bool)} {t e:TypeId} {x y:Operand} {dst:Option Tmp} {o:Option Nat} (b:P.underlying t=some (.pointer e)) (a:ev σ x=ED o) (c:ev σ y=.pointer none):(execOp (ev σ) ⟨dst,.binOp .eql t x y t,ty,pos,af,g⟩).run P w=.ok (.value (.bool o.isNone)) w:=by
 cases o with
 | none=>
  simp only[execOp,a,c,ED,eqGuard,binOp,Op.equal,Op.maxDepth,mV];have h:=Hi (P:=P) (w:=w) (v:=none) 9999 b;simp[h]
 | some q=>exact Ln b a c
end Go.Eng
namespace Go.Proofs
open Go Go.Eng Go.Sort
set_option maxRecDepth 100000
theorem LzAt.chgU {S U:oD} {cs:nZ} {w w':World} {b most:Nat} {f:Re} {a:LzA Re} (h:LzAt S cs w b most f a) (c:Chg U w w') (d:∀q,U q->¬S q∧q≠b∧Fy w q):LzAt S cs w' b most f a:=by
 obtain ⟨l,j,m,g,i,cc,mb,L,r,k,o⟩:=h.mem;exact ⟨⟨l,j,m,g,i,cc,mb,L,c.keep (λe=>(d b e).2.1 O) r,k.chg c (λy n _ e=>(d y e).1 n) (λe=>k.hd.map.no (d mb e).2.2) (λx p e=>(k.hd.cel x p).nx.no (d x.nb e).2.2),o⟩,h.nb,h.fo,h.fz,h.ok,h.mo⟩
theorem JS {t:Re} {m e g f j:Int} {cs cs2:nZ} (k:Wx t m e cs) (d:g=if By t 40=0 then Cz t else By t 40) (c:f=if g=0∧(m<1∨100<m) then 1 else g) (a:(f≠0∧j=f∧cs2=[])∨(f=0∧Kx (CU t) cs2 j)):e=j∧(e=0->By t 40=0∧Cz t=0∧Kx (CU t) cs 0∧cs2=cs):=by
 rcases k with ⟨b,hb⟩|⟨b,hb,i⟩|⟨b,hb,i,hd⟩|⟨b,hb,i,hd⟩
 .rw[if_neg b] at d;rw[if_neg qO] at c;rcases a with ⟨_,a,_⟩|⟨a,_⟩
  .exact ⟨qO,λh=>qO⟩
  .omega
 .rw[if_pos b] at d;rw[if_neg qO] at c;rcases a with ⟨_,a,_⟩|⟨a,_⟩
  .exact ⟨qO,λh=>qO⟩
  .omega
 .rw[if_pos b] at d;rw[if_pos ⟨qO,i⟩] at c;rcases a with ⟨_,a,_⟩|⟨a,_⟩
  .exact ⟨qO,λh=>qO⟩
  .omega
 .rw[if_pos b] at d;rw[if_neg qO] at c;rcases a with ⟨a,_⟩|⟨_,a⟩
  .omega
  .obtain ⟨n,l⟩:=hd.uniq a;exact ⟨n,λh=>⟨b,hb,h▸hd,l.symm⟩⟩
theorem RepH.zero:RepH [] [] (LzA.zero:LzA Re):=⟨λt=>⟨λh=>h.elim,λh=>by cases h⟩,λi t r h=>by simp at h,λt c h=>h.elim,O,O,g_⟩
def Y6 (cs:nZ) (most:Nat) (f:Re) (tx:oB) (a:LzA Re) (bv:Bool) (ev:Int) (a':LzA Re):Prop:=
 (1000<tx.length∧bv=false∧ev=2∧a'=a)∨(tx.length<=1000∧tx.all CJ=false∧bv=false∧ev=1∧a'=a)∨(tx.length<=1000∧tx.all CJ=true∧bv=BN (GV (EU cs) f (tx.map (Cg cs)))∧ev=0∧a'=matchA (EU cs) most a f (tx.map (Cg cs)))
theorem Xx (S:oD) (cs:nZ) (d:World) (b most:Nat) (f:Re) (a:LzA Re) (v:Value) (x:oB) (h:LzAt S cs d b most f a) (F:Bw d v x) (I:Dm d)
 (k:∀r,CJ r=true->0<=Cg cs r∧Cg cs r<cs.length) (p:∀l∈cs,l≠[]∧CJ (BH l)=true) (j:0<cs.length) (t:∀u:oB,(∀c∈u,0<=c∧c<cs.length)->(GV (EU cs) f u).size<=300) :
 Bj prog 14 #[P6 b 0,v] d λr w=>(∃(C:Bool) (ev:Int) (a':LzA Re),r=.tuple #[.bool C,I6 ev]∧Y6 cs most f x a C ev a'∧LzAt (λy=>S y∨(d.heap.size<=y∧y<w.heap.size)) cs w b most f a')∧Chg (λq=>q=b) d w:=by
 have n:=h.nb;have hlt:=h.lt;have E:∀{w:World} {a':LzA Re},LzAt S cs w b most f a'->LzAt (λy=>S y∨(d.heap.size<=y∧y<w.heap.size)) cs w b most f a':=λJ=>J.mono (λy A _=>.inl A) (λm=>m.elim n qO);refine (P8 S cs d b most f a v x h F I k p j).mono λr w L=>?_;rcases L with ⟨⟨g,e⟩,i⟩|⟨⟨g,e,o⟩,i⟩|⟨⟨g,e,o,u,hu1,z,hu3⟩,i⟩|⟨⟨g,e,o⟩,G,K⟩
 .exact ⟨⟨_,_,a,e,.inl ⟨g,O,O,O⟩,E (h.ext i)⟩,i.mono λ_ _ f=>f.elim⟩
 .exact ⟨⟨_,_,a,o,.inr (.inl ⟨g,e,O,O,O⟩),E (h.ext i)⟩,i.mono λ_ _ f=>f.elim⟩
 .have:=t u λc B=>by
   rw[z] at B;obtain ⟨D,s,rfl⟩:=eU.1 (gP B);exact k D (fM.1 e D s)
  omega
 .exact ⟨⟨_,_,_,o,.inr (.inr ⟨g,e,O,O,O⟩),G.mono (λy A H=>A.imp id λm=>⟨m,H⟩) (λm=>m.elim n qO)⟩,K⟩
theorem VS {cs:nZ} {most:Nat} {f:Re} {b:oB} {a a':LzA Re} {k:Bool} {ev:Int} (h:Y6 cs most f b a k ev a') (l:partE cs=0):ev=(if 1000<b.length then 2 else wordE cs b)∧(ev=0->b.length<=1000∧(∀x∈b,CJ x=true)∧wordL cs b=b.map (Cg cs)∧k=BN (GV (EU cs) f (b.map (Cg cs)))∧a'=matchA (EU cs) most a f (b.map (Cg cs)))∧(ev≠0->k=false∧a'=a):=by
 rcases h with ⟨g,c,e,d⟩|⟨g,c,e,d,i⟩|⟨g,c,e,d,i⟩
 .exact ⟨by rw[if_pos g,e],λj=>qO,λ_=>⟨c,d⟩⟩
 .refine ⟨?_,λj=>qO,λ_=>⟨e,i⟩⟩;rw[if_neg qO,d,(Jt l (by rw[kO] at c;simpa using c)).1]
 .have n:(b.any λr=>!CJ r)=false:=by rw[kO] at c;simpa using c
  obtain ⟨m,o⟩:=PI l n;exact ⟨by rw[if_neg qO,m,d],λ_=>⟨g,fM.1 c,o,e,i⟩,λj=>absurd d j⟩
theorem UT {t:Re} {cs:nZ} (a:∀l∈CU t,BJ l=0) (h:Kx (CU t) cs 0):Gv (CU t) cs∧partE cs=0∧cs.length<=16:=by
 obtain ⟨g,j⟩:=Ya h a O;have d:=g.parted (WB a);refine ⟨g,Pp qO (FI λc f=>UX (d.can c f) ?_) ⟨d.heads,d.part⟩,j⟩;rcases h with ⟨_,e,_⟩|⟨_,cs',hc',⟨_,e,_⟩|⟨b,_,rfl⟩⟩
 .exact absurd (FI a) qO
 .cases e
 .exact Nat.le_of_not_lt λi=>b (.inl ⟨c,f,i⟩)
theorem Xt {d w:World} {t:Re} {m:Int} {r:Value} (h:∃e cs,Wx t m e cs∧((e≠0∧r=.tuple #[.pointer none,I6 e])∨
 (e=0∧∃(b most:Nat),m=((most:Nat):Int)∧d.heap.size<=b∧r=.tuple #[P6 b 0,I6 0]∧LzAt (λy=>d.heap.size<=y∧y≠b) cs w b most (CR t) LzA.zero))) :
 ∃(e:Int) (cs:nZ) (o:Option Nat),r=.tuple #[ED o,I6 e]∧Wx t m e cs∧((e≠0∧o=none)∨(e=0∧∃b most:Nat,o=some b∧m=((most:Nat):Int)∧d.heap.size<=b))∧∀b most:Nat,o=some b->m=((most:Nat):Int)->LzAt (λy=>d.heap.size<=y∧y≠b) cs w b most (CR t) LzA.zero:=by
 obtain ⟨e,cs,g,⟨c,f⟩|⟨c,b,most,f,l,k,i⟩⟩:=h
 .exact ⟨e,cs,none,f,g,.inl ⟨c,O⟩,λb most h=>by cases h⟩
 .refine ⟨e,cs,some b,by rw[k,c];rfl,g,.inr ⟨c,b,most,O,f,l⟩,λb' a j e2=>?_⟩;cases j;obtain rfl:most=a:=qO
  exact i
theorem P' (w0:World) (hP:Dm w0) (t:Re) (vs:n_) (m:Int) (v3:Value) (tt:List oB) (ht:A3 w0 t vs) (h3:Gr w0 v3 tt) (hs:t.size<=2097152) (hbt:tt.flatten.length+tt.length<=1048576) :
 Bj prog 3 #[.agg vs.toArray,I6 m,v3] w0 λv w=>v=.bool true∧Ah w0 w:=by
 have a1:=ht;have cw:=AR.mono (S':=λy=>y<w0.heap.size) (λ_ h=>h.2) t (AR.lt t (AR.of_at t ht));obtain ⟨sa,sc,aa,ac,rfl,_,_,_⟩:=ht.form;obtain ⟨a3,c3,rfl,hlen3,hmax3⟩:=h3.form;refine qR func3 O ntmps3 O (λE=>(AA (BC (v:=(.agg (R6 t sa sc aa ac))) (c:=(R6 t sa sc aa ac)) qD O O ?_)));intro br wr Nr;have E:=E.ext Nr.ext;have J:=Nr.blk;refine qA (.bool false) O (AB (AA (qV (AI (vs:=(oJ t sa sc aa ac)) O Ad AG O (J.cells O)) (qM (I6 m) O ?_))));obtain ⟨n0,b0⟩:∃n,n=(wr).heap.size:=⟨_,O⟩;have hw00:w0.heap.size<=n0∧br<n0:=⟨by rw[b0];exact E.size,by rw[b0];exact J.lt⟩;refine qE O (AS (vs:=[(.agg (R6 t sa sc aa ac)),(I6 m)]) func5 kQ kQ O) ((Vm _ t _ m (A3.ext E t a1)).mono (R':=λr w=>(∃(e:Int) (cs:nZ) (o:Option Nat),r=.tuple #[ED o,I6 e]∧Wx t m e cs∧((e≠0∧o=none)∨(e=0∧∃b most:Nat,o=some b∧m=(most:Int)∧n0<=b))∧∀b most:Nat,o=some b->m=(most:Int)->LzAt (λy=>n0<=y∧y≠b) cs w b most (CR t) LzA.zero)∧Ah wr w) (λr w h=>⟨by rw[b0];exact Xt h.1,h.2⟩)) ?_;rintro _ w9 ⟨⟨A,cs,o,rfl,hE,hO,V⟩,X9⟩;have E:=E.ext X9;refine qM (.tuple #[(ED o),(I6 A)]) O (qV (BA (vs:=#[(ED o),(I6 A)]) (v:=(ED o)) O O) (qV (BA (vs:=#[(ED o),(I6 A)]) (v:=(I6 A)) O O) (qA (ED o) O (qA (I6 A) O (AB (AH (AA (qE O (AS (vs:=[]) func6 kQ kQ O) (P_ _ (hP.ext E)) ?_))))))));rintro _ w19 ⟨rfl,b9⟩;have J:=b9.keep (X9.keep J);have V:=(λb most I N=>(V b most I N).ext b9);have E:=E.ext b9;refine qV (C1 (b:=true) O) (AB (Ae O (AM (AC (AA (qV (AI (vs:=(oJ t sa sc aa ac)) O Ad AG O (J.cells O)) (qE O (AS (vs:=[(.agg (R6 t sa sc aa ac)),(I6 40)]) func7 kQ kQ O) (Sj _ t _ 40 qD (A3.ext E t a1) hs) ?_)))))));rintro _ w29 ⟨rfl,b2⟩;have J:=b2.keep J;have V:=(λb most I N=>(V b most I N).ext b2);have E:=E.ext b2;refine qA (I6 (By t 40)) O (AB (AH (AA (qM (I6 (By t 40)) O (qV (Ai (k:=.i64) (a:=By t 40) (b:=0) O O) (AB (qC O (λhf=>?_) (λhf=>?_))))))))
 .have ak:=decide_eq_true hf;refine AN (qV (AI (vs:=(oJ t sa sc aa ac)) O Ad AG O (J.cells O)) (qE O (AS (vs:=[(.agg (R6 t sa sc aa ac))]) func8 kQ kQ O) (Xg _ t _ (A3.ext E t a1) hs) ?_));rintro _ w39 ⟨rfl,b5⟩;have J:=b5.keep J;have V:=(λb most I N=>(V b most I N).ext b5);have E:=E.ext b5;refine qA (I6 (Cz t)) O (AB (AC (AH (AA (qM (I6 (Cz t)) O (qV (Ai (k:=.i64) (a:=Cz t) (b:=0) O O) (qM (.bool (decide ((Cz t:Int)=0))) O ?_)))))));rcases dT (decide ((Cz t:Int)=0)) with hd|hd
  .have T:=hd;have T:=of_decide_eq_true T;refine AF (oj:=_) O O qD (Ar hd) (qM (I6 m) O (AF (oj:=_) O O qD (Ar hd) (qV (A6 (k:=.i64) (a:=m) (b:=1) O O) (AF (oj:=_) O O qD (Ar hd) (qM (.bool (decide ((m:Int)<1))) O ?_)))));rcases dT (decide ((m:Int)<1)) with ab|ab
   .have W:=ab;have W:=of_decide_eq_true W;obtain ⟨R,_⟩:=JS (cs2:=[]) hE (by rw[if_pos hf,T]) (by rw[if_pos ⟨O,.inl W⟩]) (.inl ⟨qD,O,O⟩);refine AD (oj:=_) O O qD (v:=.bool true) (Ar ab) (dH O) (AD (oj:=_) O O qD (v:=.bool true) (Ar ab) (dH O) (AF (oj:=_) O O qD (Ar hd) (qV (Af (b:=decide ((m:Int)<1)) (v:=(.bool true)) O (by rw[ab];rfl)) (qV (Af (b:=decide ((Cz t:Int)=0)) (v:=(.bool true)) O (by rw[hd];rfl)) (AB (Aq O (AN (qA (I6 1) O (AB (AC (AA (qA (.slice none 0 0) O (AB (AH (AA (qM (I6 1) O (qV (Ai (k:=.i64) (a:=1) (b:=0) O O) (AB ?_))))))))))))))))));refine Ae O (AM (AC (AH (AA (qM (I6 1) O (qV (Bb (k:=.i64) (a:=1) (b:=0) O O) (qM (.bool true) O (AD (oj:=_) O O qD (v:=.bool true) O (dH O) (AD (oj:=_) O O qD (v:=.bool true) O (dH O) (qV (Af (b:=true) (v:=(.bool true)) O O) (qM (.bool true) O (AD (oj:=_) O O qD (v:=.bool true) O (dH O) (AD (oj:=_) O O qD (v:=.bool true) O (dH O) (qV (Af (b:=true) (v:=(.bool true)) O O) (AB (Aq O (AA ?_)))))))))))))))));refine qM (I6 A) O (qM (I6 1) O (qV (Ai (k:=.i64) (a:=A) (b:=1) O O) (qM (.bool (decide ((A:Int)=1))) O ?_)));have cb:(decide ((A:Int)=1))=true:=decide_eq_true R;refine AF (oj:=_) O O qD (Ar cb) (qM (ED o) O (AF (oj:=_) O O qD (Ar cb) (qV (G' jT O O) (qV (Af (b:=decide ((A:Int)=1)) (v:=(.bool o.isNone)) O (by rw[cb];rfl)) (qA (.bool o.isNone) O (AB (AO (AK (AY lE (v:=(.bool o.isNone)) O ?_)))))))));exact ⟨A' (by rw[show o=none by rcases hO with ⟨_,d⟩|⟨d,_⟩;exact d;omega];rfl),E⟩
   .have W:=ab;have W:=of_decide_eq_false W;refine AF (oj:=_) O O qD (Ar ab) (qM (I6 m) O (AF (oj:=_) O O qD (Ar ab) (qV (CN (k:=.i64) (a:=m) (b:=100) O O) (AF (oj:=_) O O qD (Ar hd) (qV (Af (b:=decide ((m:Int)<1)) (v:=(.bool (decide ((100:Int)<m)))) O (by rw[ab];rfl)) (qV (Af (b:=decide ((Cz t:Int)=0)) (v:=(.bool (decide ((100:Int)<m)))) O (by rw[hd];rfl)) (AB (qC O (λcn=>?_) (λcn=>?_)))))))))
    .obtain ⟨R,_⟩:=JS (cs2:=[]) hE (by rw[if_pos hf,T]) (by rw[if_pos ⟨O,.inr cn⟩]) (.inl ⟨qD,O,O⟩);refine AN (qA (I6 1) O (AB (AC (AA (qA (.slice none 0 0) O (AB (AH (AA (qM (I6 1) O (qV (Ai (k:=.i64) (a:=1) (b:=0) O O) (AB (Ae O (AM (AC (AH (AA (qM (I6 1) O (qV (Bb (k:=.i64) (a:=1) (b:=0) O O) (qM (.bool true) O (AD (oj:=_) O O qD (v:=.bool true) O (dH O) (AD (oj:=_) O O qD (v:=.bool true) O (dH O) ?_)))))))))))))))))))));refine qV (Af (b:=true) (v:=(.bool true)) O O) (qM (.bool true) O (AD (oj:=_) O O qD (v:=.bool true) O (dH O) (AD (oj:=_) O O qD (v:=.bool true) O (dH O) (qV (Af (b:=true) (v:=(.bool true)) O O) (AB (Aq O (AA (qM (I6 A) O (qM (I6 1) O (qV (Ai (k:=.i64) (a:=A) (b:=1) O O) (qM (.bool (decide ((A:Int)=1))) O ?_)))))))))));have cd:(decide ((A:Int)=1))=true:=decide_eq_true R;refine AF (oj:=_) O O qD (Ar cd) (qM (ED o) O (AF (oj:=_) O O qD (Ar cd) (qV (G' jT O O) (qV (Af (b:=decide ((A:Int)=1)) (v:=(.bool o.isNone)) O (by rw[cd];rfl)) (qA (.bool o.isNone) O (AB (AO (AK (AY lE (v:=(.bool o.isNone)) O ?_)))))))));exact ⟨A' (by rw[show o=none by rcases hO with ⟨_,d⟩|⟨d,_⟩;exact d;omega];rfl),E⟩
    .obtain ⟨b4,hsz,hu,cq,bw⟩:=HL T;have a2:=H' (GK b4 hu);have hslen:=Lc t;have hsfew:=QN a2;refine AM (AC (AA (qA (.slice none 0 0) O (AB (AH (AA (qM (I6 (Cz t)) O (qV (Ai (k:=.i64) (a:=Cz t) (b:=0) O O) (AB (Aq (Ar hd) (AN (qV (AI (vs:=(oJ t sa sc aa ac)) O Ad AG O (J.cells O)) (qE O (AS (vs:=[(.agg (R6 t sa sc aa ac))]) func10 kQ kQ O) (U6 _ t _ (A3.ext E t a1) qO) ?_)))))))))))));rintro dl dx ⟨dy,bt⟩;have V:=(λb most I N=>(V b most I N).ext bt);have ct:=V;refine qE O (AS (vs:=[dl]) func9 kQ kQ O) ((Zo _ _ (CU t) dy qO qO).mono (R':=λr w=>(∃out j oa oc,Kx (CU t) out j∧r=.tuple #[.slice oa out.length oc,I6 j]∧Ct (λb=>dx.heap.size<=b) w (.slice oa out.length oc) out)∧Ah _ w) (λr w h=>⟨by obtain ⟨out,j,I,a,c,N,h3⟩:=h.1;exact ⟨out,j,a,c,I,N,h3⟩,h.2⟩)) ?_;rintro _ w79 ⟨⟨out,j,oa,oc,dh,rfl,s⟩,b3⟩;have J:=b3.keep (bt.keep J);have V:=(λb most I N=>(V b most I N).ext b3);have E:=(E.ext bt).ext b3;obtain ⟨R,ch⟩:=JS hE (by rw[if_pos hf,T]) (by rw[if_neg qO]) (.inr ⟨O,dh⟩);refine qM (.tuple #[(.slice oa out.length oc),(I6 j)]) O (qV (BA (vs:=#[(.slice oa out.length oc),(I6 j)]) (v:=(.slice oa out.length oc)) O O) (qV (BA (vs:=#[(.slice oa out.length oc),(I6 j)]) (v:=(I6 j)) O O) (qA (.slice oa out.length oc) O (qA (I6 j) O (AB (AC (AH (AA (qM (I6 j) O (qV (Bb (k:=.i64) (a:=j) (b:=0) O O) (qM (.bool (decide ((j:Int)≠0))) O ?_)))))))))));rcases dT (decide ((j:Int)≠0)) with ae|ae
     .have Z:=ae;have Z:=of_decide_eq_true Z;refine AD (oj:=_) O O qD (v:=.bool true) (Ar ae) (dH O) (AD (oj:=_) O O qD (v:=.bool true) (Ar ae) (dH O) (qV (Af (b:=decide ((j:Int)≠0)) (v:=(.bool true)) O (by rw[ae];rfl)) (qM (.bool true) O (AD (oj:=_) O O qD (v:=.bool true) O (dH O) (AD (oj:=_) O O qD (v:=.bool true) O (dH O) (qV (Af (b:=true) (v:=(.bool true)) O O) (AB (Aq O (AA (qM (I6 A) O (qM (I6 j) O (qV (Ai (k:=.i64) (a:=A) (b:=j) O O) (qM (.bool (decide ((A:Int)=j))) O ?_)))))))))))));have b6:(decide ((A:Int)=j))=true:=decide_eq_true R;refine AF (oj:=_) O O qD (Ar b6) (qM (ED o) O (AF (oj:=_) O O qD (Ar b6) (qV (G' jT O O) (qV (Af (b:=decide ((A:Int)=j)) (v:=(.bool o.isNone)) O (by rw[b6];rfl)) (qA (.bool o.isNone) O (AB (AO (AK (AY lE (v:=(.bool o.isNone)) O ?_)))))))));exact ⟨A' (by rw[show o=none by rcases hO with ⟨_,d⟩|⟨d,_⟩;exact d;omega];rfl),E⟩
     .have Z:=ae;have Z:=of_decide_eq_false Z;have c5:j=0:=Decidable.not_not.1 Z;have a7:A=0:=R.trans c5;obtain ⟨bl,most,ho,bi,hbl⟩:=(hO.resolve_left (λd=>d.1 a7)).2;subst ho;obtain ⟨_,_,ck,c0⟩:=ch a7;subst c0;have hlz:=(ct bl most O bi).lt;have hcls:=s;refine AF (oj:=_) O O qD (Ar ae) (qM (I6 A) O (AF (oj:=_) O O qD (Ar ae) (qV (Bb (k:=.i64) (a:=A) (b:=0) O O) (qV (Af (b:=decide ((j:Int)≠0)) (v:=(.bool (decide ((A:Int)≠0)))) O (by rw[ae];rfl)) (qM (.bool (decide ((A:Int)≠0))) O ?_)))));have ce:(decide ((A:Int)≠0))=false:=decide_eq_false (λd=>d a7);refine AF (oj:=_) O O qD (Ar ce) (qM (P6 bl 0) O (AF (oj:=_) O O qD (Ar ce) (qV (Ln jT O O) (qV (Af (b:=decide ((A:Int)≠0)) (v:=(.bool false)) O (by rw[ce];rfl)) (AB (Ae O (AM (AC (AH (AA (qV (AI (vs:=(oJ t sa sc aa ac)) O Ad AG O (J.cells O)) (qE O (AS (vs:=[(.agg (R6 t sa sc aa ac))]) func11 kQ kQ O) (Vo _ t _ (A3.ext E t a1) hs b4) ?_))))))))))));rintro _ w89 ⟨⟨lb,rfl,hlb⟩,bj⟩;have J:=bj.keep J;have V:=(λb most I N=>(V b most I N).ext bj);have s:=s.chgM bj (λ_ _ _ f=>f);have E:=E.ext bj;refine qV (C1 (b:=lb) O) (AB (A4 (b:=!lb) O (λhl=>?_) (λhl=>?_)))
      .have d8:=hl;have hl:=by simpa using hl
       refine AA (qA (.bool true) O (AB (AO (AK (AY lE (v:=(.bool true)) O ?_)))));exact ⟨O,E⟩
      .have d8:=hl;have hl:=by simpa using hl
       obtain ⟨dd,bz,bp⟩:=UT a2 ck;obtain ⟨dw,a4,bo⟩:=O' a2 dd;have bm:∀r,CJ r=true->0<=Cg out r∧Cg out r<out.length:=λr hr=>by obtain ⟨k,c,e1,e2,_⟩:=dw r hr;have:=AX e2;omega
       refine AM (AC (AH (AA (qV (AI (vs:=(oJ t sa sc aa ac)) O Ad AG O (J.cells O)) (qM (.slice oa out.length oc) O (qE O (AS (vs:=[(.agg (R6 t sa sc aa ac)),(.slice oa out.length oc),(I6 60)]) func12 kQ kQ O) ((WN _ (λb=>b<w0.heap.size) t _ _ out (AR.ext E t cw) (λy D=>by have:=E.size;have N:y<w0.heap.size:=D;omega) T s.at (λcl hm=>(a4 cl hm).1) bp 60 qD).mono (R':=λv w=>(∃(va vb:Value) (ed:Int),v=.tuple #[va,vb,I6 ed]∧(ed=0->∃L rows,KZ out t L rows∧∀x∈L,Au x∧x.size<=300))∧Ah _ w) (λv w h=>⟨by rcases h.1 with ⟨I,_⟩|⟨L,rows,la,lc,na,nc,I,_,_,N,_,h3⟩;exact ⟨_,_,2,I,λd=>absurd d qD⟩;exact ⟨_,_,0,I,λ_=>⟨L,rows,N,h3⟩⟩,h.2⟩)) ?_))))));rintro _ c7 ⟨⟨va,vb,ed,rfl,c1⟩,bg⟩;have J:=bg.keep J;have V:=(λb most I N=>(V b most I N).ext bg);have s:=s.chgM bg (λ_ _ _ f=>f);have E:=E.ext bg;refine qM (.tuple #[va,vb,(I6 ed)]) O (qV (BA (vs:=#[va,vb,(I6 ed)]) (v:=va) O O) (qV (BA (vs:=#[va,vb,(I6 ed)]) (v:=vb) O O) (qV (BA (vs:=#[va,vb,(I6 ed)]) (v:=(I6 ed)) O O) (qA va O (qA vb O (qA (I6 ed) O (AB (AA (qM (I6 ed) O (qV (Bb (k:=.i64) (a:=ed) (b:=0) O O) (AB (qC O (λhx=>?_) (λhx=>?_)))))))))))))
       .refine AA (qA (.bool true) O (AB (AO (AK (AY lE (v:=(.bool true)) O ?_)))));exact ⟨O,E⟩
       .obtain ⟨FL,frows,cp,bs⟩:=c1 qO;obtain ⟨M,hM⟩:∃M,M=CR t:=⟨_,O⟩;obtain ⟨z1,dr⟩:∃z,z=(c7).heap.size:=⟨_,O⟩;have hblz:bl<z1:=by rw[dr];exact (V bl most O bi).lt
        have hout2:=s.lt;refine AM (AC (AA (qM (I6 m) O (qM (.slice oa out.length oc) O (qV (AI (vs:=(oJ t sa sc aa ac)) O Ad AG O (J.cells O)) (qE O (AS (vs:=[(.agg (R6 t sa sc aa ac))]) func13 kQ kQ O) ((Jz t.size t _ _ (λb=>b<w0.heap.size) (dU _) qO (K5 b4 hu) (AR.ext E t cw) (λy D=>by have:=E.size;have N:y<w0.heap.size:=D;omega)).mono (R':=λr w=>DQ (λb=>b<w0.heap.size∨z1<=b) M r w∧Ah _ w) (λr w h=>⟨CI (S':=λb=>b<w0.heap.size∨c7.heap.size<=b) (λb hb=>by rcases hb with I|I;exact .inl I;exact .inr qO) (by rw[hM];exact h.1),h.2⟩)) ?_))))));rintro _ ao ⟨⟨xa,xc,ya,yc,rfl,hR⟩,X⟩;have J:=X.keep J;have V:=(λb most I N=>(V b most I N).ext X);have s:=s.chgM X (λ_ _ _ f=>f);have E:=E.ext X;have bx:=AR.lt M hR;have al:=s.lt;have ba:LzAt (λy=>y<ao.heap.size∧y≠bl) out ao bl most M LzA.zero:=by rw[hM];exact (V bl most O bi).mono (S':=λy=>y<ao.heap.size∧y≠bl) (λy D hl=>⟨hl,D.2⟩) (λh=>h.2 O)
        refine qV (B0 (ps:=[(0,(I6 m)),(1,(.slice oa out.length oc)),(2,(.agg (R6 M xa xc ya yc)))]) (v:=(.agg #[(I6 m),(.slice oa out.length oc),(I6 M.kind),(.slice xa M.set.length xc),(.slice ya M.args.length yc),(I6 M.mn),(I6 M.mx),(.bool M.neg),(.slice none 0 0),(.slice none 0 0),(I6 0),(I6 0)])) O qK) (BC (v:=(.agg #[(I6 m),(.slice oa out.length oc),(I6 M.kind),(.slice xa M.set.length xc),(.slice ya M.args.length yc),(I6 M.mn),(I6 M.mx),(.bool M.neg),(.slice none 0 0),(.slice none 0 0),(I6 0),(I6 0)])) (c:=#[(I6 m),(.slice oa out.length oc),(I6 M.kind),(.slice xa M.set.length xc),(.slice ya M.args.length yc),(I6 M.mn),(I6 M.mx),(.bool M.neg),(.slice none 0 0),(.slice none 0 0),(I6 0),(I6 0)]) qD O O ?_);intro C wh Nh;have J:=Nh.keep J;have V:=(λb most I N=>(V b most I N).ext Nh.ext);have s:=s.chgM Nh.ext (λ_ _ _ f=>f);have bx:=AR.ext Nh.ext _ bx;have al:=al.chgM Nh.ext (λ_ _ _ f=>f);have ba:=ba.ext Nh.ext;have E:=E.ext Nh.ext;have Bh:=Nh.blk;refine qA (P6 C 0) O (AB (AH (AA (qM (.slice a3 tt.length c3) O (qV (AT (ad:=a3) (n:=tt.length) (cap:=c3) lO O) (qM (I6 0) O (AB (AW ?_))))))));have hbz:C=ao.heap.size:=Nh.eq;have hbl9:bl<C:=by have:=X.size;omega
        have hw9:w0.heap.size<=n0∧n0<=bl∧z1<=C:=by have:=X.size;omega
        obtain ⟨SH,ar⟩:∃S:oD,S=λy=>y<C∧y≠bl:=⟨_,O⟩;have da:Ct SH (wh) (.slice oa out.length oc) out:=al.mono (λy D=>by rw[ar];exact ⟨by have:=D.2;omega,by have:=D.1;omega⟩);have d2:AR SH (wh) M (oJ M xa xc ya yc):=AR.mono (λy D=>by rw[ar];exact ⟨by have:=D.2;omega,by rcases D.1 with d|d<;>omega⟩) M bx;obtain ⟨U0,cf⟩:∃U:oD,U=ID C (.slice none 0 0) (.slice none 0 0) []:=⟨_,O⟩;have dn:=(ba).mo;rw[bi] at Bh;have dg:HlAt SH C out (wh) C most M LzA.zero U0:=⟨⟨xa,ya,oa,none,none,xc,yc,oc,0,0,(λ_=>False),[],[],[],Bh,d2,da,⟨⟨[],World.ownsRow_nil _ _ _ _,O⟩,λy h=>h.elim,λb h=>by cases h⟩,KnA.nil _ _ _,⟨dU _,by simp[Value.ownBlock],by simp[Value.ownBlock],qP,by simp[Value.ownBlock],by simp[Value.ownBlock],by simp[Value.ownBlock],by simp[Value.ownBlock],by simp[Value.ownBlock]⟩,RepH.zero,cf⟩,λy D=>by rw[ar] at D;exact D.1,Nat.le_of_lt Bh.lt,by rw[hM];exact cq,by rw[hM];exact bw,dR _,dn⟩;have d4:LzAt (λy=>¬U0 y∧y≠bl) out (wh) bl most M LzA.zero:=ba.mono (λy D _=>⟨λd=>(by rw[cf] at d;rcases d with d|d|d|d<;>first|(have:=D.1;omega)|cases d),D.2⟩) (λh=>h.2 O);refine Ax (λnn_ σ an=>∃(k:Nat) (a:LzA Re) (U:oD),(∃jj_,σ=BW jj_ [(7,(P6 bl 0)),(10,(.slice oa out.length oc)),(14,(P6 C 0)),(91,(.slice a3 tt.length c3)),(92,(I6 (tt.length:Int))),(93,(I6 (k:Int)))])∧Chg Aj w0 an∧(k<=tt.length)∧(LzAt (λy=>¬U y∧y≠bl) out an bl most M a)∧(HlAt SH C out an C most M a U)∧(Ct SH an (.slice oa out.length oc) out)∧nn_=tt.length - k) (n:=tt.length - 0) ?_ ?_
        .exact ⟨0,LzA.zero,U0,oH,E,dR _,d4,dg,da,O⟩
        .clear E;rintro _ _ an ⟨k,a,U,⟨j12,rfl⟩,E,hk,du,b8,dp,rfl⟩;refine AA (qV (A6 (k:=.i64) (a:=(k:Int)) (b:=(tt.length:Int)) O O) (AB (AH (qC O (λdt=>?_) (λdt=>?_)))))
         .obtain ⟨B,db⟩:=AU (l:=tt) (i:=k) qO;have htl:B.length<=1048576:=by have:=(List.sublist_flatten_of_mem (dK db)).length_le;omega
          obtain ⟨qb,qo,rfl,co⟩:=QD h3 qO;obtain ⟨ra,rc,b1,bk⟩:=co k B db;refine AM (AC (AH (AW (AA (qV (AL (b:=qb) (o:=qo) (len:=tt.length) (cap:=c3) (i:=k) (o':=qo+k) O O O lO U3 qO qO) (qV (AJ (v:=(.slice ra B.length rc)) O WF (E.cell (λf=>f) b1)) ?_))))));obtain ⟨z9,bc⟩:∃z,z=(an).heap.size:=⟨_,O⟩;have au:∀q,U q->C<=q∧q<z9∧Fy (an) q:=λq h=>by rw[bc];exact b8.own h
          have hblz9:C<=z9:=by rw[bc];exact b8.nz
          refine qA (.slice ra B.length rc) O (AB (AA (qM (P6 bl 0) O (qM (.slice ra B.length rc) O (qE O (AS (vs:=[(P6 bl 0),(.slice ra B.length rc)]) func14 kQ kQ O) (Xx _ out _ bl most _ a _ B du (bk.ext E) (hP.ext E) bm a4 bo (λu hu=>by rw[hM];exact OD cp bs hu)) ?_)))));rintro _ ci ⟨⟨K,ev,g,rfl,d0,cr⟩,ap⟩;have E:=E.step ap (λx hx h=>by exfalso;have d:x=bl:=h;omega);rw[<-bc] at cr;have bd:=b8.chg ap (λq hq=>by have d:q=bl:=hq;exact ⟨qO,λh8=>by rw[ar] at h8;exact h8.2 d⟩);have a8:=dp.chgM ap (λy D _ h=>by have d:y=bl:=h;rw[ar] at D;exact D.2 d);have bf:=cr.mono (S':=λy=>¬U y∧y≠bl) (λy D _=>by rcases D with h8|h8;exact h8;exact ⟨λd=>by have:=(au y d).2.1;omega,qO⟩) (λh=>h.2 O);have hs119:z9<=ci.heap.size:=by rw[bc];exact ap.size
          refine qM (.tuple #[(.bool K),(I6 ev)]) O (qV (BA (vs:=#[(.bool K),(I6 ev)]) (v:=(.bool K)) O O) (qV (BA (vs:=#[(.bool K),(I6 ev)]) (v:=(I6 ev)) O O) (qA (.bool K) O (qA (I6 ev) O (AB (AA (qM (.slice oa out.length oc) O (qM (.slice ra B.length rc) O (qE O (AS (vs:=[(.slice oa out.length oc),(.slice ra B.length rc)]) func15 kQ kQ O) (Y8 _ _ _ out B a8.at (bk.ext E) qO) ?_)))))))));rintro _ cy ⟨⟨wa,wc,rfl,d1⟩,aq⟩;have bd:=bd.ext aq;have a8:=a8.chgM aq (λ_ _ _ f=>f);have bf:=bf.ext aq;have E:=E.ext aq;have cv:=d1.2;have cg:B_ (λb=>z9<=b) (cy) 1 (.slice wa (wordL out B).length wc) ((wordL out B).map GB):=(Hv (Di (by rw[N_];exact cv) (by intro r hr;simp only[eU] at hr;obtain ⟨p,_,rfl⟩:=hr;rfl) qP qD) cv).mono (λy D=>qO);refine qM (.tuple #[(.slice wa ((wordL out B).length) wc),(I6 (wordE out B))]) O (qV (BA (vs:=#[(.slice wa ((wordL out B).length) wc),(I6 (wordE out B))]) (v:=(.slice wa ((wordL out B).length) wc)) O O) (qV (BA (vs:=#[(.slice wa ((wordL out B).length) wc),(I6 (wordE out B))]) (v:=(I6 (wordE out B))) O O) (qA (.slice wa ((wordL out B).length) wc) O (qA (I6 (wordE out B)) O (AB (Gb (λσ ai=>∃(H:Int),(∃jj_,σ=BW jj_ [(7,(P6 bl 0)),(10,(.slice oa out.length oc)),(14,(P6 C 0)),(17,(.bool K)),(18,(I6 ev)),(19,(.slice wa ((wordL out B).length) wc)),(91,(.slice (oI qb qo) tt.length c3)),(92,(I6 (tt.length:Int))),(93,(I6 (k:Int))),(20,(I6 H))])∧Chg Aj w0 ai∧(HlAt SH C out ai C most M a U)∧(LzAt (λy=>¬U y∧y≠bl) out ai bl most M g)∧(Ct SH ai (.slice oa out.length oc) out)∧(B_ (λb=>z9<=b) ai 1 (.slice wa (wordL out B).length wc) ((wordL out B).map GB))∧(H=if 1000<B.length then 2 else wordE out B)) ?_ ?_))))))
          .skip
           refine AA (qM (.slice ra B.length rc) O (qV (AT (ad:=ra) (n:=B.length) (cap:=rc) eA O) (qV (CN (k:=.i64) (a:=(B.length:Int)) (b:=1000) O O) (AB (qC O (λc9=>?_) (λc9=>?_))))))
           .refine AN (qA (I6 2) O (AB (AC ?_)));exact ⟨2,oH,E,bd,bf,a8,cg,(if_pos qO).symm⟩
           .refine AM (AC ?_);exact ⟨(wordE out B),oH,E,bd,bf,a8,cg,(if_neg qO).symm⟩
          .clear E;rintro _ ai ⟨H,⟨j14,rfl⟩,E,b7,c4,cz,dv,d7⟩;obtain ⟨d6,de,dj⟩:=VS d0 bz;have av:ev=H:=d6.trans d7.symm;refine Gb (λσ a5=>∃(U7:oD),(∃jj_,σ=BW jj_ [(7,(P6 bl 0)),(10,(.slice oa out.length oc)),(14,(P6 C 0)),(91,(.slice (oI qb qo) tt.length c3)),(92,(I6 (tt.length:Int))),(93,(I6 (k:Int)))])∧Chg Aj w0 a5∧(HlAt SH C out a5 C most M g U7)∧(LzAt (λy=>¬U7 y∧y≠bl) out a5 bl most M g)∧(Ct SH a5 (.slice oa out.length oc) out)) ?_ ?_
           .skip
            refine AA (qM (I6 ev) O (qM (I6 H) O (qV (Bb (k:=.i64) (a:=ev) (b:=H) O O) (qM (.bool (decide ((ev:Int)≠H))) O ?_))));have Q:(decide ((ev:Int)≠H))=false:=decide_eq_false (λd=>d av);refine AF (oj:=_) O O qD (Ar Q) (qM (I6 H) O (AF (oj:=_) O O qD (Ar Q) (qV (Ai (k:=.i64) (a:=H) (b:=0) O O) (AF (oj:=_) O O qD (Ar Q) (qM (.bool (decide ((H:Int)=0))) O ?_)))));rcases dT (decide ((H:Int)=0)) with F|F
            .have G:=F;have G:=of_decide_eq_true G;obtain ⟨d3,c6,bu,dq,dz⟩:=de (av.trans G);obtain ⟨z8,cj⟩:∃z,z=(ai).heap.size:=⟨_,O⟩;have c8:∀q,U q->C<=q∧q<z8∧Fy (ai) q:=λq h=>by rw[cj];exact b7.own h
             have dc:∀x∈wordL out B,0<=x∧x<out.length:=λx hx=>by rw[bu] at hx;obtain ⟨r,hr,rfl⟩:=eU.1 hx;exact bm r (c6 r hr)
             have dk:=c4.mono (S':=λy=>¬U y∧y≠bl∧y<z8) (λy D hl=>⟨D.1,D.2,qO⟩) (λh=>h.2.1 O);refine AF (oj:=_) O O qD (Ar F) (qM (.bool K) O (AF (oj:=_) O O qD (Ar F) (qM (P6 C 0) O (AF (oj:=_) O O qD (Ar F) (qM (.slice wa ((wordL out B).length) wc) O (AF (oj:=_) O O qD (Ar F) (qE O (AS (vs:=[(P6 C 0),(.slice wa ((wordL out B).length) wc)]) func16 kQ kQ O) ((V7 SH U C out _ C most M a _ (wordL out B) b7 (dv.mono (λy D d=>by have:=(au y d).2.1;omega)) dc a4 (λk _=>by rw[hM];exact OD cp bs (λc hc=>dc c (gP hc))) ⟨bo,bp⟩ (by rw[bu,dW];exact d3)).mono (R':=λr w=>(r=.bool K∧∃U',HlAt SH C out w C most M g U'∧∀q,U' q->U q∨z8<=q)∧Chg U _ w) (λr w h=>by rw[bu,<-dq,<-dz,<-cj] at h;exact h)) ?_)))))));rintro _ w139 ⟨⟨rfl,U9,d5,cm⟩,ax⟩;have E:=E.step ax (λq hq h=>by exfalso;have:=(au q h).1;omega);have ds:=(dk.chgU ax (λq hq=>⟨λh=>h.1 hq,by have:=(au q hq).1;omega,(c8 q hq).2.2⟩)).mono (S':=λy=>¬U9 y∧y≠bl) (λy D _=>⟨λd=>by rcases cm y d with h8|h8;exact D.1 h8;have:=D.2.2;omega,D.2.1⟩) (λh=>h.2 O);have cu:=cz.chgM ax (λy D _ h=>by rw[ar] at D;have:=(au y h).1;omega);refine AF (oj:=_) O O qD (Ar F) (qV (J7 (p:=K) (q:=K) hU O O) (AF (oj:=_) O O qD (Ar Q) (qV (Af (b:=decide ((H:Int)=0)) (v:=(.bool (K != K))) O (by rw[F];rfl)) (qV (Af (b:=decide ((ev:Int)≠H)) (v:=(.bool (K != K))) O (by rw[Q];rfl)) (qM (.bool (K != K)) O ?_)))));have aj:(K != K)=false:=qP
             refine AF (oj:=_) O O qD (Ar aj) (qM (I6 H) O (AF (oj:=_) O O qD (Ar aj) (qV (Bb (k:=.i64) (a:=H) (b:=0) O O) (AF (oj:=_) O O qD (Ar aj) (qM (.bool (decide ((H:Int)≠0))) O ?_)))));have bn:(decide ((H:Int)≠0))=false:=decide_eq_false (λd=>d G);refine AD (oj:=_) O O qD (v:=.bool false) (Ar bn) (dH O) (AF (oj:=_) O O qD (Ar aj) (qV (Af (b:=decide ((H:Int)≠0)) (v:=(.bool false)) O (by rw[bn];rfl)) (qV (Af (b:=K != K) (v:=(.bool false)) O (by rw[aj];rfl)) (AB (Ae O (AM (AC ?_)))))));exact ⟨U9,oH,E,d5,ds,cu⟩
            .have G:=F;have G:=of_decide_eq_false G;obtain ⟨di,df⟩:=dj (λd=>G (av.symm.trans d));refine AD (oj:=_) O O qD (v:=.bool false) (Ar F) (dH O) (AD (oj:=_) O O qD (v:=.bool false) (Ar F) (dH O) (AD (oj:=_) O O qD (v:=.bool false) (Ar F) (dH O) (AD (oj:=_) O O qD (v:=.bool false) (Ar F) (dH O) (AD (oj:=_) O O qD (v:=.bool false) (Ar F) (dH O) (AF (oj:=_) O O qD (Ar Q) (qV (Af (b:=decide ((H:Int)=0)) (v:=(.bool false)) O (by rw[F];rfl)) (qV (Af (b:=decide ((ev:Int)≠H)) (v:=(.bool false)) O (by rw[Q];rfl)) (qM (.bool false) O (AF (oj:=_) O O qD O (qM (I6 H) O (AF (oj:=_) O O qD O (qV (Bb (k:=.i64) (a:=H) (b:=0) O O) (AF (oj:=_) O O qD O (qM (.bool (decide ((H:Int)≠0))) O ?_))))))))))))));have bq:(decide ((H:Int)≠0))=true:=decide_eq_true G;refine AF (oj:=_) O O qD (Ar bq) (qM (.bool K) O (AF (oj:=_) O O qD O (qV (Af (b:=decide ((H:Int)≠0)) (v:=(.bool K)) O (by rw[bq];rfl)) (qV (Af (b:=false) (v:=(.bool K)) O O) (AB ?_)))));have c2:(K)=false:=di;refine Ae (Ar c2) (AM (AC ?_));exact ⟨U,oH,E,(by rw[df];exact b7),c4,cz⟩
           .clear E;rintro _ a5 ⟨U7,⟨j16,rfl⟩,E,be,bb,a0⟩;obtain ⟨fsa,faa,ca,la,ka,fsc,fac,cc,lc,kc,T9,bs9,L9,K9,am,hF9,cu,hL9,hK9,hA9,dm,cm⟩:=be.mem;refine AA (qM (P6 bl 0) O (qE O (AS (vs:=[(P6 bl 0)]) func17 kQ kQ O) (P7 _ out _ bl most M g bb) ?_));rintro _ w149 ⟨rfl,af⟩;have am:=af.keep am;have a0:=a0.chgM af (λ_ _ _ f=>f);refine qM (.tuple #[(I6 g.made),(I6 g.drops),(I6 (g.n:Int))]) O (qV (BA (vs:=#[(I6 g.made),(I6 g.drops),(I6 (g.n:Int))]) (v:=(I6 g.made)) O O) (qV (BA (vs:=#[(I6 g.made),(I6 g.drops),(I6 (g.n:Int))]) (v:=(I6 g.drops)) O O) (qV (BA (vs:=#[(I6 g.made),(I6 g.drops),(I6 (g.n:Int))]) (v:=(I6 (g.n:Int))) O O) (qA (I6 g.made) O (qA (I6 g.drops) O (qA (I6 (g.n:Int)) O (AB (AA (qM (I6 g.made) O (qM (P6 C 0) O (qV (Ay (a:=⟨C,0,none⟩) O) (qF C 0 10 O fN O Al O (qV (AJ (v:=(I6 g.made)) O Ag (am.cell O)) (qV (Bb (k:=.i64) (a:=g.made) (b:=g.made) O O) (qM (.bool (decide ((g.made:Int)≠g.made))) O ?_)))))))))))))));have P:(decide ((g.made:Int)≠g.made))=false:=qP
            refine AF (oj:=_) O O qD (Ar P) (qM (I6 g.drops) O (AF (oj:=_) O O qD (Ar P) (qM (P6 C 0) O (AF (oj:=_) O O qD (Ar P) (qV (Ay (a:=⟨C,0,none⟩) O) (AF (oj:=_) O O qD (Ar P) (qF C 0 11 O fN O Al O (AF (oj:=_) O O qD (Ar P) (qV (AJ (v:=(I6 g.drops)) O Ag (am.cell O)) (AF (oj:=_) O O qD (Ar P) (qV (Bb (k:=.i64) (a:=g.drops) (b:=g.drops) O O) (qV (Af (b:=decide ((g.made:Int)≠g.made)) (v:=(.bool (decide ((g.drops:Int)≠g.drops)))) O (by rw[P];rfl)) (qM (.bool (decide ((g.drops:Int)≠g.drops))) O ?_)))))))))))));have ag:(decide ((g.drops:Int)≠g.drops))=false:=qP
            refine AF (oj:=_) O O qD (Ar ag) (qM (I6 (g.n:Int)) O (AF (oj:=_) O O qD (Ar ag) (qM (P6 C 0) O (AF (oj:=_) O O qD (Ar ag) (qE O (AS (vs:=[(P6 C 0)]) func18 kQ kQ O) (YI _ C _ _ _ _ _ _ _ _ _ _ _ la L9.length lc am) ?_)))));rintro _ w159 ⟨rfl,ah⟩;have am:=ah.keep am;have be:=(be.ext af).ext ah;have a0:=a0.chgM ah (λ_ _ _ f=>f);have bb:=(bb.ext af).ext ah;have E:=(E.ext af).ext ah;refine AF (oj:=_) O O qD (Ar ag) (qV (Bb (k:=.i64) (a:=(g.n:Int)) (b:=(L9.length:Int)) O O) (qV (Af (b:=decide ((g.drops:Int)≠g.drops)) (v:=(.bool (decide (((g.n:Int):Int)≠(L9.length:Int))))) O (by rw[ag];rfl)) (AB ?_)));have cx:(decide ((((g.n:Nat):Int):Int)≠((L9.length:Nat):Int)))=false:=by rw[dm.n];simp
            refine Ae (Ar cx) (AM (AV (AC (AN (qV (A0 (k:=.i64) (a:=(k:Int)) (b:=1) (c:=(k:Int)+1) O O (A8 qO)) (qM (I6 ((k:Int)+1)) O (AB (AC ?_))))))));exact ⟨tt.length - (k+1),qO,k+1,g,U7,oH,E,qO,bb,be,a0,O⟩
         .refine Av (AZ (AZ (Ao (AC (AA (qA (.bool true) O (AB (AO (AY lE (v:=(.bool true)) O ?_)))))))));exact ⟨O,E⟩
  .have T:=hd;have T:=of_decide_eq_false T;refine AD (oj:=_) O O qD (v:=.bool false) (Ar hd) (dH O) (AD (oj:=_) O O qD (v:=.bool false) (Ar hd) (dH O) (AD (oj:=_) O O qD (v:=.bool false) (Ar hd) (dH O) (AD (oj:=_) O O qD (v:=undef) O (dG O) (AD (oj:=_) O O qD (v:=undef) O (dG O) (AD (oj:=_) O O qD (v:=.bool false) (Ar hd) (dH O) (qV (Af (b:=decide ((Cz t:Int)=0)) (v:=(.bool false)) O (by rw[hd];rfl)) (AB (Ae O (AM (AC (AA (qA (.slice none 0 0) O (AB (AH (AA (qM (I6 (Cz t)) O (qV (Ai (k:=.i64) (a:=Cz t) (b:=0) O O) (AB ?_))))))))))))))))));refine Ae (Ar hd) (AM (AC (AH (AA (qM (I6 (Cz t)) O (qV (Bb (k:=.i64) (a:=Cz t) (b:=0) O O) (qM (.bool (decide ((Cz t:Int)≠0))) O ?_)))))));have az:(decide ((Cz t:Int)≠0))=true:=decide_eq_true (of_decide_eq_false hd);refine AD (oj:=_) O O qD (v:=.bool true) (Ar az) (dH O) (AD (oj:=_) O O qD (v:=.bool true) (Ar az) (dH O) (qV (Af (b:=decide ((Cz t:Int)≠0)) (v:=(.bool true)) O (by rw[az];rfl)) (qM (.bool true) O (AD (oj:=_) O O qD (v:=.bool true) O (dH O) (AD (oj:=_) O O qD (v:=.bool true) O (dH O) (qV (Af (b:=true) (v:=(.bool true)) O O) (AB (Aq O (AA ?_)))))))));obtain ⟨R,_⟩:=JS (cs2:=[]) hE (by rw[if_pos hf]) (by rw[if_neg (λd=>absurd d.1 (of_decide_eq_false hd))]) (.inl ⟨of_decide_eq_false hd,O,O⟩);refine qM (I6 A) O (qM (I6 (Cz t)) O (qV (Ai (k:=.i64) (a:=A) (b:=Cz t) O O) (qM (.bool (decide ((A:Int)=Cz t))) O ?_)));have ay:(decide ((A:Int)=Cz t))=true:=decide_eq_true R;refine AF (oj:=_) O O qD (Ar ay) (qM (ED o) O (AF (oj:=_) O O qD (Ar ay) (qV (G' jT O O) (qV (Af (b:=decide ((A:Int)=Cz t)) (v:=(.bool o.isNone)) O (by rw[ay];rfl)) (qA (.bool o.isNone) O (AB (AO (AK (AY lE (v:=(.bool o.isNone)) O ?_)))))))));exact ⟨A' (by rw[show o=none by rcases hO with ⟨_,d⟩|⟨d,_⟩;exact d;omega];rfl),E⟩
 .have ak:=decide_eq_false hf;refine AM (AC (AH (AA (qM (I6 (By t 40)) O (qV (Ai (k:=.i64) (a:=By t 40) (b:=0) O O) (qM (.bool (decide ((By t 40:Int)=0))) O (AD (oj:=_) O O qD (v:=.bool false) (Ar ak) (dH O) (AD (oj:=_) O O qD (v:=.bool false) (Ar ak) (dH O) (AD (oj:=_) O O qD (v:=.bool false) (Ar ak) (dH O) (AD (oj:=_) O O qD (v:=undef) O (dG O) (AD (oj:=_) O O qD (v:=undef) O (dG O) (AD (oj:=_) O O qD (v:=.bool false) (Ar ak) (dH O) (qV (Af (b:=decide ((By t 40:Int)=0)) (v:=(.bool false)) O (by rw[ak];rfl)) (AB (Ae O (AM (AC (AA (qA (.slice none 0 0) O ?_)))))))))))))))))));refine AB (AH (AA (qM (I6 (By t 40)) O (qV (Ai (k:=.i64) (a:=By t 40) (b:=0) O O) (AB (Ae (Ar ak) (AM (AC (AH (AA (qM (I6 (By t 40)) O (qV (Bb (k:=.i64) (a:=By t 40) (b:=0) O O) (qM (.bool (decide ((By t 40:Int)≠0))) O ?_)))))))))))));have aw:(decide ((By t 40:Int)≠0))=true:=decide_eq_true hf;refine AD (oj:=_) O O qD (v:=.bool true) (Ar aw) (dH O) (AD (oj:=_) O O qD (v:=.bool true) (Ar aw) (dH O) (qV (Af (b:=decide ((By t 40:Int)≠0)) (v:=(.bool true)) O (by rw[aw];rfl)) (qM (.bool true) O (AD (oj:=_) O O qD (v:=.bool true) O (dH O) (AD (oj:=_) O O qD (v:=.bool true) O (dH O) (qV (Af (b:=true) (v:=(.bool true)) O O) (AB (Aq O (AA ?_)))))))));obtain ⟨R,_⟩:=JS (cs2:=[]) hE (by rw[if_neg hf]) (by rw[if_neg (λd=>absurd d.1 hf)]) (.inl ⟨hf,O,O⟩);refine qM (I6 A) O (qM (I6 (By t 40)) O (qV (Ai (k:=.i64) (a:=A) (b:=By t 40) O O) (qM (.bool (decide ((A:Int)=By t 40))) O ?_)));have a6:(decide ((A:Int)=By t 40))=true:=decide_eq_true R;refine AF (oj:=_) O O qD (Ar a6) (qM (ED o) O (AF (oj:=_) O O qD (Ar a6) (qV (G' jT O O) (qV (Af (b:=decide ((A:Int)=By t 40)) (v:=(.bool o.isNone)) O (by rw[a6];rfl)) (qA (.bool o.isNone) O (AB (AO (AK (AY lE (v:=(.bool o.isNone)) O ?_)))))))));exact ⟨A' (by rw[show o=none by rcases hO with ⟨_,d⟩|⟨d,_⟩;exact d;omega];rfl),E⟩
end Go.Proofs
namespace Go.Proofs
open Go Go.Eng
set_option maxRecDepth 100000
section
variable {H : Type} {enc : TypeId × Value → H} {P : Program} {w : World} {base : Nat} {spare : Nat → Bool} {held : Bool}
theorem HM {a:Addr} {k:Nat} {cs:n_} (hk:0<k) (h:w.cells? base a k=some cs):∃b o,a=⟨b,o,none⟩∧cs.length=k∧BG w b o cs:=by
 obtain ⟨f,g,e⟩:=World.cells?_some h;obtain ⟨b,o,s⟩:=a;have d:cs.length=k:=by first|exact g|exact f|omega
 have l:=e 0 qO;have hs:s=none:=by
  cases s with
  | none=>rfl
  | some s=>
   exfalso;have j:∃v,w.cell? ⟨b,o,some s⟩=some v:=⟨_,by simpa[Addr.add,dM (show 0<cs.length by omega)] using l⟩;obtain ⟨v,c⟩:=j;simp[World.cell?] at c;cases hh:w.heap[b]?<;>simp[hh] at c;split at c<;>simp at c
 subst hs;refine ⟨b,o,O,d,λi v c=>?_⟩;have:=e i (by have:=AX c;omega);rw[Addr.add_lit] at this;rw[this,c]
theorem Li {α:Type} {f:α->List Value}:∀{rows:List n_},(∀r∈rows,∃y,r=f y)->∃l:List α,rows=l.map f
 | [],_=>⟨[],O⟩
 | r::rows,h=>by
  obtain ⟨y,b⟩:=h r qP;obtain ⟨l,c⟩:=Li (rows:=rows) (f:=f) λd a=>h d (eP _ a);exact ⟨y::l,by rw[b,c];rfl⟩
theorem Tz {t e k j:Nat} {cs:n_} {x:DataW H×List MemPlace} {R:n_->Prop} (L:P.underlying t=some (.slice e)) (F:P.cellsOf e=k) (D:0<k)
 (h:DataW.trod enc P w base spare held j t cs=some x) (K:∀n c y,n<j->DataW.trod enc P w base spare held n e c=some y->R c) :
 ∃a rows cap,cs=[.slice a rows.length cap]∧BX w k (.slice a rows.length cap) rows∧(∀r∈rows,R r∧r.length=k)∧rows.length<=cap∧cap<=maxLen:=by
 rcases DataW.trod_slice L h with ⟨rfl,_⟩|⟨a,len,cap,elems,rest,n,rfl,rfl,_,hb,hl,B,hlen,v,_,_⟩
 .exact ⟨none,[],0,O,BX.nil _ _ _ _,qP,qP,by simp[maxLen]⟩
 .have s:∀i,i<len->∃c,w.cells? base (a.add (i*k)) k=some c∧R c:=by
   intro i hi;have:=v i hi;rw[dM qO,F,mT] at this;obtain ⟨c,p,g⟩:=this;exact ⟨c,p,K n c _ qO g⟩
  have C:∀m,m<=len->∃rows:List n_,rows.length=m∧∀i r,rows[i]?=some r->w.cells? base (a.add (i*k)) k=some r∧R r:=by
   intro m
   induction m with
   | zero=>intro _;exact ⟨[],O,qP⟩
   | succ m ih=>
    intro B;obtain ⟨rows,p,g⟩:=ih qO;obtain ⟨c,q,M⟩:=s m qO;refine ⟨rows++[c],by simp[p],λi r f=>?_⟩;rcases eI i rows.length with hi|hi
    .rw[dQ hi] at f;exact g i r f
    .rw[dX hi] at f;have E:=AX f;simp at E;obtain rfl:i=m:=qO
     simp[p] at f;subst f;exact ⟨q,M⟩
  obtain ⟨rows,A,d⟩:=C len (dU _);have u:rows.length<=9223372036854775807:=by simp only[maxLen] at B;omega
  refine ⟨some a,rows,cap,by rw[A],⟨some a,cap,O,u,qO,?_⟩,?_,qO,B⟩
  .rcases gO len with I|I
   .left;exact eD qO
   .right;obtain ⟨J,z⟩:=AU (l:=rows) (i:=0) qO;have p:=(d 0 J z).1;have G:a.add (0*k)=a:=by simp[Addr.add]
    rw[G] at p;obtain ⟨b,o,rfl,_,_⟩:=HM D p;refine ⟨b,o,O,λi r f=>?_⟩;have g:=(d i r f).1;rw[Addr.add_lit] at g;obtain ⟨b',o',N,_,q⟩:=HM D g;cases N;exact q
  .intro r f;obtain ⟨i,hi⟩:=eS.1 f;have g:=d i r hi;obtain ⟨_,_,_,q,_⟩:=HM D g.1;exact ⟨g.2,q⟩
end
section
variable {H : Type} {enc : TypeId × Value → H} {w : World} {base : Nat} {spare : Nat → Bool} {held : Bool}
theorem TS:prog.cellsOf 80=2:=by kernel_rfl
theorem TT:prog.cellsOf 25=6:=by kernel_rfl
theorem R7:prog.cellsOf 3=1:=by kernel_rfl
theorem Zs:prog.cellsOf 4=1:=by kernel_rfl
theorem Yf:prog.cellsOf 23=1:=by kernel_rfl
theorem Yg:prog.cellsOf 22=1:=by kernel_rfl
theorem Ty {c:Nat} {cs:n_} {x:DataW H×List MemPlace} (h:DataW.trod enc prog w base spare held c 80 cs=some x):∃s:Int×Int,cs=Ba s:=by
 obtain ⟨xs,n,rfl,_,g,k,i⟩:=DataW.trod_struct eM h;rw[TS] at g
 match cs,g with
 | [c0,c1],_=>
  have e:DataW.trod enc prog w base spare held n 3 (([c0,c1].drop 0).take (prog.cellsOf 3))=xs[0]?:=i 0 _ O;have d:DataW.trod enc prog w base spare held n 3 (([c0,c1].drop 1).take (prog.cellsOf 3))=xs[1]?:=i 1 _ O;simp only[R7,List.drop,List.take] at e d;rw[dM (by rw[k];decide)] at e d;obtain ⟨a,j,_⟩:=DataW.trod_int fY e;obtain ⟨b,f,_⟩:=DataW.trod_int fY d;simp at j f;subst j;subst f;exact ⟨(a,b),O⟩
theorem RM {b:Nat} {cs:n_} {x:DataW H×List MemPlace} (h:DataW.trod enc prog w base spare held b 22 cs=some x):∃a l cap,cs=[.slice a l.length cap]∧BP w (.slice a l.length cap) l:=by
 obtain ⟨a,rows,cap,rfl,f,c,_⟩:=Tz (R:=λcs=>∃s:Int×Int,cs=Ba s) dS TS qD h (λn cs' y _ e=>Ty e);obtain ⟨l,rfl⟩:=Li λr d=>(c r d).1;exact ⟨a,l,cap,qP,by simpa[BP] using f⟩
end
section
variable {H : Type} {enc : TypeId × Value → H} {P : Program} {w : World} {base : Nat} {spare : Nat → Bool} {held : Bool}
theorem I1 {t e k p:Nat} {cs:n_} {x:DataW H×List MemPlace} {R:n_->DataW H->Prop} (T:P.underlying t=some (.slice e)) (L:P.cellsOf e=k) (F:0<k)
 (h:DataW.trod enc P w base spare held p t cs=some x) (S:∀n c y,n<p->DataW.trod enc P w base spare held n e c=some y->R c y.1) :
 ∃a rows cap,cs=[.slice a rows.length cap]∧BX w k (.slice a rows.length cap) rows∧(∀r∈rows,r.length=k)∧rows.length<=cap∧cap<=maxLen∧
  (rows=[]∨∃ds K,x.1=.slice ds K∧ds.length=rows.length∧∀(i:Nat) r,rows[i]?=some r->∃d,ds[i]?=some d∧R r d):=by
 rcases DataW.trod_slice T h with ⟨rfl,_⟩|⟨a,len,cap,g,rest,n,rfl,rfl,rfl,hb,hl,D,hlen,A,_,_⟩
 .exact ⟨none,[],0,O,BX.nil _ _ _ _,qP,qP,by simp[maxLen],.inl O⟩
 .have v:∀i,i<len->∃c y,w.cells? base (a.add (i*k)) k=some c∧g[i]?=some y∧R c y.1:=by
   intro i hi;have:=A i hi;rw[dM qO,L,mT] at this;obtain ⟨c,s,q⟩:=this;exact ⟨c,_,s,dM qO,S n c _ qO q⟩
  have E:∀m,m<=len->∃rows:List n_,rows.length=m∧∀(i:Nat) r,rows[i]?=some r->w.cells? base (a.add (i*k)) k=some r∧∃y,g[i]?=some y∧R r y.1:=by
   intro m
   induction m with
   | zero=>intro _;exact ⟨[],O,qP⟩
   | succ m ih=>
    intro D;obtain ⟨rows,s,q⟩:=ih qO;obtain ⟨c,y,u,G,J⟩:=v m qO;refine ⟨rows++[c],by simp[s],λi r j=>?_⟩;rcases eI i rows.length with hi|hi
    .rw[dQ hi] at j;exact q i r j
    .rw[dX hi] at j;have I:=AX j;simp at I;obtain rfl:i=m:=qO
     simp[s] at j;subst j;exact ⟨u,y,G,J⟩
  obtain ⟨rows,C,f⟩:=E len (dU _);have z:rows.length<=9223372036854775807:=by simp only[maxLen] at D;omega
  refine ⟨some a,rows,cap,by rw[C],⟨some a,cap,O,z,qO,?_⟩,?_,qO,D,.inr ⟨g.map (·.1),rest.map (·.1),O,by simp;omega,λi r j=>?_⟩⟩
  .rcases gO len with M|M
   .left;exact eD qO
   .right;obtain ⟨Q,B⟩:=AU (l:=rows) (i:=0) qO;have s:=(f 0 Q B).1;have N:a.add (0*k)=a:=by simp[Addr.add]
    rw[N] at s;obtain ⟨b,o,rfl,_,_⟩:=HM F s;refine ⟨b,o,O,λi r j=>?_⟩;have q:=(f i r j).1;rw[Addr.add_lit] at q;obtain ⟨b',o',U,_,u⟩:=HM F q;cases U;exact u
  .intro r j;obtain ⟨i,hi⟩:=eS.1 j;have q:=f i r hi;obtain ⟨_,_,_,u,_⟩:=HM F q.1;exact u
  .obtain ⟨_,y,G,J⟩:=f i r j;exact ⟨y.1,by simp[G],J⟩
end
section
variable {H : Type} {enc : TypeId × Value → H} {w : World} {base : Nat} {spare : Nat → Bool} {held : Bool}
theorem Wn {l:List (DataW H)} {i:Nat} {d:DataW H} (h:l[i]?=some d):YtgmbafkdgmkfoaaGreatDoor.Rows.uptoBulk d<=YtgmbafkdgmkfoaaGreatDoor.Rows.uptoBulkAll l:=by
 induction l generalizing i with
 | nil=>simp at h
 | cons x r ih=>
  simp only[YtgmbafkdgmkfoaaGreatDoor.Rows.uptoBulkAll];cases i with
  | zero=>simp at h;subst h;omega
  | succ i=>have:=ih (i:=i) (by simpa using h);omega
theorem Og {b o:Nat}:∀{rows:List n_} {ds:List (DataW H)},ds.length=rows.length->(∀(i:Nat) r,rows[i]?=some r->BG w b (o+i*6) r∧∃d,ds[i]?=some d∧∃t,A3 w t r∧t.size<=YtgmbafkdgmkfoaaGreatDoor.Rows.uptoBulk d)->∃ts:List Re,ts.length=rows.length∧(∀(i:Nat) t,ts[i]?=some t->∃vs,BG w b (o+i*6) vs∧A3 w t vs)∧Re.sizes ts<=YtgmbafkdgmkfoaaGreatDoor.Rows.uptoBulkAll ds:=by
 intro rows ds s h;have q:∀m,m<=rows.length->∃ts:List Re,ts.length=m∧(∀(i:Nat) t,ts[i]?=some t->∃vs,BG w b (o+i*6) vs∧A3 w t vs)∧Re.sizes ts<=YtgmbafkdgmkfoaaGreatDoor.Rows.uptoBulkAll (ds.take m):=by
  intro m
  induction m with
  | zero=>intro _;exact ⟨[],O,qP,by simp[Re.sizes]⟩
  | succ m ih=>
   intro hm;obtain ⟨ts,g,k,j⟩:=ih qO;obtain ⟨r,u⟩:=AU (l:=rows) (i:=m) qO;obtain ⟨x,d,hd,t,v,h6⟩:=h m r u;refine ⟨ts++[t],by simp[g],λi t' e=>?_,?_⟩
   .rcases eI i ts.length with hi|hi
    .rw[dQ hi] at e;exact k i t' e
    .rw[dX hi] at e;have n:=AX e;simp at n;obtain rfl:i=m:=qO
     simp[g] at e;subst e;exact ⟨r,x,v⟩
   .have f:∀(a c:List (DataW H)),YtgmbafkdgmkfoaaGreatDoor.Rows.uptoBulkAll (a++c)=YtgmbafkdgmkfoaaGreatDoor.Rows.uptoBulkAll a+YtgmbafkdgmkfoaaGreatDoor.Rows.uptoBulkAll c:=by
     intro a c
     induction a with
     | nil=>simp[YtgmbafkdgmkfoaaGreatDoor.Rows.uptoBulkAll]
     | cons y a p=>simp only[fH,YtgmbafkdgmkfoaaGreatDoor.Rows.uptoBulkAll,p];omega
    rw[eK,hd,f,Re.sizes_append];simp only[fL,YtgmbafkdgmkfoaaGreatDoor.Rows.uptoBulkAll,Re.sizes];omega
 obtain ⟨ts,g,k,j⟩:=q rows.length (dU _);rw[<-s,eE] at j;exact ⟨ts,g,k,j⟩
theorem Vb:∀(a:Nat) {cs:n_} {x:DataW H×List MemPlace},DataW.trod enc prog w base spare held a 25 cs=some x->∃t,A3 w t cs∧t.size<=YtgmbafkdgmkfoaaGreatDoor.Rows.uptoBulk x.1:=by
 intro a
 induction a using Nat.strongRecOn with
 | _ a ih=>
 intro cs x h;obtain ⟨xs,n,rfl,rfl,P,J,f⟩:=DataW.trod_struct dI h;rw[TT] at P
 match cs,P with
 | [c0,c1,c2,c3,c4,c5],_=>
  have s:DataW.trod enc prog w base spare held n 3 (([c0,c1,c2,c3,c4,c5].drop 0).take (prog.cellsOf 3))=xs[0]?:=f 0 _ O;have E:DataW.trod enc prog w base spare held n 22 (([c0,c1,c2,c3,c4,c5].drop 1).take (prog.cellsOf 22))=xs[1]?:=f 1 _ O;have z:DataW.trod enc prog w base spare held n 23 (([c0,c1,c2,c3,c4,c5].drop 2).take (prog.cellsOf 23))=xs[2]?:=f 2 _ O;have q:DataW.trod enc prog w base spare held n 3 (([c0,c1,c2,c3,c4,c5].drop 3).take (prog.cellsOf 3))=xs[3]?:=f 3 _ O;have u:DataW.trod enc prog w base spare held n 3 (([c0,c1,c2,c3,c4,c5].drop 4).take (prog.cellsOf 3))=xs[4]?:=f 4 _ O;have B:DataW.trod enc prog w base spare held n 4 (([c0,c1,c2,c3,c4,c5].drop 5).take (prog.cellsOf 4))=xs[5]?:=f 5 _ O;simp only[R7,Zs,Yf,Yg,List.drop,List.take] at s E z q u B;have hlen6:xs.length=6:=J;obtain ⟨S,j⟩:=AU (l:=xs) (i:=2) qO;have g:YtgmbafkdgmkfoaaGreatDoor.Rows.uptoBulk S.1<=YtgmbafkdgmkfoaaGreatDoor.Rows.uptoBulkAll (xs.map (·.1)):=Wn (i:=2) (by simp[j]);have hbx:YtgmbafkdgmkfoaaGreatDoor.Rows.uptoBulk (DataW.agg (xs.map (·.1)))=YtgmbafkdgmkfoaaGreatDoor.Rows.uptoBulkAll (xs.map (·.1))+1:=by simp only[YtgmbafkdgmkfoaaGreatDoor.Rows.uptoBulk]
  rw[j] at z;rw[dM (by rw[J];decide)] at s E q u B;obtain ⟨k,I,_⟩:=DataW.trod_int fY s;obtain ⟨mn,Q,_⟩:=DataW.trod_int fY q;obtain ⟨mx,L,_⟩:=DataW.trod_int fY u;obtain ⟨ng,N,_⟩:=DataW.trod_bool hU B;obtain ⟨sa,set,sc,M,hs⟩:=RM E;obtain ⟨aa,rows,ac,K,T,hrows,hcap,e,A⟩:=I1 (R:=λcs d=>∃t,A3 w t cs∧t.size<=YtgmbafkdgmkfoaaGreatDoor.Rows.uptoBulk d) dJ TT qD z (λm cs' y hm D=>ih m qO D);simp at I M K Q L N;subst I;subst M;subst K;subst Q;subst L;subst N;rcases gO rows.length with p|p
  .have:rows=[]:=eD p;subst this;refine ⟨.mk k set [] mn mx ng,A3.of (args:=[]) hs ⟨qP,by simp only[maxLen] at e;omega⟩ (.inl O),?_⟩;simp only[Re.size,Re.sizes];omega
  .obtain ⟨b,o,O,c⟩:=BX.at T p;rcases A with rfl|⟨ds,sp,D,C,hd⟩
   .simp at p
   obtain ⟨ts,F,v,hsz⟩:=Og (w:=w) (b:=b) (o:=o) (rows:=rows) C λi r G=>⟨c i r G,hd i r G⟩;refine ⟨.mk k set ts mn mx ng,?_,?_⟩
   .rw[<-F];exact A3.of hs ⟨qO,by simp only[maxLen] at e;omega⟩ (.inr ⟨b,o,O,CY.mk v⟩)
   .rw[D] at g;simp only[YtgmbafkdgmkfoaaGreatDoor.Rows.uptoBulk] at g;simp only[Re.size];omega
end
section
variable {H : Type} {enc : TypeId × Value → H} {w : World} {base : Nat} {spare : Nat → Bool} {held : Bool}
def Yr (d:DataW H) (n:Nat):Prop:=n=0∨∃ds sp,d=.slice ds sp∧ds.length=n
theorem TV:∀(l:List (DataW H)),l.length<=YtgmbafkdgmkfoaaGreatDoor.Rows.uptoBulkAll l
 | []=>dU _
 | d::r=>by
  have h1:=TV r;have h2:1<=YtgmbafkdgmkfoaaGreatDoor.Rows.uptoBulk d:=by cases d<;>first|(simp[YtgmbafkdgmkfoaaGreatDoor.Rows.uptoBulk];done)|(rename_i l;cases l<;>simp[YtgmbafkdgmkfoaaGreatDoor.Rows.uptoBulk])
  simp only[YtgmbafkdgmkfoaaGreatDoor.Rows.uptoBulkAll,d_];omega
theorem RN {t e c:Nat} {cs:n_} {x:DataW H×List MemPlace} (q:(prog).underlying t=some (.slice e)) (u:(prog).underlying e=some (.int .i64)) (k:(prog).cellsOf e=1)
 (h:DataW.trod enc prog w base spare held c t cs=some x):∃a l cap,cs=[.slice a l.length cap]∧Bw w (.slice a l.length cap) l∧Yr x.1 l.length:=by
 obtain ⟨a,rows,cap,rfl,p,h2,_,_,f⟩:=I1 (R:=λcs _=>∃n:Int,cs=GB n) q k qD h (λn cs' y _ o=>by obtain ⟨m,rfl,_⟩:=DataW.trod_int u o;exact ⟨m,O⟩);have v:∀r∈rows,∃s:Int,r=GB s:=by
  intro r j;rcases f with rfl|⟨ds,g,_,_,b⟩
  .cases j
  .obtain ⟨i,hi⟩:=eS.1 j;obtain ⟨_,_,d⟩:=b i r hi;exact d
 obtain ⟨l,rfl⟩:=Li v;refine ⟨a,l,cap,qP,by simpa[Bw] using p,?_⟩;rcases f with b|⟨ds,g,b,d,_⟩
 .left;simpa using b
 .right;exact ⟨ds,g,b,by simpa using d⟩
theorem Yr.bulk1 {d:DataW H} {n:Nat} (a:Yr d n):n+1<=YtgmbafkdgmkfoaaGreatDoor.Rows.uptoBulk d:=by
 have b:1<=YtgmbafkdgmkfoaaGreatDoor.Rows.uptoBulk d:=by cases d<;>first|(simp[YtgmbafkdgmkfoaaGreatDoor.Rows.uptoBulk];done)|(rename_i l;cases l<;>simp[YtgmbafkdgmkfoaaGreatDoor.Rows.uptoBulk])
 rcases a with rfl|⟨es,sp,rfl,rfl⟩
 .exact b
 .have:=TV es;simp only[YtgmbafkdgmkfoaaGreatDoor.Rows.uptoBulk];omega
end
section
variable {H : Type} {enc : TypeId × Value → H} {w : World} {base : Nat} {spare : Nat → Bool} {held : Bool}
theorem Ye:prog.cellsOf 46=1:=by kernel_rfl
def aS (w:World) (cs:n_) (d:DataW H):Prop:=∃a l cap,cs=[.slice a (List.length (α:=Int) l) cap]∧Bw w (.slice a l.length cap) l∧Yr d l.length
theorem Nl:∀(rows:List n_) (ds:List (DataW H)),ds.length=rows.length->(∀(i:Nat) r,rows[i]?=some r->∃d,ds[i]?=some d∧aS w r d)->
 ∃(vs:n_) (ll:List oB),rows=vs.map (λx=>[x])∧vs.length=ll.length∧(∀(i:Nat) u l,vs[i]?=some u->ll[i]?=some l->Bw w u l)∧ll.flatten.length+ll.length<=YtgmbafkdgmkfoaaGreatDoor.Rows.uptoBulkAll ds
 | [],_,_,_=>⟨[],[],O,O,λi u l h=>by simp at h,dR _⟩
 | r::rows,[],hl,_=>by cases hl
 | r::rows,d::ds,hl,h=>by
  obtain ⟨d0,b,a,l,cap,rfl,m,g⟩:=h 0 r O;simp at b;subst b;obtain ⟨vs,ll,f,n,k,h6⟩:=Nl rows ds (by simpa using hl) λi r j=>h (i+1) r (by simpa using j);refine ⟨.slice a l.length cap::vs,l::ll,by rw[f];rfl,by simp[n],λi u q c e=>?_,?_⟩
  .cases i with
   | zero=>simp at c e;subst c;subst e;exact m
   | succ i=>exact k i u q (by simpa using c) (by simpa using e)
  .have:=g.bulk1;simp only[fE,dN,d_,YtgmbafkdgmkfoaaGreatDoor.Rows.uptoBulkAll];omega
theorem Px {fuel:Nat} {cs:n_} {x:DataW H×List MemPlace} (h:DataW.trod enc prog w base spare held fuel 26 cs=some x):∃a ll cap,cs=[.slice a (List.length (α:=List Int) ll) cap]∧Gr w (.slice a ll.length cap) ll∧ll.flatten.length+ll.length<=YtgmbafkdgmkfoaaGreatDoor.Rows.uptoBulk x.1:=by
 obtain ⟨a,aa,cap,rfl,h1,h2,_,_,h3⟩:=I1 (R:=aS w) lO Ye qD h (λn cs' y _ hy=>by
  obtain ⟨a,l,cap,h4,h5,h6⟩:=RN eA fY R7 hy;exact ⟨a,l,cap,h4,h5,h6⟩)
 rcases h3 with rfl|⟨ds,sp,h4,h5,h6⟩
 ·exact ⟨a,[],cap,O,⟨[],h1,O,λi u l h=>by simp at h⟩,dR _⟩
 ·obtain ⟨vs,ll,rfl,h7,h8,h9⟩:=Nl aa ds h5 h6;refine ⟨a,ll,cap,by simp[h7],⟨vs,by simpa[h7] using h1,h7,h8⟩,?_⟩;rw[h4];simp only[YtgmbafkdgmkfoaaGreatDoor.Rows.uptoBulk];omega
end
end Go.Proofs
