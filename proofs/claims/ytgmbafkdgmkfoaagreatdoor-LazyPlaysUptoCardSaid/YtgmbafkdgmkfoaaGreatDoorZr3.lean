/- Contracts and plain lemmas, part 3. -/
import Derived.Test.YtgmbafkdgmkfoaaGreatDoorZr2
open Go.Proofs.Tryz
set_option maxHeartbeats 16000000
namespace Go.Proofs
open Go Go.Eng Go.Sort
set_option maxRecDepth 100000
def DQ (S:oD) (x:Re):G0:=λv w=>∃sa sc aa ac,v=.agg (R6 x sa sc aa ac)∧AR S w x (oJ x sa sc aa ac)
theorem BD (S:oD) (x:Re):FK (DQ S x):=by
 rintro v w w' e ⟨sa,sc,aa,ac,a,b⟩;exact ⟨sa,sc,aa,ac,a,AR.ext e x b⟩
theorem CI {S S':oD} {x:Re} {v:Value} {w:World} (d:∀b,S' b->S b) (h:∃a:n_,v=.agg a.toArray∧AR S' w x a):DQ S x v w:=by
 obtain ⟨a,rfl,h⟩:=h;have c:=AR.mono d x h;obtain ⟨sa,sc,aa,ac,rfl,_⟩:=c.form;exact ⟨sa,sc,aa,ac,O,c⟩
theorem GO {S:oD} {w:World} {t:Re} {sa aa:oE} {k m x:Int} {n sc n' ac:Nat} {ng:Bool} (h:AR S w t [I6 k,.slice sa n sc,.slice aa n' ac,I6 m,I6 x,.bool ng]):CE S w (.slice aa n' ac) t.args:=by
 obtain ⟨sa',sc',aa',ac',a,_,c,b⟩:=h.form;simp only[fV,Value.slice.injEq,and_true] at a;obtain ⟨_,_,⟨rfl,rfl,rfl⟩,_⟩:=a;exact ⟨_,_,O,c,b⟩
theorem IK {S S':oD} {w:World} {v:Value} {ts:List Re} (hs:∀b,S b->S' b) (h:CE S w v ts):CE S' w v ts:=by
 obtain ⟨aa,ac,f,d,a⟩:=h;refine ⟨aa,ac,f,d,?_⟩;rcases a with h|⟨b,o,g,e,c⟩
 .exact .inl h
 .exact .inr ⟨b,o,hs b g,e,BM.mono hs ts c⟩
theorem YS (w0:World):Bj prog 145 #[] w0 λv w=>DQ (λb=>w0.heap.size≤b) Ei v w∧Ah w0 w:=by
 refine qR func145 rfl ntmps145 rfl (λE=>(AA (BK (c:=#[(I6 0),(.slice none 0 0),(.slice none 0 0),(I6 0),(I6 0),(.bool false)]) qD A1 rfl ?_)));intro bo wo No;have Fo:=No.ge E;have E:=E.ext No.ext;have Bo:=No.blk;refine AB (AA (qE rfl (AS nB kQ kQ rfl) (Je _) ?_));rintro _ w9 ⟨rfl,X9⟩;have Bo:=X9.keep Bo;have E:=E.ext X9;refine Aw (ps:=[(0,(.agg #[(I6 0),(.slice none 0 0),(.slice none 0 0),(I6 0),(I6 0),(.bool false)]))]) (c:=#[(I6 0),(.slice none 0 0),(.slice none 0 0),(I6 0),(I6 0),(.bool false)]) qD rfl dJ AG A1 qD qD qK ?_;intro bp wp Np;have Fp:=Np.ge E;have Op_bo:=Np.lt Bo;have Bo:=Np.keep Bo;have E:=E.ext Np.ext;have Bp:=Np.blk;refine qV (B0 (ps:=[(0,(I6 8)),(2,(.slice (oI bp 0) 1 1))]) (v:=(.agg #[(I6 8),(.slice none 0 0),(.slice (oI bp 0) 1 1),(I6 0),(I6 0),(.bool false)])) rfl qK) (Aa (b:=bo) (o:=0) (c':=#[(I6 8),(.slice none 0 0),(.slice (oI bp 0) 1 1),(I6 0),(I6 0),(.bool false)]) rfl rfl qS AG rfl Bo qL rfl ?_);intro w1 S1;have Bp:=S1.keep qO Bp;have E:=S1.step E (by first|exact dH qO|assumption|exact dG rfl|exact dG (by assumption)|exact dG qP|exact dG qO|exact dG (by dsimp only;omega));have Bo:=S1.blk;refine AB (AO (A2 results145 (vs:=[(I6 8),(.slice none 0 0),(.slice (oI bp 0) 1 1),(I6 0),(I6 0),(.bool false)]) (b:=bo) rfl Ad AG rfl (Bo.cells rfl) ?_));exact ⟨⟨_,_,_,_,rfl,AR.of (set:=[]) (args:=[BO]) (B_.nil _ _ _ _ _) qP (.inr ⟨bp,0,by show w0.heap.size≤bp;omega,rfl,BM.one (Bp.cells rfl) (CF _ _ 0)⟩)⟩,E⟩
theorem MJ {k:Int} {l:List Re} (h:∀x∈l,Au x):∀x∈BS k l,Ep x=true:=λx c=>by
 obtain ⟨y,b,⟨_,d⟩|⟨_,rfl⟩⟩:=D7.1 c
 .exact GG ((h y b).a x d)
 .exact GG (h x b)
theorem Cm {x:Re} (h:Au x):(x.kind=3∨x.kind=4∨x.kind=7->x.args≠[])∧(x.kind=8->x.args≠[]):=by
 refine ⟨λa e=>?_,λa e=>?_⟩
 .have hn:=h.n;rcases a with a|a|a
  .have:=(hn.k3 a).1;rw[e] at this;simp at this
  .have:=(hn.k4 a).1;rw[e] at this;simp at this
  .have:=(hn.k7 a).1;rw[e] at this;simp at this
 .obtain ⟨y,b,_⟩:=h.n.k8 a;rw[e] at b;cases b
theorem QL {k:Int} {l:List Re} (h:∀x∈l,Au x):∀x∈BS k l,Au x:=λx c=>by
 obtain ⟨y,b,⟨_,d⟩|⟨_,rfl⟩⟩:=D7.1 c
 .exact (h y b).a x d
 .exact h x b
theorem FV (t:Re):DS t=C5 t.kind t.set t.args t.mn t.mx t.neg:=by cases t;rfl
section
variable {t : Re}
theorem cP (h:t.kind=3):DS t=De t.args:=by rw[FV];unfold C5;simp[h]
theorem cO (h:t.kind=4):DS t=Gw t.kind t.args DV CC BO:=by rw[FV];unfold C5;simp[h]
theorem cM (h:t.kind=7):DS t=Gw t.kind t.args CC DV Ei:=by rw[FV];unfold C5;simp[h]
theorem bH {x:Re} (h:t.kind=5) (a:t.args.headD BO=x):DS t=if x.kind=0∨x.kind=1 then BT else if x.kind=5 then x else t:=by rw[FV];unfold C5;rw[a];simp[h];cases t;simp[Re.kind] at h;subst h;rfl
theorem cN {x:Re} (h:t.kind=6) (a:t.args.headD BO=x):DS t=if t.mx=0∨x.kind=1∨(x.kind=0∧t.mn=0) then BT else if x.kind=0∨(t.mn=1∧t.mx=1) then x else t:=by rw[FV];unfold C5;rw[a];simp[h];cases t;simp[Re.kind] at h;subst h;rfl
theorem cC {x:Re} (h:t.kind=8) (a:t.args.headD BO=x):DS t=if x.kind=8 then x.args.headD BO else t:=by rw[FV];unfold C5;rw[a];simp[h];cases t;simp[Re.kind] at h;subst h;rfl
theorem cL (h:t.kind≠3∧t.kind≠4∧t.kind≠5∧t.kind≠6∧t.kind≠7∧t.kind≠8):DS t=t:=by rw[FV];unfold C5;simp[h];cases t;rfl
end
theorem LF (w0:World) (S:Nat→Prop) (t:Re) (vs:n_) (ht:AR S w0 t vs) (hS:∀x,S x→x<w0.heap.size) (hp:PreN t.kind t.set t.args t.mn t.mx t.neg) (ha:∀y∈t.args,Au y) (hsz:Re.sizes t.args≤1000000) :
  Bj prog 113 #[.agg vs.toArray] w0 λr w=>(∃us,r=.agg us.toArray∧AR (λb=>S b∨w0.heap.size≤b) w (DS t) us)∧Ah w0 w:=by
 have a9:=ht;obtain ⟨sa,sc,aa,ac,rfl,c2,cv,an⟩:=ht.form;have cb:CE S w0 (.slice aa t.args.length ac) t.args:=GO a9;obtain ⟨N,hN⟩:∃N,N=DS t:=⟨_,rfl⟩;rw[←hN];refine qR func113 rfl ntmps113 rfl (λE=>(AA (BC (v:=(.agg (R6 t sa sc aa ac))) (c:=(R6 t sa sc aa ac)) qD rfl rfl ?_)));intro br wr Nr;have Fr:=Nr.ge E;have E:=E.ext Nr.ext;have Br:=Nr.blk;refine BK (c:=#[(I6 0),(.slice none 0 0),(.slice none 0 0),(I6 0),(I6 0),(.bool false)]) qD A1 rfl ?_;intro bo wo No;have Fo:=No.ge E;have Oo_br:=No.lt Br;have Br:=No.keep Br;have E:=E.ext No.ext;have Bo:=No.blk;refine AB (AH (AA (qF br 0 0 rfl dI rfl Al rfl (qV (AJ rfl Ag (Br.cell rfl)) (AB (AW (AA (qV (Ai rfl rfl) (qA _ rfl (AB ?_))))))))));obtain ⟨n1,b9⟩:∃n1,n1=wo.heap.size:=⟨_,rfl⟩;have hob:br<n1∧bo<n1∧w0.heap.size≤bo∧w0.heap.size≤n1:=⟨by rw[b9];exact Br.lt,by rw[b9];exact Bo.lt,qO,by rw[b9];exact E.size⟩;refine qC rfl (λh3=>?_) (λh3=>?_)
 ·have ck:N=De t.args:=hN.trans (cP h3);refine AA (qF br 0 2 rfl dI rfl BF rfl (qV (AJ rfl A9 (Br.cell rfl)) (qE rfl (AS nC kQ kQ rfl) ((MS _ S _ t.args (cb.ext E) (λx hx=>by have:=hS x hx;have:=E.size;omega) (λx hm hk=>(Cm (ha x hm)).1 (.inl hk)) hsz).mono (R':=λr w=>DQ (λb=>S b∨n1≤b) N r w∧Ah wo w) (λr w h=>⟨CI (S':=λb=>S b∨wo.heap.size≤b) (λb hb=>by rcases hb with h1|h1;exact .inl h1;exact .inr qO) (by rw[ck];exact h.1),h.2⟩)) ?_)));rintro _ w9 ⟨⟨xa,xc,ya,yc,rfl,hR⟩,X9⟩;have Br:=X9.keep Br;have Bo:=X9.keep Bo;have E:=E.ext X9;refine Aa (b:=bo) (o:=0) (c':=(R6 N xa xc ya yc)) rfl rfl qS AG rfl Bo qL rfl ?_;intro w2 S2;have hR:=AR.chg S2.chg (λy hy h=>by have h2:y=bo:=h;rcases hy with h1|h1;have:=hS y h1;omega;omega) _ hR;have Br:=S2.keep qO Br;have E:=S2.step E (by first|exact dH qO|assumption|exact dG rfl|exact dG (by assumption)|exact dG qP|exact dG qO|exact dG (by dsimp only;omega));have Bo:=S2.blk;refine AB (AO (Ac (AK (A2 gU (vs:=(oJ N xa xc ya yc)) (b:=bo) rfl Ad AG rfl (Bo.cells rfl) ?_))));exact ⟨⟨_,rfl,AR.mono (λy hy=>by rcases hy with h1|h1;exact .inl h1;exact .inr qO) _ hR⟩,E⟩
 ·refine AA (qV (Ai rfl rfl) (qA _ rfl (AB (qC rfl (λh4=>?_) (λh4=>?_)))))
  ·have c6:N=Gw t.kind t.args DV CC BO:=hN.trans (cO h4);have cn:w0.heap.size≤wo.heap.size:=E.size;have bw:br<wo.heap.size:=Br.lt;have b2:bo<wo.heap.size:=Bo.lt;refine AH ?_;obtain ⟨c9,aj⟩:∃Fs:List Fact,Fs=[.eq (P6 br 0),.eq (I6 t.kind),.eq (P6 br 2),.eq (.slice aa t.args.length ac),.eq (.agg #[(I6 0),(.slice none 0 0),(.slice none 0 0),(I6 0),(I6 0),(.bool false)]),.gen (DQ (λb=>S b∨n1≤b) N) (BD _ _),.eq undef]:=⟨_,rfl⟩;refine FQ [true,true,true,true,true,true,false] [6] [15,16,17,18,19,20,105] [[],[0],[],[2],[],[1,3,4],[]] c9 aj mixed qK qK qK qK ?_ ?_
   ·intro wd X0;refine DagStepsP.cons (λs' w' X U H=>dH ⟨?_,?_⟩) ?_
    ·exact AE rfl
    ·exact AP (AQ (U 1 rfl) dI rfl Al rfl) (Ah.refl _) rfl
    refine DagStepsP.cons (λs' w' X U H=>dH ⟨?_,?_⟩) ?_
    ·exact AE rfl
    ·have c8:s' 15=(P6 br 0):=H 0 rfl 15 (.eq (P6 br 0)) rfl (by rw[aj];rfl);exact AP (AJ c8 Ag (((X0.trans X).keep Br).cell rfl)) (Ah.refl _) rfl
    refine DagStepsP.cons (λs' w' X U H=>dH ⟨?_,?_⟩) ?_
    ·exact AE rfl
    ·exact AP (AQ (U 1 rfl) dI rfl BF rfl) (Ah.refl _) rfl
    refine DagStepsP.cons (λs' w' X U H=>dH ⟨?_,?_⟩) ?_
    ·exact AE rfl
    ·have cx:s' 17=(P6 br 2):=H 2 rfl 17 (.eq (P6 br 2)) rfl (by rw[aj];rfl);exact AP (AJ cx A9 (((X0.trans X).keep Br).cell rfl)) (Ah.refl _) rfl
    refine DagStepsP.cons (λs' w' X U H=>dH ⟨?_,?_⟩) ?_
    ·exact AE rfl
    ·exact A7 (AS nB kQ kQ rfl) (Je _)
    refine DagStepsP.cons (λs' w' X U H=>dH ⟨?_,?_⟩) ?_
    ·exact AE rfl
    ·have cm:s' 16=(I6 t.kind):=H 1 rfl 16 (.eq (I6 t.kind)) rfl (by rw[aj];rfl);have cs:s' 18=(.slice aa t.args.length ac):=H 3 rfl 18 (.eq (.slice aa t.args.length ac)) rfl (by rw[aj];rfl);have cl:s' 19=(.agg #[(I6 0),(.slice none 0 0),(.slice none 0 0),(I6 0),(I6 0),(.bool false)]):=H 4 rfl 19 (.eq (.agg #[(I6 0),(.slice none 0 0),(.slice none 0 0),(I6 0),(I6 0),(.bool false)])) rfl (by rw[aj];rfl);exact A7 (AS func141 kQ kQ (aQ cm cs rfl rfl cl)) ((Qe _ S t.kind _ _ _ t.args DV CC BO _ (cb.ext (Ah.trans E (X0.trans X))) (CF _ _ _) (λx hx=>by have:=hS x hx;have:=E.size;have:=X0.size;have:=X.size;omega) (λx hm hk=>(Cm (ha x hm)).1 qO) hsz (MJ ha) (λw x vs hm hx=>CG.mk (first:=#[]) (cap:=#[]) func142 kQ kQ rfl (QX w x vs hx (Cm (ha x hm)).2)) (λw x vs hm hx=>CG.mk (first:=#[]) (cap:=#[]) func143 kQ kQ rfl (KR w x vs hx))).mono (λr w h=>⟨CI (S':=λb=>S b∨w'.heap.size≤b) (λb hb=>by rcases hb with h1|h1;exact .inl h1;exact .inr (by have:=X0.size;have:=X.size;omega)) (by rw[c6];exact h.1),h.2⟩))
    refine DagStepsP.tail ?_;exact DagStepsP.nil
   ·intro s' w4 X4 U H;obtain ⟨aw,a5,av,ay,cu,b8⟩:=H 5 rfl 20 (.gen (DQ (λb=>S b∨n1≤b) N) (BD _ _)) rfl (by rw[aj];rfl);obtain ⟨j4,rfl⟩:=Ak.out (σ:=s') (l:=[(2,(P6 bo 0)),(20,(.agg (R6 N aw a5 av ay)))]) ⟨U 2 rfl,cu,trivial⟩;clear U H;have Br:=X4.keep Br;have Bo:=X4.keep Bo;have E:=E.ext X4;refine Aa (b:=bo) (o:=0) (c':=(R6 N aw a5 av ay)) rfl rfl qS AG rfl Bo qL rfl ?_;intro w5 S5;have b8:=AR.chg S5.chg (λy hy h=>by have h2:y=bo:=h;rcases hy with h1|h1;have:=hS y h1;omega;omega) _ b8;have Br:=S5.keep qO Br;have E:=S5.step E (by first|exact dH qO|assumption|exact dG rfl|exact dG (by assumption)|exact dG qP|exact dG qO|exact dG (by dsimp only;omega));have Bo:=S5.blk;refine AB (AC (AO (Ac (AK (A2 gU (vs:=(oJ N aw a5 av ay)) (b:=bo) rfl Ad AG rfl (Bo.cells rfl) ?_)))));exact ⟨⟨_,rfl,AR.mono (λy hy=>by rcases hy with h1|h1;exact .inl h1;exact .inr qO) _ b8⟩,E⟩
  ·refine AA (qV (Ai rfl rfl) (qA _ rfl (AB (qC rfl (λh7=>?_) (λh7=>?_)))))
   ·have cr:N=Gw t.kind t.args CC DV Ei:=hN.trans (cM h7);have co:w0.heap.size≤wo.heap.size:=E.size;have bu:br<wo.heap.size:=Br.lt;have bs:bo<wo.heap.size:=Bo.lt;refine AH ?_;obtain ⟨c3,ak⟩:∃Fs:List Fact,Fs=[.eq (P6 br 0),.eq (I6 t.kind),.eq (P6 br 2),.eq (.slice aa t.args.length ac),.gen (DQ (λb=>S b∨n1≤b) Ei) (BD _ _),.gen (DQ (λb=>S b∨n1≤b) N) (BD _ _),.eq undef]:=⟨_,rfl⟩;refine FQ [true,true,true,true,true,true,false] [6] [23,24,25,26,27,28,105] [[],[0],[],[2],[],[1,3,4],[]] c3 ak mixed qK qK qK qK ?_ ?_
    ·intro wd X0;refine DagStepsP.cons (λs' w' X U H=>dH ⟨?_,?_⟩) ?_
     ·exact AE rfl
     ·exact AP (AQ (U 1 rfl) dI rfl Al rfl) (Ah.refl _) rfl
     refine DagStepsP.cons (λs' w' X U H=>dH ⟨?_,?_⟩) ?_
     ·exact AE rfl
     ·have cz:s' 23=(P6 br 0):=H 0 rfl 23 (.eq (P6 br 0)) rfl (by rw[ak];rfl);exact AP (AJ cz Ag (((X0.trans X).keep Br).cell rfl)) (Ah.refl _) rfl
     refine DagStepsP.cons (λs' w' X U H=>dH ⟨?_,?_⟩) ?_
     ·exact AE rfl
     ·exact AP (AQ (U 1 rfl) dI rfl BF rfl) (Ah.refl _) rfl
     refine DagStepsP.cons (λs' w' X U H=>dH ⟨?_,?_⟩) ?_
     ·exact AE rfl
     ·have cy:s' 25=(P6 br 2):=H 2 rfl 25 (.eq (P6 br 2)) rfl (by rw[ak];rfl);exact AP (AJ cy A9 (((X0.trans X).keep Br).cell rfl)) (Ah.refl _) rfl
     refine DagStepsP.cons (λs' w' X U H=>dH ⟨?_,?_⟩) ?_
     ·exact AE rfl
     ·exact A7 (AS func145 kQ kQ rfl) ((YS _).mono (λr w h=>⟨(by obtain ⟨⟨a1,a2,a3,a4,h1,h2⟩,_⟩:=h;exact ⟨a1,a2,a3,a4,h1,AR.mono (λb hb=>.inr (by have:=X0.size;have:=X.size;have hb':_≤b:=hb;omega)) _ h2⟩:DQ (λb=>S b∨n1≤b) Ei r w),h.2⟩))
     refine DagStepsP.cons (λs' w' X U H=>dH ⟨?_,?_⟩) ?_
     ·exact AE rfl
     ·have cq:s' 24=(I6 t.kind):=H 1 rfl 24 (.eq (I6 t.kind)) rfl (by rw[ak];rfl);have dc:s' 26=(.slice aa t.args.length ac):=H 3 rfl 26 (.eq (.slice aa t.args.length ac)) rfl (by rw[ak];rfl);obtain ⟨c5,c1,cp,c7,db,c0⟩:=H 4 rfl 27 (.gen (DQ (λb=>S b∨n1≤b) Ei) (BD _ _)) rfl (by rw[ak];rfl);exact A7 (AS func141 kQ kQ (aQ cq dc rfl rfl db)) ((Qe _ (λb=>(S b∨n1≤b)∧b<w'.heap.size) t.kind _ _ _ t.args CC DV Ei _ (CE.lt (IK (λb hb=>.inl hb) (cb.ext (Ah.trans E (X0.trans X))))) (AR.lt _ c0) (λx hx=>hx.2) (λx hm hk=>(Cm (ha x hm)).1 qO) hsz (MJ ha) (λw x vs hm hx=>CG.mk (first:=#[]) (cap:=#[]) func143 kQ kQ rfl (KR w x vs hx)) (λw x vs hm hx=>CG.mk (first:=#[]) (cap:=#[]) func142 kQ kQ rfl (QX w x vs hx (Cm (QL ha x hm)).2))).mono (λr w h=>⟨CI (S':=λb=>((S b∨n1≤b)∧b<w'.heap.size)∨w'.heap.size≤b) (λb hb=>by rcases hb with h1|h1;exact h1.1;exact .inr (by have:=X0.size;have:=X.size;omega)) (by rw[cr];exact h.1),h.2⟩))
     refine DagStepsP.tail ?_;exact DagStepsP.nil
    ·intro s' w7 X7 U H;obtain ⟨au,a0,az,a7,da,ca⟩:=H 5 rfl 28 (.gen (DQ (λb=>S b∨n1≤b) N) (BD _ _)) rfl (by rw[ak];rfl);obtain ⟨j7,rfl⟩:=Ak.out (σ:=s') (l:=[(2,(P6 bo 0)),(28,(.agg (R6 N au a0 az a7)))]) ⟨U 2 rfl,da,trivial⟩;clear U H;have Br:=X7.keep Br;have Bo:=X7.keep Bo;have E:=E.ext X7;refine Aa (b:=bo) (o:=0) (c':=(R6 N au a0 az a7)) rfl rfl qS AG rfl Bo qL rfl ?_;intro w8 S8;have ca:=AR.chg S8.chg (λy hy h=>by have h2:y=bo:=h;rcases hy with h1|h1;have:=hS y h1;omega;omega) _ ca;have Br:=S8.keep qO Br;have E:=S8.step E (by first|exact dH qO|assumption|exact dG rfl|exact dG (by assumption)|exact dG qP|exact dG qO|exact dG (by dsimp only;omega));have Bo:=S8.blk;refine AB (AC (AO (Ac (AK (A2 gU (vs:=(oJ N au a0 az a7)) (b:=bo) rfl Ad AG rfl (Bo.cells rfl) ?_)))));exact ⟨⟨_,rfl,AR.mono (λy hy=>by rcases hy with h1|h1;exact .inl h1;exact .inr qO) _ ca⟩,E⟩
   ·refine AA (qV (Ai rfl rfl) (qA _ rfl (AB (qC rfl (λh5=>?_) (λh5=>?_)))))
    ·have bp:=hp.one qO;obtain ⟨x,hx⟩:=AU (l:=t.args) (i:=0) qO;have bq:=dK hx;have b1:=ha x bq;have bc:t.args.headD BO=x:=DJ hx;obtain ⟨ab,ao,ch,rfl,ap⟩:=an.resolve_left (λh=>by rw[h] at hx;cases hx);obtain ⟨us,bf,aq⟩:=ap.get hx;have am:=aq;obtain ⟨ah,ag,ai,af,rfl,_,ar,al⟩:=aq.form;refine AA (qF br 0 2 rfl dI rfl BF rfl (qV (AJ rfl A9 (Br.cell rfl)) (qV (AL (b:=ab) (o:=ao) (len:=t.args.length) (cap:=ac) (i:=0) (o':=ao+0*6) rfl rfl rfl dJ AG qO qO) (qV (AI rfl Ad AG rfl (bf.ext E)) ?_))));have bz:=hN.trans (bH h5 bc);refine As (v:=(.agg (R6 x ah ag ai af))) (c:=(R6 x ah ag ai af)) (n:=6) qD A1 rfl AG rfl rfl rfl qS ?_;intro bx wx Nx;have Fx:=Nx.ge E;have Ox_br:=Nx.lt Br;have Ox_bo:=Nx.lt Bo;have Br:=Nx.keep Br;have Bo:=Nx.keep Bo;have E:=E.ext Nx.ext;have Bx:=Nx.blk;refine AB (AA (qF bx 0 0 rfl dI rfl Al rfl (qV (AJ rfl Ag (Bx.cell rfl)) (AB (AW (AH (AA (qV (Ai rfl rfl) (qA _ rfl (AB (qC rfl (λk0=>?_) (λk0=>?_))))))))))))
     ·have cj:=decide_eq_true k0;have ad:N=BT:=by rw[bz,if_pos (.inl k0)]
      refine AM (AC (Aq (Ar cj) (AA (qE rfl (AS lV kQ kQ rfl) (GW _) ?_))));rintro _ bn ⟨rfl,ae⟩;have Br:=ae.keep Br;have Bo:=ae.keep Bo;have Bx:=ae.keep Bx;have E:=E.ext ae;refine Aa (b:=bo) (o:=0) (c':=#[(I6 1),(.slice none 0 0),(.slice none 0 0),(I6 0),(I6 0),(.bool false)]) rfl rfl qS AG rfl Bo qL rfl ?_;intro w11 b3;have Br:=b3.keep qO Br;have Bx:=b3.keep qO Bx;have E:=b3.step E (by first|exact dH qO|assumption|exact dG rfl|exact dG (by assumption)|exact dG qP|exact dG qO|exact dG (by dsimp only;omega));have Bo:=b3.blk;refine AB (AO (Ac (Ac (AK (A2 gU (vs:=[(I6 1),(.slice none 0 0),(.slice none 0 0),(I6 0),(I6 0),(.bool false)]) (b:=bo) rfl Ad AG rfl (Bo.cells rfl) ?_)))));exact ⟨⟨_,rfl,by rw[ad];exact CF _ _ _⟩,E⟩
     ·have cj:=decide_eq_false k0;refine AN (qV (Ai rfl rfl) (qA _ rfl (AB (AC (qC rfl (λk1=>?_) (λk1=>?_))))))
      ·have ad:N=BT:=by rw[bz,if_pos (.inr k1)]
       refine AA (qE rfl (AS lV kQ kQ rfl) (GW _) ?_);rintro _ bn ⟨rfl,ae⟩;have Br:=ae.keep Br;have Bo:=ae.keep Bo;have Bx:=ae.keep Bx;have E:=E.ext ae;refine Aa (b:=bo) (o:=0) (c':=#[(I6 1),(.slice none 0 0),(.slice none 0 0),(I6 0),(I6 0),(.bool false)]) rfl rfl qS AG rfl Bo qL rfl ?_;intro w13 bt;have Br:=bt.keep qO Br;have Bx:=bt.keep qO Bx;have E:=bt.step E (by first|exact dH qO|assumption|exact dG rfl|exact dG (by assumption)|exact dG qP|exact dG qO|exact dG (by dsimp only;omega));have Bo:=bt.blk;refine AB (AO (Ac (Ac (AK (A2 gU (vs:=[(I6 1),(.slice none 0 0),(.slice none 0 0),(I6 0),(I6 0),(.bool false)]) (b:=bo) rfl Ad AG rfl (Bo.cells rfl) ?_)))));exact ⟨⟨_,rfl,by rw[ad];exact CF _ _ _⟩,E⟩
      ·refine AA (qV (Ai rfl rfl) (qA _ rfl (AB (qC rfl (λk5=>?_) (λk5=>?_)))))
       ·have ad:N=x:=by rw[bz,if_neg qO,if_pos k5]
        have hR:AR S (wx) x _:=AR.ext E x am;refine AA (qV (AI (vs:=(oJ x ah ag ai af)) rfl Ad AG rfl (Bx.cells rfl)) (Aa (b:=bo) (o:=0) (c':=(R6 x ah ag ai af)) rfl rfl qS AG rfl Bo qL rfl ?_));intro w15 bj;have hR:=AR.chg bj.chg (λy hy h=>by have h2:y=bo:=h;have:=hS y hy;omega) x hR;have Br:=bj.keep qO Br;have Bx:=bj.keep qO Bx;have E:=bj.step E (by first|exact dH qO|assumption|exact dG rfl|exact dG (by assumption)|exact dG qP|exact dG qO|exact dG (by dsimp only;omega));have Bo:=bj.blk;refine AB (AO (Ac (Ac (AK (A2 gU (vs:=(oJ x ah ag ai af)) (b:=bo) rfl Ad AG rfl (Bo.cells rfl) ?_)))));exact ⟨⟨_,rfl,by rw[ad];exact AR.mono (λy hy=>.inl hy) x hR⟩,E⟩
       ·have ad:N=t:=by rw[bz,if_neg qO,if_neg k5]
        have hR:AR S (wx) t _:=AR.ext E t a9;refine AM (AV (AV (AC (AA (qV (AI (vs:=(oJ t sa sc (oI ab ao) ac)) rfl Ad AG rfl (Br.cells rfl)) (Aa (b:=bo) (o:=0) (c':=(R6 t sa sc (oI ab ao) ac)) rfl rfl qS AG rfl Bo qL rfl ?_))))));intro w16 be;have hR:=AR.chg be.chg (λy hy h=>by have h2:y=bo:=h;have:=hS y hy;omega) t hR;have Br:=be.keep qO Br;have Bx:=be.keep qO Bx;have E:=be.step E (by first|exact dH qO|assumption|exact dG rfl|exact dG (by assumption)|exact dG qP|exact dG qO|exact dG (by dsimp only;omega));have Bo:=be.blk;refine AB (AO (A2 gU (vs:=(oJ t sa sc (oI ab ao) ac)) (b:=bo) rfl Ad AG rfl (Bo.cells rfl) ?_));exact ⟨⟨_,rfl,by rw[ad];exact AR.mono (λy hy=>.inl hy) t hR⟩,E⟩
    ·refine AA (qV (Ai rfl rfl) (qA _ rfl (AB (qC rfl (λh6=>?_) (λh6=>?_)))))
     ·have bp:=hp.one qO;obtain ⟨x,hx⟩:=AU (l:=t.args) (i:=0) qO;have bq:=dK hx;have b1:=ha x bq;have bc:t.args.headD BO=x:=DJ hx;obtain ⟨ab,ao,ch,rfl,ap⟩:=an.resolve_left (λh=>by rw[h] at hx;cases hx);obtain ⟨us,bf,aq⟩:=ap.get hx;have am:=aq;obtain ⟨ah,ag,ai,af,rfl,_,ar,al⟩:=aq.form;refine AA (qF br 0 2 rfl dI rfl BF rfl (qV (AJ rfl A9 (Br.cell rfl)) (qV (AL (b:=ab) (o:=ao) (len:=t.args.length) (cap:=ac) (i:=0) (o':=ao+0*6) rfl rfl rfl dJ AG qO qO) (qV (AI rfl Ad AG rfl (bf.ext E)) ?_))));have a6:=hN.trans (cN h6 bc);refine As (v:=(.agg (R6 x ah ag ai af))) (c:=(R6 x ah ag ai af)) (n:=6) qD A1 rfl AG rfl rfl rfl qS ?_;intro bx wx Nx;have Fx:=Nx.ge E;have Ox_br:=Nx.lt Br;have Ox_bo:=Nx.lt Bo;have Br:=Nx.keep Br;have Bo:=Nx.keep Bo;have E:=E.ext Nx.ext;have Bx:=Nx.blk;refine AB (AW (AA (qF br 0 4 rfl dI rfl Al rfl (qV (AJ rfl Ag (Br.cell rfl)) (qV (Ai rfl rfl) (qM _ rfl ?_))))));rcases dT (decide ((t.mx:Int)=0)) with gm|gm
      ·have a8:=gm;have a8:=of_decide_eq_true a8;have ad:N=BT:=by rw[a6,if_pos (.inl a8)]
       refine AD rfl rfl qD (v:=.bool true) (Ar gm) (dH rfl) (AD rfl rfl qD (v:=.bool true) (Ar gm) (dH rfl) (AD rfl rfl qD (v:=.bool true) (Ar gm) (dH rfl) (qV (Af (v:=(.bool true)) rfl (by rw[gm];rfl)) (qM _ rfl (AD rfl rfl qD (v:=.bool true) rfl (dH rfl) (AD rfl rfl qD (v:=.bool true) rfl (dH rfl) (AD rfl rfl qD (v:=.bool true) rfl (dH rfl) (AD rfl rfl qD (v:=.bool true) rfl (dH rfl) (AD rfl rfl qD (v:=undef) rfl (dG rfl) (AD rfl rfl qD (v:=undef) rfl (dG rfl) (AD rfl rfl qD (v:=undef) rfl (dG rfl) (AD rfl rfl qD (v:=.bool true) rfl (dH rfl) (qV (Af rfl rfl) (qA _ rfl ?_))))))))))))));refine AB (Aq rfl (AA (qE rfl (AS lV kQ kQ rfl) (GW _) ?_)));rintro _ bn ⟨rfl,ae⟩;have Br:=ae.keep Br;have Bo:=ae.keep Bo;have Bx:=ae.keep Bx;have E:=E.ext ae;refine Aa (b:=bo) (o:=0) (c':=#[(I6 1),(.slice none 0 0),(.slice none 0 0),(I6 0),(I6 0),(.bool false)]) rfl rfl qS AG rfl Bo qL rfl ?_;intro w19 b6;have Br:=b6.keep qO Br;have Bx:=b6.keep qO Bx;have E:=b6.step E (by first|exact dH qO|assumption|exact dG rfl|exact dG (by assumption)|exact dG qP|exact dG qO|exact dG (by dsimp only;omega));have Bo:=b6.blk;refine AB (AO (Ac (Ac (AK (A2 gU (vs:=[(I6 1),(.slice none 0 0),(.slice none 0 0),(I6 0),(I6 0),(.bool false)]) (b:=bo) rfl Ad AG rfl (Bo.cells rfl) ?_)))));exact ⟨⟨_,rfl,by rw[ad];exact CF _ _ _⟩,E⟩
      ·have a8:=gm;have a8:=of_decide_eq_false a8;refine AF rfl rfl qD (Ar gm) (qF bx 0 0 rfl dI rfl Al rfl (AF rfl rfl qD (Ar gm) (qV (AJ rfl Ag (Bx.cell rfl)) (AF rfl rfl qD (Ar gm) (qV (Ai rfl rfl) (qV (Af (v:=(.bool (decide ((x.kind:Int)=1)))) rfl (by rw[gm];rfl)) (qM _ rfl ?_)))))));rcases dT (decide ((x.kind:Int)=1)) with g1|g1
       ·have bb:=g1;have bb:=of_decide_eq_true bb;have ad:N=BT:=by rw[a6,if_pos (.inr (.inl bb))]
        refine AD rfl rfl qD (v:=.bool true) (Ar g1) (dH rfl) (AD rfl rfl qD (v:=.bool true) (Ar g1) (dH rfl) (AD rfl rfl qD (v:=.bool true) (Ar g1) (dH rfl) (AD rfl rfl qD (v:=.bool true) (Ar g1) (dH rfl) (AD rfl rfl qD (v:=undef) rfl (dG rfl) (AD rfl rfl qD (v:=undef) rfl (dG rfl) (AD rfl rfl qD (v:=undef) rfl (dG rfl) (AD rfl rfl qD (v:=.bool true) (Ar g1) (dH rfl) (qV (Af (v:=(.bool true)) rfl (by rw[g1];rfl)) (qA _ rfl (AB (Aq rfl (AA (qE rfl (AS lV kQ kQ rfl) (GW _) ?_)))))))))))));rintro _ bn ⟨rfl,ae⟩;have Br:=ae.keep Br;have Bo:=ae.keep Bo;have Bx:=ae.keep Bx;have E:=E.ext ae;refine Aa (b:=bo) (o:=0) (c':=#[(I6 1),(.slice none 0 0),(.slice none 0 0),(I6 0),(I6 0),(.bool false)]) rfl rfl qS AG rfl Bo qL rfl ?_;intro w21 b5;have Br:=b5.keep qO Br;have Bx:=b5.keep qO Bx;have E:=b5.step E (by first|exact dH qO|assumption|exact dG rfl|exact dG (by assumption)|exact dG qP|exact dG qO|exact dG (by dsimp only;omega));have Bo:=b5.blk;refine AB (AO (Ac (Ac (AK (A2 gU (vs:=[(I6 1),(.slice none 0 0),(.slice none 0 0),(I6 0),(I6 0),(.bool false)]) (b:=bo) rfl Ad AG rfl (Bo.cells rfl) ?_)))));exact ⟨⟨_,rfl,by rw[ad];exact CF _ _ _⟩,E⟩
       ·have bb:=g1;have bb:=of_decide_eq_false bb;refine AF rfl rfl qD (Ar g1) (qF bx 0 0 rfl dI rfl Al rfl (AF rfl rfl qD (Ar g1) (qV (AJ rfl Ag (Bx.cell rfl)) (AF rfl rfl qD (Ar g1) (qV (Ai rfl rfl) (AF rfl rfl qD (Ar g1) (qM _ rfl ?_)))))));rcases dT (decide ((x.kind:Int)=0)) with g0|g0
        ·have ax:=g0;have ax:=of_decide_eq_true ax;refine AF rfl rfl qD (Ar g0) (qF br 0 3 rfl dI rfl Al rfl (AF rfl rfl qD (Ar g0) (qV (AJ rfl Ag (Br.cell rfl)) (AF rfl rfl qD (Ar g0) (qV (Ai rfl rfl) (AF rfl rfl qD (Ar g1) (qV (Af (v:=(.bool (decide ((t.mn:Int)=0)))) rfl (by rw[g0];rfl)) (qV (Af (v:=(.bool (decide ((t.mn:Int)=0)))) rfl (by rw[g1];rfl)) (qA _ rfl (AB (qC rfl (λgz=>?_) (λgz=>?_))))))))))))
         ·have ad:N=BT:=by rw[a6,if_pos (.inr (.inr ⟨ax,gz⟩))]
          refine AA (qE rfl (AS lV kQ kQ rfl) (GW _) ?_);rintro _ bn ⟨rfl,ae⟩;have Br:=ae.keep Br;have Bo:=ae.keep Bo;have Bx:=ae.keep Bx;have E:=E.ext ae;refine Aa (b:=bo) (o:=0) (c':=#[(I6 1),(.slice none 0 0),(.slice none 0 0),(I6 0),(I6 0),(.bool false)]) rfl rfl qS AG rfl Bo qL rfl ?_;intro w24 b0;have Br:=b0.keep qO Br;have Bx:=b0.keep qO Bx;have E:=b0.step E (by first|exact dH qO|assumption|exact dG rfl|exact dG (by assumption)|exact dG qP|exact dG qO|exact dG (by dsimp only;omega));have Bo:=b0.blk;refine AB (AO (Ac (Ac (AK (A2 gU (vs:=[(I6 1),(.slice none 0 0),(.slice none 0 0),(I6 0),(I6 0),(.bool false)]) (b:=bo) rfl Ad AG rfl (Bo.cells rfl) ?_)))));exact ⟨⟨_,rfl,by rw[ad];exact CF _ _ _⟩,E⟩
         ·refine AA (qF bx 0 0 rfl dI rfl Al rfl (qV (AJ rfl Ag (Bx.cell rfl)) (qV (Ai rfl rfl) (qM _ rfl (AD rfl rfl qD (v:=.bool true) (Ar g0) (dH rfl) (AD rfl rfl qD (v:=.bool true) (Ar g0) (dH rfl) (AD rfl rfl qD (v:=.bool true) (Ar g0) (dH rfl) (AD rfl rfl qD (v:=.bool true) (Ar g0) (dH rfl) (AD rfl rfl qD (v:=undef) rfl (dG rfl) (AD rfl rfl qD (v:=undef) rfl (dG rfl) (AD rfl rfl qD (v:=undef) rfl (dG rfl) (AD rfl rfl qD (v:=.bool true) (Ar g0) (dH rfl) (qV (Af (v:=(.bool true)) rfl (by rw[g0];rfl)) (qA _ rfl ?_))))))))))))));refine AB (Aq rfl (AA (qV (AI (vs:=(oJ x ah ag ai af)) rfl Ad AG rfl (Bx.cells rfl)) (Aa (b:=bo) (o:=0) (c':=(R6 x ah ag ai af)) rfl rfl qS AG rfl Bo qL rfl ?_))));intro cw b4;have Br:=b4.keep qO Br;have Bx:=b4.keep qO Bx;have E:=b4.step E (by first|exact dH qO|assumption|exact dG rfl|exact dG (by assumption)|exact dG qP|exact dG qO|exact dG (by dsimp only;omega));have Bo:=b4.blk;refine AB (AO (Ac (Ac (AK (A2 gU (vs:=(oJ x ah ag ai af)) (b:=bo) rfl Ad AG rfl (Bo.cells rfl) ?_)))));have ad:N=x:=by rw[a6,if_neg qO,if_pos (.inl ax)]
          have hR:AR S (cw) x _:=AR.ext E x am;exact ⟨⟨_,rfl,by rw[ad];exact AR.mono (λy hy=>.inl hy) x hR⟩,E⟩
        ·have ax:=g0;have ax:=of_decide_eq_false ax;refine AD rfl rfl qD (v:=.bool false) (Ar g0) (dH rfl) (AD rfl rfl qD (v:=.bool false) (Ar g0) (dH rfl) (AD rfl rfl qD (v:=.bool false) (Ar g0) (dH rfl) (AF rfl rfl qD (Ar g1) (qV (Af (v:=(.bool false)) rfl (by rw[g0];rfl)) (qV (Af (v:=(.bool false)) rfl (by rw[g1];rfl)) (qA _ rfl (AB (Ae rfl (AA (qF bx 0 0 rfl dI rfl Al rfl (qV (AJ rfl Ag (Bx.cell rfl)) (qV (Ai rfl rfl) (qM _ rfl (AF rfl rfl qD (Ar g0) ?_))))))))))))));refine qF br 0 3 rfl dI rfl Al rfl (AF rfl rfl qD (Ar g0) (qV (AJ rfl Ag (Br.cell rfl)) (AF rfl rfl qD (Ar g0) (qV (Ai rfl rfl) (AF rfl rfl qD (Ar g0) (qM _ rfl ?_))))));rcases dT (decide ((t.mn:Int)=1)) with g2|g2
         ·have ba:=g2;have ba:=of_decide_eq_true ba;refine AF rfl rfl qD (Ar g2) (qF br 0 4 rfl dI rfl Al rfl (AF rfl rfl qD (Ar g2) (qV (AJ rfl Ag (Br.cell rfl)) (AF rfl rfl qD (Ar g2) (qV (Ai rfl rfl) (AF rfl rfl qD (Ar g0) (qV (Af (v:=(.bool (decide ((t.mx:Int)=1)))) rfl (by rw[g2];rfl)) (qV (Af (v:=(.bool (decide ((t.mx:Int)=1)))) rfl (by rw[g0];rfl)) (qA _ rfl (AB (qC rfl (λg3=>?_) (λg3=>?_))))))))))))
          ·have ad:N=x:=by rw[a6,if_neg qO,if_pos (.inr ⟨ba,g3⟩)]
           have hR:AR S (wx) x _:=AR.ext E x am;refine AA (qV (AI (vs:=(oJ x ah ag ai af)) rfl Ad AG rfl (Bx.cells rfl)) (Aa (b:=bo) (o:=0) (c':=(R6 x ah ag ai af)) rfl rfl qS AG rfl Bo qL rfl ?_));intro w28 bd;have hR:=AR.chg bd.chg (λy hy h=>by have h2:y=bo:=h;have:=hS y hy;omega) x hR;have Br:=bd.keep qO Br;have Bx:=bd.keep qO Bx;have E:=bd.step E (by first|exact dH qO|assumption|exact dG rfl|exact dG (by assumption)|exact dG qP|exact dG qO|exact dG (by dsimp only;omega));have Bo:=bd.blk;refine AB (AO (Ac (Ac (AK (A2 gU (vs:=(oJ x ah ag ai af)) (b:=bo) rfl Ad AG rfl (Bo.cells rfl) ?_)))));exact ⟨⟨_,rfl,by rw[ad];exact AR.mono (λy hy=>.inl hy) x hR⟩,E⟩
          ·have ad:N=t:=by rw[a6,if_neg qO,if_neg qO]
           have hR:AR S (wx) t _:=AR.ext E t a9;refine AM (AV (AV (AC (AA (qV (AI (vs:=(oJ t sa sc (oI ab ao) ac)) rfl Ad AG rfl (Br.cells rfl)) (Aa (b:=bo) (o:=0) (c':=(R6 t sa sc (oI ab ao) ac)) rfl rfl qS AG rfl Bo qL rfl ?_))))));intro bn bm;have hR:=AR.chg bm.chg (λy hy h=>by have h2:y=bo:=h;have:=hS y hy;omega) t hR;have Br:=bm.keep qO Br;have Bx:=bm.keep qO Bx;have E:=bm.step E (by first|exact dH qO|assumption|exact dG rfl|exact dG (by assumption)|exact dG qP|exact dG qO|exact dG (by dsimp only;omega));have Bo:=bm.blk;refine AB (AO (A2 gU (vs:=(oJ t sa sc (oI ab ao) ac)) (b:=bo) rfl Ad AG rfl (Bo.cells rfl) ?_));exact ⟨⟨_,rfl,by rw[ad];exact AR.mono (λy hy=>.inl hy) t hR⟩,E⟩
         ·have ba:=g2;have ba:=of_decide_eq_false ba;have ad:N=t:=by rw[a6,if_neg qO,if_neg qO]
          have hR:AR S (wx) t _:=AR.ext E t a9;refine AD rfl rfl qD (v:=.bool false) (Ar g2) (dH rfl) (AD rfl rfl qD (v:=.bool false) (Ar g2) (dH rfl) (AD rfl rfl qD (v:=.bool false) (Ar g2) (dH rfl) (AF rfl rfl qD (Ar g0) (qV (Af (v:=(.bool false)) rfl (by rw[g2];rfl)) (qV (Af (v:=(.bool false)) rfl (by rw[g0];rfl)) (qA _ rfl (AB (Ae rfl (AM (AV (AV (AC (AA (qV (AI (vs:=(oJ t sa sc (oI ab ao) ac)) rfl Ad AG rfl (Br.cells rfl)) (Aa (b:=bo) (o:=0) (c':=(R6 t sa sc (oI ab ao) ac)) rfl rfl qS AG rfl Bo qL rfl ?_)))))))))))))));intro w30 bi;have hR:=AR.chg bi.chg (λy hy h=>by have h2:y=bo:=h;have:=hS y hy;omega) t hR;have Br:=bi.keep qO Br;have Bx:=bi.keep qO Bx;have E:=bi.step E (by first|exact dH qO|assumption|exact dG rfl|exact dG (by assumption)|exact dG qP|exact dG qO|exact dG (by dsimp only;omega));have Bo:=bi.blk;refine AB (AO (A2 gU (vs:=(oJ t sa sc (oI ab ao) ac)) (b:=bo) rfl Ad AG rfl (Bo.cells rfl) ?_));exact ⟨⟨_,rfl,by rw[ad];exact AR.mono (λy hy=>.inl hy) t hR⟩,E⟩
     ·refine AA (qV (Ai rfl rfl) (qA _ rfl (AB (qC rfl (λh8=>?_) (λh8=>?_)))))
      ·have bp:=hp.one qO;obtain ⟨x,hx⟩:=AU (l:=t.args) (i:=0) qO;have bq:=dK hx;have b1:=ha x bq;have bc:t.args.headD BO=x:=DJ hx;obtain ⟨ab,ao,ch,rfl,ap⟩:=an.resolve_left (λh=>by rw[h] at hx;cases hx);obtain ⟨us,bf,aq⟩:=ap.get hx;have am:=aq;obtain ⟨ah,ag,ai,af,rfl,_,ar,al⟩:=aq.form;refine AA (qF br 0 2 rfl dI rfl BF rfl (qV (AJ rfl A9 (Br.cell rfl)) (qV (AL (b:=ab) (o:=ao) (len:=t.args.length) (cap:=ac) (i:=0) (o':=ao+0*6) rfl rfl rfl dJ AG qO qO) (qV (AI rfl Ad AG rfl (bf.ext E)) ?_))));have cg:=hN.trans (cC h8 bc);refine As (v:=(.agg (R6 x ah ag ai af))) (c:=(R6 x ah ag ai af)) (n:=6) qD A1 rfl AG rfl rfl rfl qS ?_;intro bx wx Nx;have Fx:=Nx.ge E;have Ox_br:=Nx.lt Br;have Ox_bo:=Nx.lt Bo;have Br:=Nx.keep Br;have Bo:=Nx.keep Bo;have E:=E.ext Nx.ext;have Bx:=Nx.blk;refine AB (AA (qF bx 0 0 rfl dI rfl Al rfl (qV (AJ rfl Ag (Bx.cell rfl)) (qV (Ai rfl rfl) (AB (qC rfl (λk8=>?_) (λk8=>?_)))))))
       ·obtain ⟨y,hy⟩:=AU (l:=x.args) (i:=0) (gT.2 ((Cm b1).2 k8));obtain ⟨yb,yo,hyb,rfl,bh⟩:=al.resolve_left ((Cm b1).2 k8);have ct:=AX hy;obtain ⟨ys,c4,ci⟩:=bh.get hy;have b7:=ci;obtain ⟨cf,cc,ce,cd,rfl,_,_,_⟩:=ci.form;refine AA (qF bx 0 2 rfl dI rfl BF rfl (qV (AJ rfl A9 (Bx.cell rfl)) (qV (AL (b:=yb) (o:=yo) (len:=x.args.length) (cap:=af) (i:=0) (o':=yo+0*6) rfl rfl rfl dJ AG qO qO) (qV (AI rfl Ad AG rfl (c4.ext E)) ?_))));have ad:N=y:=by rw[cg,if_pos k8,DJ hy]
        have hR:AR S (wx) y _:=AR.ext E y b7;refine Aa (b:=bo) (o:=0) (c':=(R6 y cf cc ce cd)) rfl rfl qS AG rfl Bo qL rfl ?_;intro w33 bk;have hR:=AR.chg bk.chg (λy hy h=>by have h2:y=bo:=h;have:=hS y hy;omega) y hR;have Br:=bk.keep qO Br;have Bx:=bk.keep qO Bx;have E:=bk.step E (by first|exact dH qO|assumption|exact dG rfl|exact dG (by assumption)|exact dG qP|exact dG qO|exact dG (by dsimp only;omega));have Bo:=bk.blk;refine AB (AO (Ac (AK (A2 gU (vs:=(oJ y cf cc ce cd)) (b:=bo) rfl Ad AG rfl (Bo.cells rfl) ?_))));exact ⟨⟨_,rfl,by rw[ad];exact AR.mono (λy hy=>.inl hy) y hR⟩,E⟩
       ·have ad:N=t:=by rw[cg,if_neg k8]
        have hR:AR S (wx) t _:=AR.ext E t a9;refine AM (AV (AC (AA (qV (AI (vs:=(oJ t sa sc (oI ab ao) ac)) rfl Ad AG rfl (Br.cells rfl)) (Aa (b:=bo) (o:=0) (c':=(R6 t sa sc (oI ab ao) ac)) rfl rfl qS AG rfl Bo qL rfl ?_)))));intro w34 bg;have hR:=AR.chg bg.chg (λy hy h=>by have h2:y=bo:=h;have:=hS y hy;omega) t hR;have Br:=bg.keep qO Br;have Bx:=bg.keep qO Bx;have E:=bg.step E (by first|exact dH qO|assumption|exact dG rfl|exact dG (by assumption)|exact dG qP|exact dG qO|exact dG (by dsimp only;omega));have Bo:=bg.blk;refine AB (AO (A2 gU (vs:=(oJ t sa sc (oI ab ao) ac)) (b:=bo) rfl Ad AG rfl (Bo.cells rfl) ?_));exact ⟨⟨_,rfl,by rw[ad];exact AR.mono (λy hy=>.inl hy) t hR⟩,E⟩
      ·have ad:N=t:=hN.trans (cL ⟨h3,h4,h5,h6,h7,h8⟩);have hR:AR S (wo) t _:=AR.ext E t a9;refine AM (AV (AC (AA (qV (AI (vs:=(oJ t sa sc aa ac)) rfl Ad AG rfl (Br.cells rfl)) (Aa (b:=bo) (o:=0) (c':=(R6 t sa sc aa ac)) rfl rfl qS AG rfl Bo qL rfl ?_)))));intro w35 bv;have hR:=AR.chg bv.chg (λy hy h=>by have h2:y=bo:=h;have:=hS y hy;omega) t hR;have Br:=bv.keep qO Br;have E:=bv.step E (by first|exact dH qO|assumption|exact dG rfl|exact dG (by assumption)|exact dG qP|exact dG qO|exact dG (by dsimp only;omega));have Bo:=bv.blk;refine AB (AO (A2 gU (vs:=(oJ t sa sc aa ac)) (b:=bo) rfl Ad AG rfl (Bo.cells rfl) ?_));exact ⟨⟨_,rfl,by rw[ad];exact AR.mono (λy hy=>.inl hy) t hR⟩,E⟩
section
variable {P : Program} {N : Nat} {Q : EF} {σ : CZ} {w : World} {K : CZ → World → Prop} {ops : Array Oper} {rest : List Oper} {d : Nat} {ty : TypeId} {pos : String} {af : Array Edge} {t : TypeId} {x y : Operand}
theorem ZL {e bytes n:Nat} {z:Value} (o:d<N) (s:P.underlying t=some (.slice e)) (a:EI P e 1) (c:Js P e bytes) (f:FP P e z) (l:z.cells=#[z]) (r:ev σ x=I6 ((n:Nat):Int)) (q:ev σ y=I6 ((n:Nat):Int)) (hb:n*bytes<=140737488355328) (hn:n<=140737488355328)
 (k:∀b w',New w w' b (List.replicate n z).toArray e->Dp P N ops K Q rest (Of σ d (.slice (oI b 0) n n)) w'):Dp P N ops K Q (⟨some d,.makeSlice t x y,ty,pos,af,none⟩::rest) σ w:=by
 refine CM (v:=.slice (oI w.heap.size 0) n n) (w':={w with heap:=w.heap.push (.cells (List.replicate n z).toArray e (0,0))}) O O o ?_ (k _ _ (New.mk' w _ e));unfold EI at a;unfold Js at c;unfold FP at f;cases hi:P.info? e with
 | none=>rw[hi] at a;simp at a
 | some i=>
 rw[hi] at a c f;simp at a c f;have h:=run_make (P:=P) w t e i _ s hi f .i64 .i64 ((n:Nat):Int) ((n:Nat):Int) qO (gM _) (by rw[c];have:((bytes:Nat):Int)*((n:Nat):Int)=(((n*bytes:Nat):Nat):Int):=(by rw[mU,nV]);rw[this];omega) qO;have p:madeCells z.cells (n*i.size)=(List.replicate n z).toArray:=by
  rw[a,kT,l];apply iJ;simp only[madeCells];apply fW;intro j;simp only[mM,eN,gX];rcases eI j n with m|m
  .have g:(Array.range n).toList[j]?=some j:=by simp[m]
   rw[g,if_pos m];simp[Nat.mod_one]
  .have g:(Array.range n).toList[j]?=none:=by simp;omega
   rw[g,if_neg qO];rfl
 simp only[iY,p] at h;simp only[execOp,r,q,Sem.run_bind,h,Result.andThen_ok];rfl
theorem Tn {e bytes n size base:Nat} {z:Value} (j:d<N) (m:P.underlying t=some (.slice e)) (a:EI P e size) (b:Js P e bytes) (g:FP P e z) (l:ev σ x=I6 0) (o:ev σ y=I6 ((n:Nat):Int)) (hb:n*bytes<=140737488355328) (hn:n<=140737488355328) (f:base<=w.heap.size)
 (k:∀w',Ah w w'->w'.ownsRow base e size (.slice (oI w.heap.size 0) 0 n) 0 []->Dp P N ops K Q rest (Of σ d (.slice (oI w.heap.size 0) 0 n)) w'):Dp P N ops K Q (⟨some d,.makeSlice t x y,ty,pos,af,none⟩::rest) σ w:=by
 unfold EI at a;unfold Js at b;unfold FP at g;cases hi:P.info? e with
 | none=>rw[hi] at a;simp at a
 | some i=>
 rw[hi] at a b g;simp at a b g;have h:=run_make (P:=P) w t e i _ m hi g .i64 .i64 0 ((n:Nat):Int) qO qO (by rw[b];have:((bytes:Nat):Int)*((n:Nat):Int)=(((n*bytes:Nat):Nat):Int):=(by rw[mU,nV]);rw[this];omega) qO;have c:=New.mk' w (madeCells z.cells (n*size)) e;refine CM (v:=.slice (oI w.heap.size 0) 0 n) (w':={w with heap:=w.heap.push (.cells (madeCells z.cells (n*size)) e (0,0))}) O O j ?_ (k _ c.ext ⟨qP,.inr ⟨w.heap.size,n,madeCells z.cells (n*size),O,f,c.blk,dR _,by simp only[maxLen];omega,by simp[madeCells],qP⟩⟩);simp only[iY,a] at h;simp only[execOp,l,o,Sem.run_bind,h,Result.andThen_ok];rfl
theorem Lo {dst:Option Tmp} {g:Option (Nat×Bool)} {s:TypeId} {e:TypeId} {b n c:Nat} {l:oB} (hs:P.underlying s=some (.slice e)) (m:P.underlying e=some (.int .u8)) (d:P.underlying t=some .string) (a:ev σ x=.slice (oI b 0) n c)
 (p:BV w b (l.map (Value.int .u8)).toArray e) (j:l.length=n):(execOp (ev σ) ⟨dst,.convert s t x,ty,pos,af,g⟩).run P w=.ok (.value (.string (strOfNums l))) w:=by
 have h:=run_convert_bytes_arg (P:=P) w s e hs m b 0 n c l j (λi hi=>by
  rw[eO];have k:l[i]?=some l[i]:=dM qO;have f:=p.cell (o:=i) (v:=.int .u8 (l.getD i 0)) (by simp[List.getD,k]);exact f) t d
 simp only[execOp,a,Sem.run_bind,h,Result.andThen_ok];rfl
end
def M3 (base e size n:Nat) (xs:n_) (old:Value) (hs:Nat):G0:=λv w=>(∃a c,v=.slice a n c)∧w.ownsRow base e size v n xs∧∀k,v.ownBlock=some k->old.ownBlock=some k∨hs<=k
theorem HQ (base e size n:Nat) (xs:n_) (a:Value) (hs:Nat):∀v w w',Ah w w'->M3 base e size n xs a hs v w->M3 base e size n xs a hs v w':=by
 rintro v w w' e ⟨b,d,c⟩;exact ⟨b,Az d e,c⟩
theorem GE {P:Program} {N:Nat} {σ:CZ} {w:World} {dst:Option Tmp} {ty:TypeId} {pos:String} {af:Array Edge} {g:Option (Nat×Bool)} {M:oD} {t:TypeId} {s x:Operand} {base e size bytes n m c E D hs:Nat} {z v:Value} {xs news:n_} (H:P.underlying t=some (.slice e)) (f:EI P e size) (l:Js P e bytes) (A:FP P e z) (C:z.cells.size=size) (L:0<size)
 (X:ev σ s=v) (o:w.ownsRow base e size v n xs) (S:ev σ x=.slice (oI E D) m c) (J:news.length=m*size) (r:BG w E D news) (K:∀u∈news,u.oneCell'=true)
 (q:n+m<=maxLen) (d:(n+m)*bytes<=140737488355328) (p:base<=w.heap.size) (U:∀y,v.ownBlock=some y->M y) (F:hs<=w.heap.size) :
 Dn M P N ⟨dst,.call ⟨.builtin .append,#[s,x],#[t,t]⟩,ty,pos,af,g⟩ (M3 base e size (n+m) (xs++news) v hs) σ w:=by
 unfold EI at f;unfold Js at l;unfold FP at A;cases hi:P.info? e with
 | none=>rw[hi] at f;simp at f
 | some i=>
 rw[hi] at f l A;simp at f l A;have a:∀j u,news[j]?=some u->w.cell? ((⟨E,D,none⟩:Addr).add j)=some u:=λj u Z=>by rw[Addr.add_lit];exact r j u Z
 obtain ⟨v',w',G,Q,B,_⟩:=run_append_own (P:=P) w base t ty e i z size bytes H hi A f l C L v n xs o ⟨E,D,none⟩ m c news J a K q d p;have T:Chg (λx=>v.ownBlock=some x) w w':=⟨B.os,B.tape,B.output,Jl (P:=P) H hi A f l o J a K q d G,B.size,λb hb hn=>B.block b hb (λh=>hn h.symm)⟩;have V:=Jk (P:=P) H hi A f l C L o J a K q d G;refine BZ (v:=v') (w':=w') (by simp[execOp,resolve,invoke,builtin,X,S,G]) (T.mono λy _ W=>U y W) ⟨BB Q,Q,λk R=>?_⟩;rcases V k R with I|I
 .exact .inl I
 .exact .inr (dL F I)
def I4 (e:Nat) (c:oG) (hs:Nat):G0:=λv w=>∃b,v=.slice (oI b 0) 1 1∧BV w b c e∧hs<=b
theorem HD (e:Nat) (c:oG) (hs:Nat):∀v w w',Ah w w'->I4 e c hs v w->I4 e c hs v w':=by
 rintro v w w' x ⟨b,a,f,d⟩;exact ⟨b,a,Ah.keep x f,d⟩
theorem Ih {P:Program} {N:Nat} {σ:CZ} {w:World} {dst:Option Tmp} {ty:TypeId} {pos:String} {af:Array Edge} {g:Option (Nat×Bool)} {M:oD} {t e n hs:Nat} {x:Operand} {v z:Value} {c:oG} (l:P.underlying t=some (.slice e)) (b:EI P e n) (h:FP P e z) (k:ev σ x=v)
 (d:¬(1*n > 2 ^ 24)) (j:1*n≠0) (f:Instr.fill (λi=>some (i*n,n)) ((Array.range (1*n)).map (z.cells[· % z.cells.size]!)) [(0,v)]=some c) (a:hs<=w.heap.size) :
 Dn M P N ⟨dst,.buildSlice t 1 #[(0,x)],ty,pos,af,g⟩ (I4 e c hs) σ w:=by
 have hn:=New.mk' w c e;exact BZ (DB (parts:=[(0,x)]) (ps:=[(0,v)]) (by simp only[List.map,k]) l b h d j f) (Ah.chg hn.ext) ⟨_,O,hn.blk,a⟩
theorem Ps {w:World} {b e base:Nat} {v:Value} (h:BV w b #[v] e) (hb:base<=b):w.ownsRow base e 1 (.slice (oI b 0) 1 1) 1 [v]:=
 ⟨O,.inr ⟨b,1,#[v],O,hb,h,dU _,qD,O,O⟩⟩
def Ql (b:Bool):n_:=[.bool b]
def Gt (w:World) (v:Value) (l:List Bool):Prop:=BX w 1 v (l.map Ql)
theorem H6 {w:World} {a:oE} {n c:Nat} {l:List Bool} (h:Gt w (.slice a n c) l) (hn:0<n) :
 ∃b o,a=oI b o∧∀i x,l[i]?=some x->w.cell? ⟨b,o+i,none⟩=some (.bool x):=by
 obtain ⟨b,o,e,h⟩:=BX.at h hn;refine ⟨b,o,e,λi x d=>?_⟩;have:=h i (Ql x) (by simp[d]) 0 _ O;simpa using this
theorem R9 (l:List Bool):(l.map Ql).flatten=l.map Value.bool:=by
 induction l with
 | nil=>rfl
 | cons x l ih=>simp[Ql];simpa[Ql] using ih
abbrev TB:Nat:=4
abbrev cR:Nat:=71
theorem IP {w:World} {base n:Nat} {v:Value} {l:List Bool} (h:w.ownsRow base TB 1 v n (l.map Value.bool)) (hn:n=l.length):Gt w v l:=by
 rw[<-R9] at h;exact Di h (by intro x a;simp only[eU] at a;obtain ⟨p,_,rfl⟩:=a;rfl) (by simp[hn]) qD
structure LSt (To e sz:Nat) (w:World) (base:Nat) (vo:Value) (vs:n_) (ns:List (Nat×List Value)):Prop where
 o:w.ownsRow base To 1 vo ns.length vs
 len:vs.length=ns.length
 inn:∀(i:Nat) v p,vs[i]?=some v->ns[i]?=some p->w.ownsRow base e sz v p.1 p.2
 apo:∀(i:Nat) v b,vs[i]?=some v->v.ownBlock=some b->vo.ownBlock≠some b
theorem LSt.start (To e sz:Nat) (w:World) (base:Nat):LSt To e sz w base (.slice none 0 0) [] []:=
 ⟨World.ownsRow_nil _ _ _ _,O,λi v p h=>by simp at h,λi v b h=>by simp at h⟩
theorem LSt.chg {M:oD} {To e sz base:Nat} {w w':World} {vo:Value} {vs:n_} {ns:List (Nat×List Value)} (h:LSt To e sz w base vo vs ns) (c:Chg M w w') (g:∀b,base<=b->b<w.heap.size->¬M b):LSt To e sz w' base vo vs ns:=
 ⟨CH h.o c λk a=>g k (h.o.lt k a).1 (h.o.lt k a).2,h.len,λi v l f d=>CH (h.inn i v l f d) c λk a=>g k ((h.inn i v l f d).lt k a).1 ((h.inn i v l f d).lt k a).2,h.apo⟩
theorem LSt.ext {To e sz base:Nat} {w w':World} {vo:Value} {vs:n_} {ns:List (Nat×List Value)} (h:LSt To e sz w base vo vs ns) (c:Ah w w'):LSt To e sz w' base vo vs ns:=h.chg c λ_ _ _ f=>f
theorem LSt.on {To e sz base n:Nat} {w:World} {vo:Value} {vs:n_} {ns:List (Nat×List Value)} (h:LSt To e sz w base vo vs ns) (hn:n=ns.length):w.ownsRow base To 1 vo n vs:=by subst hn;exact h.o
theorem LSt.push {To e sz base t n m:Nat} {w w':World} {vo v' u:Value} {vs B:n_} {ns:List (Nat×List Value)} (h:LSt To e sz w base vo vs ns) (hn:n=ns.length) (s:w.ownsRow t e sz u m B) (hb:base<=t) (z:∀k,vo.ownBlock=some k->k<t)
 (D:w'.ownsRow base To 1 v' (n+1) (vs++[u])) (A:Chg (λx=>vo.ownBlock=some x) w w') (C:∀k,v'.ownBlock=some k->vo.ownBlock=some k∨w.heap.size<=k):LSt To e sz w' base v' (vs++[u]) (ns++[(m,B)]):=by
 have f:∀(i:Nat) v,(vs++[u])[i]?=some v->vs[i]?=some v∨(i=vs.length∧v=u):=by
  intro i v c;rcases eI i vs.length with a|a
  .left;rwa [dQ a] at c
  .right;rw[dX a] at c;have g:=AX c;simp at g;obtain rfl:i=vs.length:=qO
   simp at c;exact ⟨O,c.symm⟩
 have q:∀b,u.ownBlock=some b->vo.ownBlock≠some b:=λb y E=>by
  have a:=z b E;have g:=(s.lt b y).1;omega
 refine ⟨by rw[dN,<-hn];exact D,by simp[h.len],?_,?_⟩
 .intro i v p c j;rcases f i v c with a|⟨a,rfl⟩
  .rw[dQ (by have:=AX a;have:=h.len;omega)] at j;exact CH (h.inn i v p a j) A λk r=>h.apo i v k a r
  .rw[a,h.len] at j;simp at j;subst j;exact K8 (CH s A λk r=>q k r) hb
 .intro i v b c d o;rcases f i v c with a|⟨_,rfl⟩
  .rcases C b o with g|g
   .exact h.apo i v b a d g
   .obtain ⟨p,j⟩:=AU (l:=ns) (i:=i) (by have:=AX a;have:=h.len;omega);have:=((h.inn i v p a j).lt b d).2;omega
  .rcases C b o with g|g
   .exact q b d g
   .have:=(s.lt b d).2;omega
theorem VY {w:World} {base e size n cap g:Nat} {xs:n_} (h:w.ownsRow base e size (.slice (oI g 0) n cap) n xs):∃a,BV w g a e∧n*size<=a.size:=by
 rcases h.2 with ⟨j,_⟩|⟨g',cap',b,f,hbg,i,d,hcm,c,htake⟩
 .simp at j
 .simp only[Value.slice.injEq,fI,Addr.mk.injEq,and_true] at f;obtain ⟨rfl,_,rfl⟩:=f;exact ⟨b,i,by rw[c];exact iC _ d⟩
theorem Th (t:Re):CR t=DS (.mk t.kind t.set (t.args.map CR) t.mn t.mx t.neg):=Sa t
theorem Kj {S:oD} {w:World} {ts:List Re} {rows:List n_} {x:Re} {r:n_} (h:Ap S w ts rows) (a:AR S w x r):Ap S w (ts++[x]) (rows++[r]):=Ap.append (Ap.single a) h
theorem ZD {T A:oD} {w w':World} {b:Nat} {c:oG} {e:TypeId} (h:∀y,T y->A y∧y<w.heap.size) (x:Put w w' b c e):∀y,T y->A y∧y<w'.heap.size:=λy a=>⟨(h y a).1,fD (h y a).2 x.chg.size⟩
theorem Jv {T A:oD} {w w':World} (h:∀y,T y->A y∧y<w.heap.size) (x:Ah w w'):∀y,T y->A y∧y<w'.heap.size:=λy a=>⟨(h y a).1,fD (h y a).2 x.size⟩
theorem LN {a:oB}:∀{ts:List Re} {i:Nat} {x:Re},DH a ts=false->ts[i]?=some x->DA a x=false
 | [],i,x,_,h=>by simp at h
 | t::ts,0,x,h,hx=>by simp at hx;subst hx;simp only[DH,iD] at h;exact h.1
 | t::ts,i+1,x,h,hx=>by simp only[DH,iD] at h;exact LN h.2 (by simpa using hx)
theorem WM:∀(n:Nat) (t:Re) (w0:World) (S:Nat→Prop) (vs:n_),t.size≤n→n≤1000000→C' t→DA [9,10] t=false→AR S w0 t vs→(∀x,S x→x<w0.heap.size)→
    Bj prog 76 #[.agg vs.toArray] w0 λr w=>(∃us,r=.agg us.toArray∧AR (λb=>S b∨w0.heap.size≤b) w (CR t) us)∧Ah w0 w:=by
  intro n
  induction n with
  | zero=>intro t w0 S vs h;have:=t.size_pos;omega
  | succ n ih=>
  intro t w0 S vs hn hnb aj hu ht hS;have ht0:=ht;obtain ⟨sa,sc,aa,ac,rfl,ap,bv,ah⟩:=ht.form;have hal:=Ch t;have ba:DH [9,10] t.args=false:=by cases t;exact (G1 hu).2
  have bc:t.kind≠9∧t.kind≠10:=by cases t with|mk k s a m x g=>have h1:=(G1 hu).1;constructor<;>intro e<;>simp only[Re.kind] at e<;>subst e<;>simp at h1
  have aw:=Iz (C8 aj);rw[DR] at aw;have hsz:=t.size_eq;rw[Th];refine qR func76 rfl ntmps76 rfl (λE=>(AA (BC (v:=(.agg (R6 t sa sc aa ac))) (c:=(R6 t sa sc aa ac)) qD rfl rfl ?_)));intro br wr Nr;have Fr:=Nr.ge E;have E:=E.ext Nr.ext;have Br:=Nr.blk;refine BK (c:=#[(I6 0),(.slice none 0 0),(.slice none 0 0),(I6 0),(I6 0),(.bool false)]) qD A1 rfl ?_;intro bo wo No;have Fo:=No.ge E;have Oo_br:=No.lt Br;have Br:=No.keep Br;have E:=E.ext No.ext;have Bo:=No.blk;refine AB (AA (qF br 0 2 rfl dI rfl BF rfl (qV (AJ rfl A9 (Br.cell rfl)) (qV (AT dJ rfl) ?_))));obtain ⟨n1,ax⟩:∃n1,n1=wo.heap.size:=⟨_,rfl⟩;have hob:br<n1∧bo<n1∧w0.heap.size≤bo∧w0.heap.size≤br∧w0.heap.size≤n1:=⟨by rw[ax];exact Br.lt,by rw[ax];exact Bo.lt,qO,qO,by rw[ax];exact E.size⟩;have af:n1≤wo.heap.size:=qO
  refine Tn (n:=t.args.length) (base:=n1) (size:=6) (bytes:=80) qD dJ AG E0 A1 rfl rfl qO qO (af) ?_;intro w1 X1 bh;have Br:=X1.keep Br;have Bo:=X1.keep Bo;have af:=dL af X1.size;have E:=E.ext X1;refine qA _ rfl (AB (AH (AA (qF br 0 2 rfl dI rfl BF rfl (qV (AJ rfl A9 (Br.cell rfl)) (qV (AT dJ rfl) (qM _ rfl (AB (AW (Ax (λnn_ σ W2=>∃(i:Nat) (la:oE) (lc:Nat) (ad:List n_) (T:Nat→Prop),(∃jj_,σ=BW jj_ [(1,(P6 br 0)),(2,(P6 bo 0)),(11,(.slice aa t.args.length ac)),(12,(I6 (t.args.length:Int))),(13,(I6 (i:Int))),(3,(.slice la i lc))])∧Chg Aj w0 W2∧BV W2 br (R6 t sa sc aa ac) 25∧BV W2 bo #[(I6 0),(.slice none 0 0),(.slice none 0 0),(I6 0),(I6 0),(.bool false)] 25∧(i≤t.args.length)∧(W2.ownsRow n1 FR 6 (.slice la i lc) i ad.flatten)∧(Ap T W2 ((t.args.take i).map CR) ad)∧(n1≤W2.heap.size)∧(∀y,T y→(S y∨n1≤y)∧y<W2.heap.size)∧(∀b,(Value.slice la i lc).ownBlock=some b→¬T b)∧nn_=t.args.length - i) (n:=t.args.length - 0) ?_ ?_))))))))))
  · exact ⟨0,oI wo.heap.size 0,t.args.length,[],(λ_=>False),oH,E,Br,Bo,dR _,bh,rfl,af,(λy h=>h.elim),(λb _ h=>h),rfl⟩
  · clear E Br Bo;rintro _ _ W2 ⟨i,la,lc,ad,T,⟨j2,rfl⟩,E,Br,Bo,hi,hO,hR,ae,hT,aq,rfl⟩;refine AA (qV (A6 rfl rfl) (AB (AH (qC rfl (λbp=>?_) (λbp=>?_)))))
    · obtain ⟨x,hx⟩:=AU (l:=t.args) (i:=i) qO;have bt:=Do (C8 aj) hx;have be:DA [9,10] x=false:=LN ba hx;have hxz:=Re.size_arg hx;obtain ⟨ab,ao,hab,rfl,a6⟩:=ah.resolve_left (λh=>by rw[h] at hx;cases hx);obtain ⟨us,bi,a9⟩:=a6.get hx;have a2:=a9;obtain ⟨a3,an,ay,au,rfl,_,_,_⟩:=a9.form;obtain ⟨M,hM⟩:∃M,M=CR x:=⟨_,rfl⟩;refine AM (AC (AH (AW (AA (qV (AL (b:=ab) (o:=ao) (len:=t.args.length) (cap:=ac) (i:=i) (o':=ao+i*6) rfl rfl rfl dJ AG qO qO) (qV (AI rfl Ad AG rfl (bi.ext E)) (As (v:=(.agg (R6 x a3 an ay au))) (c:=(R6 x a3 an ay au)) (n:=6) qD A1 rfl AG rfl rfl rfl qS ?_)))))));intro bu wu Nu;have Fu:=Nu.ge E;have Ou_br:=Nu.lt Br;have Ou_bo:=Nu.lt Bo;have Br:=Nu.keep Br;have Bo:=Nu.keep Bo;have hO:=Az hO Nu.ext;have hR:=Ap.ext Nu.ext hR;have ae:=dL ae Nu.ext.size;have hT:=Jv hT Nu.ext;have E:=E.ext Nu.ext;have Bu:=Nu.blk;refine AB (AN (qM _ rfl (qV (AI (vs:=(oJ x a3 an ay au)) rfl Ad AG rfl (Bu.cells rfl)) ?_)));obtain ⟨n2,al⟩:∃n2,n2=(wu).heap.size:=⟨_,rfl⟩;have bs:n1≤n2:=by rw[al];exact ae
      have bm:∀b,(Value.slice la i lc).ownBlock=some b→n1≤b∧b<n2:=λb hb=>⟨(hO.lt b hb).1,by rw[al];exact (hO.lt b hb).2⟩;refine qE rfl (AS func76 kQ kQ rfl) ((ih x _ S _ qO qO bt be (AR.ext E x a2) (λy hy=>by have:=hS y hy;have:=E.size;omega)).mono (R':=λr w=>DQ (λb=>S b∨n2≤b) M r w∧Ah wu w) (λr w h=>⟨CI (S':=λb=>S b∨_≤b) (λb hb=>by rcases hb with h1|h1;exact .inl h1;exact .inr (by rw[al];exact h1)) (by rw[hM];exact h.1),h.2⟩)) ?_;rintro _ w9 ⟨⟨ma,mc,pa,pc,rfl,hX⟩,X9⟩;have Br:=X9.keep Br;have Bo:=X9.keep Bo;have Bu:=X9.keep Bu;have hO:=Az hO X9;have hR:=Ap.ext X9 hR;have ae:=dL ae X9.size;have hT:=Jv hT X9;have E:=E.ext X9;have a1:=AR.lt M hX;refine Aw (ps:=[(0,(.agg (R6 M ma mc pa pc)))]) (c:=(R6 M ma mc pa pc)) qD rfl dJ AG A1 qD qD qK ?_;intro bz wz Nz;have Fz:=Nz.ge E;have Oz_br:=Nz.lt Br;have Oz_bo:=Nz.lt Bo;have Oz_bu:=Nz.lt Bu;have Br:=Nz.keep Br;have Bo:=Nz.keep Bo;have Bu:=Nz.keep Bu;have hO:=Az hO Nz.ext;have hR:=Ap.ext Nz.ext hR;have ae:=dL ae Nz.ext.size;have hT:=Jv hT Nz.ext;have a1:=AR.ext Nz.ext M a1;have E:=E.ext Nz.ext;have Bz:=Nz.blk;have hQ9:True:=trivial;refine BQ (base:=n1) (n:=i) (m:=1) (xs:=ad.flatten) (news:=(oJ M ma mc pa pc)) (size:=6) (bytes:=80) (v:=(.slice la i lc)) qD dJ AG E0 A1 rfl qD rfl hO rfl (rfl) (Bz.cells rfl) qS (by unfold maxLen;omega) qO (ae) ?_;intro v9 bb bd ag bg;have Br:=ag.keep (λh=>by have:=(hO.lt _ h).1;omega) Br;have Bo:=ag.keep (λh=>by have:=(hO.lt _ h).1;omega) Bo;have E:=E.step ag (λx hx h=>absurd (hO.lt x h).1 qO);obtain ⟨bj,bq,rfl⟩:=BB bd;have ai:∀y,(T y∨((S y∨n2≤y)∧y<w9.heap.size))→(S y∨n1≤y)∧y<(bb).heap.size∧(Value.slice la i lc).ownBlock≠some y:=by
        intro y hy;have bn:=Nz.ext.size;have hz2:=ag.size;rcases hy with hy|⟨hy,hy2⟩
        · exact ⟨(hT y hy).1,by have:=(hT y hy).2;omega,λhb=>aq y hb hy⟩
        · refine ⟨hy.imp id (λh=>by have:=X9.size;omega),qO,λhb=>?_⟩;have h9:=bm y hb;rcases hy with h1|h1
          · have:=hS y h1;omega
          · omega
      have bk:Ap (λy=>T y∨((S y∨n2≤y)∧y<w9.heap.size)) (bb) ((t.args.take (i+1)).map CR) (ad++[(oJ M ma mc pa pc)]):=by
        rw[eK,hx,fL,eT,gK,jD,←hM];exact Kj (Ap.mono (λy hy=>.inl hy) (Ap.chg ag (λy hy hm=>aq y hm hy) hR)) (AR.mono (λy hy=>.inr hy) M (AR.chg ag (λy hy hm=>(ai y (.inr hy)).2.2 hm) M a1))
      refine qA _ rfl (AB (AV (AC (AN (qV (A0 rfl rfl (A8 qO)) (qM _ rfl (AB (AC ?_))))))));exact ⟨t.args.length - (i+1),qO,i+1,bj,bq,ad++[(oJ M ma mc pa pc)],(λy=>T y∨((S y∨n2≤y)∧y<w9.heap.size)),oH,E,Br,Bo,qO,(by simpa using bd),bk,dL ae ag.size,(λy hy=>⟨(ai y hy).1,(ai y hy).2.1⟩),(λb hb hy=>by rcases bg b hb with h|h;exact (ai b hy).2.2 h;have bn:=Nz.ext.size;rcases hy with hy|hy;have:=(hT b hy).2;omega;have:=hy.2;omega),rfl⟩
    · have a8:i=t.args.length:=qO
      rw[a8] at hO hR aq;rw[a8];rw[eE] at hR;refine Av (AZ (AZ (Ao (AC (AA (qM _ rfl (qF br 0 2 rfl dI rfl BF rfl (CB (b:=br) (o:=2) (c':=(R6 t sa sc la lc)) (v:=(.slice la t.args.length lc)) rfl rfl rfl BF Br qP rfl ?_))))))));intro w4 S4;have hO:=CH hO S4.chg (λy hy h=>by have h2:y=br:=h;have:=(hO.lt y hy).1;omega);have hR:=Ap.chg S4.chg (λy hy h=>by have h2:y=br:=h;rcases (hT y hy).1 with h1|h1;have:=hS y h1;omega;omega) hR;have hT:=ZD hT S4;have ae:=dL ae S4.chg.size;have Bo:=S4.keep qO Bo;have E:=S4.step E (by first|exact dH qO|assumption|exact dG rfl|exact dG (by assumption)|exact dG qP|exact dG qO|exact dG (by dsimp only;omega));have Br:=S4.blk;refine AB (AA (qV (AI (vs:=(oJ t sa sc la lc)) rfl Ad AG rfl (Br.cells rfl)) ?_));have ak:(t.args.map CR).length=t.args.length:=dW _;obtain ⟨bw,a5⟩:=Eo hO hR ak;have bf:AR (λy=>(S y∨n1≤y)∧y<(w4).heap.size) (w4) (.mk t.kind t.set (t.args.map CR) t.mn t.mx t.neg) (oJ t sa sc la lc):=by
        have h9:=AR.of (S:=λy=>(S y∨n1≤y)∧y<(w4).heap.size) (w:=w4) (k:=t.kind) (set:=t.set) (args:=t.args.map CR) (mn:=t.mn) (mx:=t.mx) (ng:=t.neg) (sa:=sa) (sc:=sc) (aa:=la) (ac:=lc) (B_.mono (B_.chg ap E (λ_ _ f=>f)) λy hy=>⟨.inl hy,by have:=hS y hy;have:=E.size;omega⟩) (by rw[ak];exact bw) (by
          rcases a5 with h|⟨ob,am,a0,a7,az⟩
          · exact .inl h
          · exact .inr ⟨ob,0,⟨.inr am,a0⟩,a7,D5 λi t ht=>by obtain ⟨vs,h6,h7⟩:=az i t ht;exact ⟨vs,h6,AR.mono (λy hy=>hT y hy) t h7⟩⟩)
        rw[ak] at h9;exact h9
      obtain ⟨N,hN⟩:∃N,N=DS (.mk t.kind t.set (t.args.map CR) t.mn t.mx t.neg):=⟨_,rfl⟩;have ar:n1≤(w4).heap.size:=ae;refine qE rfl (AS func113 kQ kQ rfl) ((LF _ _ _ _ bf (λy hy=>hy.2) (Oj aj bc.1 bc.2 ak) (λy hy=>La (C8 aj) ba y (by rw[DR];exact hy)) (by show Re.sizes (t.args.map CR)≤1000000;omega)).mono (R':=λr w=>DQ (λb=>S b∨n1≤b) N r w∧Ah _ w) (λr w h=>⟨CI (S':=λb=>((S b∨n1≤b)∧b<_)∨_≤b) (λb hb=>by rcases hb with h1|h1;exact h1.1;exact .inr (dL ar h1)) (by rw[hN];exact h.1),h.2⟩)) ?_;rintro _ w49 ⟨⟨xa,xc,ya,yc,rfl,a4⟩,av⟩;have Br:=av.keep Br;have Bo:=av.keep Bo;have E:=E.ext av;refine Aa (b:=bo) (o:=0) (c':=(R6 N xa xc ya yc)) rfl rfl qS AG rfl Bo qL rfl ?_;intro w5 S5;have a4:=AR.chg S5.chg (λy hy h=>by have h2:y=bo:=h;rcases hy with h1|h1;have:=hS y h1;omega;omega) _ a4;have Br:=S5.keep qO Br;have E:=S5.step E (by first|exact dH qO|assumption|exact dG rfl|exact dG (by assumption)|exact dG qP|exact dG qO|exact dG (by dsimp only;omega));have Bo:=S5.blk;refine AB (AO (A2 results76 (vs:=(oJ N xa xc ya yc)) (b:=bo) rfl Ad AG rfl (Bo.cells rfl) ?_));exact ⟨⟨_,rfl,by rw[←hN];exact AR.mono (λy hy=>by rcases hy with h1|h1;exact .inl h1;exact .inr qO) _ a4⟩,E⟩
def Lf (S:oD) (l:List Re):G0:=λv w=>∃b,v=.slice (oI b 0) l.length l.length∧CE S w (.slice (oI b 0) l.length l.length) l
theorem DE (S:oD) (l:List Re):FK (Lf S l):=by
 rintro v w w' e ⟨b,a,c⟩;exact ⟨b,a,CE.ext c e⟩
section
variable {N : Nat} {σ : CZ} {w : World} {dst : Option Tmp} {ty : TypeId} {pos : String} {af : Array Edge} {g : Option (Nat × Bool)} {S : Nat → Prop} {X Y : Re} {x y z : Operand} {sa aa sa' aa' : Option Addr} {sc ac sc' ac' : Nat}
theorem Fb (d:ev σ x=.agg (R6 X sa sc aa ac)) (c:ev σ y=.agg (R6 Y sa' sc' aa' ac')) (a:AR S w X (oJ X sa sc aa ac)) (f:AR S w Y (oJ Y sa' sc' aa' ac')) (e:∀b,w.heap.size<=b->S b) :
 Ka prog N ⟨dst,.buildSlice 23 2 #[(0,x),(1,y)],ty,pos,af,g⟩ (Lf S [X,Y]) σ w:=by
 have hn:=New.mk' w (#[I6 X.kind,.slice sa X.set.length sc,.slice aa X.args.length ac,I6 X.mn,I6 X.mx,.bool X.neg,I6 Y.kind,.slice sa' Y.set.length sc',.slice aa' Y.args.length ac',I6 Y.mn,I6 Y.mx,.bool Y.neg]) FR;refine AP (DB (parts:=[(0,x),(1,y)]) (ps:=[(0,.agg (R6 X sa sc aa ac)),(1,.agg (R6 Y sa' sc' aa' ac'))]) (by simp only[List.map,d,c]) dJ AG A1 qD qD qK) hn.ext ⟨_,O,?_⟩;exact ⟨_,_,O,qP,.inr ⟨_,0,e _ (dU _),O,BM.two (hn.blk.cells (by rfl)) (AR.ext hn.ext _ a) (hn.blk.cells (by rfl)) (AR.ext hn.ext _ f)⟩⟩
theorem Uf (c:ev σ x=.agg (R6 X sa sc aa ac)) (a:AR S w X (oJ X sa sc aa ac)) (d:∀b,w.heap.size<=b->S b) :
 Ka prog N ⟨dst,.buildSlice 23 1 #[(0,x)],ty,pos,af,g⟩ (Lf S [X]) σ w:=by
 have hn:=New.mk' w (R6 X sa sc aa ac) FR;refine AP (DB (parts:=[(0,x)]) (ps:=[(0,.agg (R6 X sa sc aa ac))]) (by simp only[List.map,c]) dJ AG A1 qD qD qK) hn.ext ⟨_,O,?_⟩;exact ⟨_,_,O,qP,.inr ⟨_,0,d _ (dU _),O,BM.one (hn.blk.cells (by rfl)) (AR.ext hn.ext _ a)⟩⟩
theorem VE {b n:Nat} {l:List Re} {k m x:Int} (h:CE S w (.slice (oI b 0) n n) l) (hn:l.length=n):AR S w (.mk k [] l m x false) [I6 k,.slice none 0 0,.slice (oI b 0) l.length l.length,I6 m,I6 x,.bool false]:=by
 subst hn;obtain ⟨aa,ac,a,d,c⟩:=h;simp only[Value.slice.injEq,true_and] at a;obtain ⟨rfl,rfl⟩:=a;exact AR.of (set:=[]) (B_.nil _ _ _ _ _) d c
theorem SK {b n:Nat} {l:List Re} (a:ev σ x=.slice (oI b 0) n n) (h:CE S w (.slice (oI b 0) n n) l) (hn:l.length=n) :
 Ka prog N ⟨dst,.build 25 #[(0,.const (I6 4)),(2,x)],ty,pos,af,g⟩ (DQ S (.mk 4 [] l 0 0 false)) σ w:=by
 subst hn;exact AP (B0 (parts:=[(0,.const (I6 4)),(2,x)]) (ps:=[(0,I6 4),(2,.slice (oI b 0) l.length l.length)]) (v:=.agg #[I6 4,.slice none 0 0,.slice (oI b 0) l.length l.length,I6 0,I6 0,.bool false]) (by simp only[List.map,a];rfl) qK) (Ah.refl _) ⟨none,0,oI b 0,l.length,O,VE h O⟩
theorem SJ {b n:Nat} {l:List Re} {m u:Int} (c:ev σ x=.slice (oI b 0) n n) (a:ev σ y=I6 m) (d:ev σ z=I6 u) (h:CE S w (.slice (oI b 0) n n) l) (hn:l.length=n) :
 Ka prog N ⟨dst,.build 25 #[(0,.const (I6 6)),(2,x),(3,y),(4,z)],ty,pos,af,g⟩ (DQ S (.mk 6 [] l m u false)) σ w:=by
 subst hn;exact AP (B0 (parts:=[(0,.const (I6 6)),(2,x),(3,y),(4,z)]) (ps:=[(0,I6 6),(2,.slice (oI b 0) l.length l.length),(3,I6 m),(4,I6 u)]) (v:=.agg #[I6 6,.slice none 0 0,.slice (oI b 0) l.length l.length,I6 m,I6 u,.bool false]) (by simp only[List.map,c,a,d];rfl) qK) (Ah.refl _) ⟨none,0,oI b 0,l.length,O,VE h O⟩
end
theorem UU (w0:World) (S:Nat→Prop) (v:Value) (ts:List Re) (h:CE S w0 v ts) (hne:ts≠[]) (hl:ts.length≤1000000) :
  Bj prog 149 #[v] w0 λr w=>(∃a c,r=.slice a ts.length c∧CE (λb=>S b∨w0.heap.size≤b) w r ts)∧Ah w0 w:=by
 obtain ⟨aa,c,rfl,ao,h3⟩:=h;obtain ⟨b,o,hSb,rfl,ah⟩:=h3.resolve_left hne;have aq:=gT.2 hne;obtain ⟨rows,ab,ac⟩:=BM.rows ah;obtain ⟨base,aj⟩:∃base,base=w0.heap.size:=⟨_,rfl⟩;refine qR func149 rfl ntmps149 rfl (λE=>(AA (qA _ rfl (AB (AH (AA (qM _ rfl (CM (v:=(.bool false)) rfl rfl qD (Lm (a:=oI b o) dJ rfl rfl) (AB (Ae rfl (AM (AC (AA (Hw qD dJ AG ?_))))))))))))));intro bq wq Nq;have Fq:=Nq.ge E;have E:=E.ext Nq.ext;have Bq:=Nq.blk;refine qM _ rfl ?_;have ad:=IN (base:=base) (size:=6) Bq qO;have am:base≤wq.heap.size:=by have:=Nq.ext.size;omega
 refine BQ (base:=base) (n:=0) (m:=ts.length) (xs:=[]) (news:=rows.flatten) (size:=6) (bytes:=80) (v:=(.slice (oI bq 0) 0 0)) qD dJ AG E0 A1 rfl qD rfl ad rfl (by rw[Ck ab.six,ab.len]) (ac.ext Nq.ext) (ab.one) (by unfold maxLen;omega) qO (am) ?_;intro v9 w29 ae al Dv9;have E:=E.step al (λx hx h=>absurd (ad.lt x h).1 qO);obtain ⟨la,lc,rfl⟩:=BB ae;refine qA _ rfl (AB (AO (AY results149 (v:=(.slice la (0+ts.length) lc)) rfl ?_)));simp only[eO,fO] at ae;obtain ⟨ap,ag⟩:=Eo ae (ab.ext E) rfl;simp only[eO];refine ⟨⟨la,lc,rfl,la,lc,rfl,ap,?_⟩,E⟩;rcases ag with h|⟨ob,ak,an,ai,af⟩
 ·exact .inl h
 ·exact .inr ⟨ob,0,.inr qO,ai,D5 λi t ht=>by obtain ⟨vs,h6,h7⟩:=af i t ht;exact ⟨vs,h6,AR.mono (λy hy=>.inl hy) t h7⟩⟩
def Hm (c:Int) (n:Nat):Prop:=∀(t:Re) (w0:World) (S:oD) (vs:n_),t.size<n->Au t->AR S w0 t vs->(∀x,S x->x<w0.heap.size)->
  Bj prog 120 #[.agg vs.toArray,I6 c] w0 λr w=>(∃us,r=.agg us.toArray∧AR (λb=>S b∨w0.heap.size<=b) w (A_ c t) us)∧Ah w0 w
section
variable {c : Int} {t x : Re}
theorem G4 (c:Int) (t:Re):A_ c t=if t.kind=2 then (if Ca t.set c=true then BT else BO) else if t.kind=3 then Ek c t.args else if t.kind=4∨t.kind=7∨t.kind=8 then C5 t.kind [] (CO c t.args) 0 0 false else if t.kind=5 then De [(CO c t.args).headD BO,t] else if t.kind=6 then De [(CO c t.args).headD BO,C5 6 [] [t.args.headD BO] (max 0 (t.mn - 1)) (t.mx - 1) false] else BO:=by
 cases t;simp only[A_];rfl
theorem PE (h:t.kind=2):A_ c t=if Ca t.set c=true then BT else BO:=by rw[G4];simp[h]
theorem cW (h:t.kind=3):A_ c t=Ek c t.args:=by rw[G4];simp[h]
theorem aF (h:t.kind=4∨t.kind=7∨t.kind=8):A_ c t=DS (.mk t.kind [] (t.args.map (A_ c)) 0 0 false):=by rw[G4,if_neg qO,if_neg qO,if_pos h,Ix];rfl
theorem cV (h:t.kind=5) (a:t.args=[x]):A_ c t=De [A_ c x,t]:=by rw[G4,if_neg qO,if_neg qO,if_neg qO,if_pos h,a];rfl
theorem cU (h:t.kind=6) (a:t.args=[x]):A_ c t=De [A_ c x,DS (.mk 6 [] [x] (max 0 (t.mn - 1)) (t.mx - 1) false)]:=by rw[G4,if_neg qO,if_neg qO,if_neg qO,if_neg qO,if_pos h,a];rfl
theorem cT (h:t.kind=0∨t.kind=1):A_ c t=BO:=by rw[G4,if_neg qO,if_neg qO,if_neg qO,if_neg qO,if_neg qO]
end
theorem XL (c:Int) (n:Nat) (ih:Hm c n) (t:Re) (hn:t.size≤n) (h300:t.size≤300) (hok:Au t) (hk:t.kind=2) (w0:World) (S:Nat→Prop) (vs:n_) (ht:AR S w0 t vs) (hS:∀x,S x→x<w0.heap.size) :
  Bj prog 120 #[.agg vs.toArray,I6 c] w0 λr w=>(∃us,r=.agg us.toArray∧AR (λb=>S b∨w0.heap.size≤b) w (A_ c t) us)∧Ah w0 w:=by
 have ak:=ht;obtain ⟨sa,sc,aa,ac,rfl,af,al,ag⟩:=ht.form;have hRs:CE S w0 (.slice aa t.args.length ac) t.args:=GO ak;have hal:=Ch t;have aj:=t.size_eq;refine qR jR rfl ntmps120 rfl (λE=>(AA (BC (v:=(.agg (R6 t sa sc aa ac))) (c:=(R6 t sa sc aa ac)) qD rfl rfl ?_)));intro br wr Nr;have Fr:=Nr.ge E;have E:=E.ext Nr.ext;have Br:=Nr.blk;refine BK (c:=#[(I6 0),(.slice none 0 0),(.slice none 0 0),(I6 0),(I6 0),(.bool false)]) qD A1 rfl ?_;intro bo wo No;have Fo:=No.ge E;have Oo_br:=No.lt Br;have Br:=No.keep Br;have E:=E.ext No.ext;have Bo:=No.blk;refine AB (AH (AA (qF br 0 0 rfl dI rfl Al rfl (qV (AJ rfl Ag (Br.cell rfl)) (AB (AW (AA (qV (Ai rfl rfl) (qA _ rfl (AB ?_))))))))));have ah:(decide ((t.kind:Int)=2))=true:=decide_eq_true hk;refine Aq (Ar ah) (AA (qF br 0 1 rfl dI rfl Bc rfl (qV (AJ rfl Bf (Br.cell rfl)) (qM _ rfl (qE rfl (AS func67 kQ kQ rfl) (Zi _ _ t.set c (af.at.ext E)) ?_)))));rintro _ w9 ⟨rfl,X9⟩;have Br:=X9.keep Br;have Bo:=X9.keep Bo;have E:=E.ext X9;refine AB (A4 rfl (λad=>?_) (λad=>?_))
 ·have ae:=ad;refine AA (qE rfl (AS lV kQ kQ rfl) (GW _) ?_);rintro _ ai ⟨rfl,ab⟩;have Br:=ab.keep Br;have Bo:=ab.keep Bo;have E:=E.ext ab;refine Aa (b:=bo) (o:=0) (c':=#[(I6 1),(.slice none 0 0),(.slice none 0 0),(I6 0),(I6 0),(.bool false)]) rfl rfl qS AG rfl Bo qL rfl ?_;intro w3 S3;have Br:=S3.keep qO Br;have E:=S3.step E (by first|exact dH qO|assumption|exact dG rfl|exact dG (by assumption)|exact dG qP|exact dG qO|exact dG (by dsimp only;omega));have Bo:=S3.blk;refine AB (AO (Ac (AK (A2 jV (vs:=[(I6 1),(.slice none 0 0),(.slice none 0 0),(I6 0),(I6 0),(.bool false)]) (b:=bo) rfl Ad AG rfl (Bo.cells rfl) ?_))));exact ⟨⟨_,rfl,by rw[PE hk,if_pos ad];exact CF _ _ _⟩,E⟩
 ·have ae:=ad;refine AM (AV (AC (AA (qE rfl (AS nB kQ kQ rfl) (Je _) ?_))));rintro _ ai ⟨rfl,ab⟩;have Br:=ab.keep Br;have Bo:=ab.keep Bo;have E:=E.ext ab;refine Aa (b:=bo) (o:=0) (c':=#[(I6 0),(.slice none 0 0),(.slice none 0 0),(I6 0),(I6 0),(.bool false)]) rfl rfl qS AG rfl Bo qL rfl ?_;intro w4 S4;have Br:=S4.keep qO Br;have E:=S4.step E (by first|exact dH qO|assumption|exact dG rfl|exact dG (by assumption)|exact dG qP|exact dG qO|exact dG (by dsimp only;omega));have Bo:=S4.blk;refine AB (AO (A2 jV (vs:=[(I6 0),(.slice none 0 0),(.slice none 0 0),(I6 0),(I6 0),(.bool false)]) (b:=bo) rfl Ad AG rfl (Bo.cells rfl) ?_));exact ⟨⟨_,rfl,by rw[PE hk,if_neg (by rw[ad];decide)];exact CF _ _ _⟩,E⟩
theorem XM (c:Int) (n:Nat) (ih:Hm c n) (t:Re) (hn:t.size≤n) (h300:t.size≤300) (hok:Au t) (hk:t.kind=0∨t.kind=1) (w0:World) (S:Nat→Prop) (vs:n_) (ht:AR S w0 t vs) (hS:∀x,S x→x<w0.heap.size) :
  Bj prog 120 #[.agg vs.toArray,I6 c] w0 λr w=>(∃us,r=.agg us.toArray∧AR (λb=>S b∨w0.heap.size≤b) w (A_ c t) us)∧Ah w0 w:=by
 have an:=ht;obtain ⟨sa,sc,aa,ac,rfl,ag,ao,ad⟩:=ht.form;have hRs:CE S w0 (.slice aa t.args.length ac) t.args:=GO an;have hal:=Ch t;have al:=t.size_eq;refine qR jR rfl ntmps120 rfl (λE=>(AA (BC (v:=(.agg (R6 t sa sc aa ac))) (c:=(R6 t sa sc aa ac)) qD rfl rfl ?_)));intro br wr Nr;have Fr:=Nr.ge E;have E:=E.ext Nr.ext;have Br:=Nr.blk;refine BK (c:=#[(I6 0),(.slice none 0 0),(.slice none 0 0),(I6 0),(I6 0),(.bool false)]) qD A1 rfl ?_;intro bo wo No;have Fo:=No.ge E;have Oo_br:=No.lt Br;have Br:=No.keep Br;have E:=E.ext No.ext;have Bo:=No.blk;refine AB (AH (AA (qF br 0 0 rfl dI rfl Al rfl (qV (AJ rfl Ag (Br.cell rfl)) (AB (AW (AA (qV (Ai rfl rfl) (qA _ rfl (AB ?_))))))))));have ae:(decide ((t.kind:Int)=2))=false:=decide_eq_false qO;refine Ae (Ar ae) (AA (qV (Ai rfl rfl) (qA _ rfl (AB ?_))));have ai:(decide ((t.kind:Int)=3))=false:=decide_eq_false qO;refine Ae (Ar ai) (AH (AA (qV (Ai rfl rfl) (qA _ rfl (AB ?_)))));have aj:(decide ((t.kind:Int)=4))=false:=decide_eq_false qO;refine Ae (Ar aj) (AA (qV (Ai rfl rfl) (qA _ rfl (AB ?_))));have am:(decide ((t.kind:Int)=7))=false:=decide_eq_false qO;refine Ae (Ar am) (AN (qV (Ai rfl rfl) (qA _ rfl (AB (AC ?_)))));have ah:(decide ((t.kind:Int)=8))=false:=decide_eq_false qO;refine Ae (Ar ah) (AA (qV (Ai rfl rfl) (qA _ rfl (AB ?_))));have ak:(decide ((t.kind:Int)=5))=false:=decide_eq_false qO;refine Ae (Ar ak) (AA (qV (Ai rfl rfl) (qA _ rfl (AB ?_))));have af:(decide ((t.kind:Int)=6))=false:=decide_eq_false qO;refine Ae (Ar af) (AM (AV (AC (AA (qE rfl (AS nB kQ kQ rfl) (Je _) ?_)))));rintro _ w29 ⟨rfl,ab⟩;have Br:=ab.keep Br;have Bo:=ab.keep Bo;have E:=E.ext ab;refine Aa (b:=bo) (o:=0) (c':=#[(I6 0),(.slice none 0 0),(.slice none 0 0),(I6 0),(I6 0),(.bool false)]) rfl rfl qS AG rfl Bo qL rfl ?_;intro w8 S8;have Br:=S8.keep qO Br;have E:=S8.step E (by first|exact dH qO|assumption|exact dG rfl|exact dG (by assumption)|exact dG qP|exact dG qO|exact dG (by dsimp only;omega));have Bo:=S8.blk;refine AB (AO (A2 jV (vs:=[(I6 0),(.slice none 0 0),(.slice none 0 0),(I6 0),(I6 0),(.bool false)]) (b:=bo) rfl Ad AG rfl (Bo.cells rfl) ?_));exact ⟨⟨_,rfl,by rw[cT hk];exact CF _ _ _⟩,E⟩
theorem XI (c:Int) (n:Nat) (ih:Hm c n) (t:Re) (hn:t.size≤n) (h300:t.size≤300) (hok:Au t) (hk:t.kind=5) (w0:World) (S:Nat→Prop) (vs:n_) (ht:AR S w0 t vs) (hS:∀x,S x→x<w0.heap.size) :
  Bj prog 120 #[.agg vs.toArray,I6 c] w0 λr w=>(∃us,r=.agg us.toArray∧AR (λb=>S b∨w0.heap.size≤b) w (A_ c t) us)∧Ah w0 w:=by
 have az:=ht;obtain ⟨sa,sc,aa,ac,rfl,a9,bu,ai⟩:=ht.form;have hRs:CE S w0 (.slice aa t.args.length ac) t.args:=GO az;have hal:=Ch t;have bb:=t.size_eq;refine qR jR rfl ntmps120 rfl (λE=>(AA (BC (v:=(.agg (R6 t sa sc aa ac))) (c:=(R6 t sa sc aa ac)) qD rfl rfl ?_)));intro br wr Nr;have Fr:=Nr.ge E;have E:=E.ext Nr.ext;have Br:=Nr.blk;refine BK (c:=#[(I6 0),(.slice none 0 0),(.slice none 0 0),(I6 0),(I6 0),(.bool false)]) qD A1 rfl ?_;intro bo wo No;have Fo:=No.ge E;have Oo_br:=No.lt Br;have Br:=No.keep Br;have E:=E.ext No.ext;have Bo:=No.blk;refine AB (AH (AA (qF br 0 0 rfl dI rfl Al rfl (qV (AJ rfl Ag (Br.cell rfl)) (AB (AW (AA (qV (Ai rfl rfl) (qA _ rfl (AB ?_))))))))));obtain ⟨n1,ap⟩:∃n1,n1=wo.heap.size:=⟨_,rfl⟩;have hob:br<n1∧bo<n1∧w0.heap.size≤bo∧w0.heap.size≤n1:=⟨by rw[ap];exact Br.lt,by rw[ap];exact Bo.lt,qO,by rw[ap];exact E.size⟩;have a6:n1≤wo.heap.size:=qO
 have E1:Ah wo wo:=Ah.refl _;have a8:(decide ((t.kind:Int)=2))=false:=decide_eq_false qO;refine Ae (Ar a8) (AA (qV (Ai rfl rfl) (qA _ rfl (AB ?_))));have bm:(decide ((t.kind:Int)=3))=false:=decide_eq_false qO;refine Ae (Ar bm) (AH (AA (qV (Ai rfl rfl) (qA _ rfl (AB ?_)))));have a0:(decide ((t.kind:Int)=4))=false:=decide_eq_false qO;refine Ae (Ar a0) (AA (qV (Ai rfl rfl) (qA _ rfl (AB ?_))));have a7:(decide ((t.kind:Int)=7))=false:=decide_eq_false qO;refine Ae (Ar a7) (AN (qV (Ai rfl rfl) (qA _ rfl (AB (AC ?_)))));have bv:(decide ((t.kind:Int)=8))=false:=decide_eq_false qO;refine Ae (Ar bv) (AA (qV (Ai rfl rfl) (qA _ rfl (AB ?_))));have bn:(decide ((t.kind:Int)=5))=true:=decide_eq_true hk;refine Aq (Ar bn) ?_;obtain ⟨x,au,ar⟩:∃x,t.args=[x]∧Au x:=by obtain ⟨y,hy,_⟩:=hok.n.k5 hk;exact ⟨y,hy,hok.a y (by rw[hy];simp)⟩
 have hx:t.args[0]?=some x:=by rw[au];rfl
 have a1:t.args.length=1:=by rw[au];rfl
 have hxz:=Re.size_arg hx;obtain ⟨ab,ao,hab,rfl,ax⟩:=ai.resolve_left (λh=>by rw[h] at hx;cases hx);obtain ⟨us,a3,ay⟩:=ax.get hx;have av:=ay;obtain ⟨aw,al,aq,an,rfl,_,_,_⟩:=ay.form;have hsm:=E5 (c:=c) ar qO;obtain ⟨N,hN⟩:∃N,N=A_ c t:=⟨_,rfl⟩;obtain ⟨D,hD⟩:∃D,D=A_ c x:=⟨_,rfl⟩;have bj:N=De [D,t]:=by rw[hN,hD];exact cV hk au
 have bg:w0.heap.size≤wo.heap.size:=E.size;have ak:br<wo.heap.size:=Br.lt;have aj:bo<wo.heap.size:=Bo.lt;refine AH ?_;obtain ⟨be,ad⟩:∃Fs:List Fact,Fs=[.eq (P6 br 2),.eq (.slice (oI ab ao) t.args.length ac),.eq (.pointer (some ⟨ab,ao+0*6,none⟩)),.eq (.agg (R6 x aw al aq an)),.eq (I6 c),.gen (DQ (λb=>S b∨n1≤b) D) (BD _ _),.eq (.agg (R6 t sa sc (oI ab ao) ac)),.gen (Lf (λb=>S b∨n1≤b) [D,t]) (DE _ _),.gen (DQ (λb=>S b∨n1≤b) N) (BD _ _),.eq undef]:=⟨_,rfl⟩;refine FQ [true,true,true,true,true,true,true,true,true,false] [9] [75,76,77,78,79,80,81,82,83,119] [[],[0],[1],[2],[],[3,4],[],[5,6],[5,7],[]] be ad mixed qK qK qK qK ?_ ?_
 ·intro wd X0;refine DagStepsP.cons (λs' w' X U H=>dH ⟨?_,?_⟩) ?_
  ·exact AE rfl
  ·exact AP (AQ (U 2 rfl) dI rfl BF rfl) (Ah.refl _) rfl
  refine DagStepsP.cons (λs' w' X U H=>dH ⟨?_,?_⟩) ?_
  ·exact AE rfl
  ·have bf:s' 75=(P6 br 2):=H 0 rfl 75 (.eq (P6 br 2)) rfl (by rw[ad];rfl);exact AP (AJ bf A9 (((X0.trans X).keep Br).cell rfl)) (Ah.refl _) rfl
  refine DagStepsP.cons (λs' w' X U H=>dH ⟨?_,?_⟩) ?_
  ·exact AE rfl
  ·have bd:s' 76=(.slice (oI ab ao) t.args.length ac):=H 1 rfl 76 (.eq (.slice (oI ab ao) t.args.length ac)) rfl (by rw[ad];rfl);exact AP (AL (i:=0) bd rfl rfl dJ AG qO qO) (Ah.refl _) rfl
  refine DagStepsP.cons (λs' w' X U H=>dH ⟨?_,?_⟩) ?_
  ·exact AE rfl
  ·have bt:s' 77=(.pointer (some ⟨ab,ao+0*6,none⟩)):=H 2 rfl 77 (.eq (.pointer (some ⟨ab,ao+0*6,none⟩))) rfl (by rw[ad];rfl);exact AP (AI bt Ad AG rfl (a3.ext (Ah.trans E (X0.trans X)))) (Ah.refl _) rfl
  refine DagStepsP.cons (λs' w' X U H=>dH ⟨?_,?_⟩) ?_
  ·exact AE rfl
  ·exact AP (Am (U 1 rfl)) (Ah.refl _) rfl
  refine DagStepsP.cons (λs' w' X U H=>dH ⟨?_,?_⟩) ?_
  ·exact AE rfl
  ·have bk:s' 78=(.agg (R6 x aw al aq an)):=H 3 rfl 78 (.eq (.agg (R6 x aw al aq an))) rfl (by rw[ad];rfl);have bq:s' 79=(I6 c):=H 4 rfl 79 (.eq (I6 c)) rfl (by rw[ad];rfl);exact A7 (AS jR kQ kQ (F_ bk bq)) ((ih x _ S _ qO ar (AR.ext (Ah.trans E (X0.trans X)) x av) (λy hy=>by have:=hS y hy;have:=E.size;have:=X0.size;have:=X.size;omega)).mono (λr w h=>⟨CI (S':=λb=>S b∨w'.heap.size≤b) (λb hb=>by rcases hb with h1|h1;exact .inl h1;exact .inr (by have:=E.size;have:=X0.size;have:=X.size;omega)) (by rw[hD];exact h.1),h.2⟩))
  refine DagStepsP.cons (λs' w' X U H=>dH ⟨?_,?_⟩) ?_
  ·exact AE rfl
  ·exact AP (AI (U 2 rfl) Ad AG rfl (((X0.trans X).keep Br).cells rfl)) (Ah.refl _) rfl
  refine DagStepsP.cons (λs' w' X U H=>dH ⟨?_,?_⟩) ?_
  ·exact AE rfl
  ·obtain ⟨bi,a2,bw,a5,a4,bc⟩:=H 5 rfl 80 (.gen (DQ (λb=>S b∨n1≤b) D) (BD _ _)) rfl (by rw[ad];rfl);have ba:s' 81=(.agg (R6 t sa sc (oI ab ao) ac)):=H 6 rfl 81 (.eq (.agg (R6 t sa sc (oI ab ao) ac))) rfl (by rw[ad];rfl);exact Fb a4 ba bc (AR.mono (λy hy=>.inl hy) t (AR.ext (Ah.trans E (X0.trans X)) t az)) (λb hb=>.inr (by have:=E.size;have:=X0.size;have:=X.size;omega))
  refine DagStepsP.cons (λs' w' X U H=>dH ⟨?_,?_⟩) ?_
  ·exact AE rfl
  ·obtain ⟨b82,bh,bs⟩:=H 7 rfl 82 (.gen (Lf (λb=>S b∨n1≤b) [D,t]) (DE _ _)) rfl (by rw[ad];rfl);exact A7 (AS nC kQ kQ (Ha bh)) ((MS _ (λb=>(S b∨n1≤b)∧b<w'.heap.size) _ [D,t] (CE.lt bs) (λy hy=>hy.2) (λy hm hk=>by rcases dZ.1 hm with rfl|hm;exact (Cm (by rw[hD];exact Du c ar)).1 (.inl hk);simp at hm;subst hm;omega) (by simp only[Re.sizes];rw[hD];omega)).mono (λr w h=>⟨CI (S':=λb=>((S b∨n1≤b)∧b<w'.heap.size)∨w'.heap.size≤b) (λb hb=>by rcases hb with h1|h1;exact h1.1;exact .inr (by have:=E.size;have:=X0.size;have:=X.size;omega)) (by rw[bj];exact h.1),h.2⟩))
  refine DagStepsP.tail ?_;exact DagStepsP.nil
 ·intro s' w7 X7 U H;obtain ⟨ag,ah,af,ae,bp,am⟩:=H 8 rfl 83 (.gen (DQ (λb=>S b∨n1≤b) N) (BD _ _)) rfl (by rw[ad];rfl);obtain ⟨j7,rfl⟩:=Ak.out (σ:=s') (l:=[(4,(P6 bo 0)),(83,(.agg (R6 N ag ah af ae)))]) ⟨U 4 rfl,bp,trivial⟩;clear U H;have Br:=X7.keep Br;have Bo:=X7.keep Bo;have E:=E.ext X7;refine Aa (b:=bo) (o:=0) (c':=(R6 N ag ah af ae)) rfl rfl qS AG rfl Bo qL rfl ?_;intro w8 S8;have am:=AR.chg S8.chg (λy hy h=>by have h2:y=bo:=h;rcases hy with h1|h1;have:=hS y h1;omega;omega) _ am;have Br:=S8.keep qO Br;have E:=S8.step E (by first|exact dH qO|assumption|exact dG rfl|exact dG (by assumption)|exact dG qP|exact dG qO|exact dG (by dsimp only;omega));have Bo:=S8.blk;refine AB (AC (AO (Ac (AK (A2 jV (vs:=(oJ N ag ah af ae)) (b:=bo) rfl Ad AG rfl (Bo.cells rfl) ?_)))));exact ⟨⟨_,rfl,by rw[←hN];exact AR.mono (λy hy=>by rcases hy with h1|h1;exact .inl h1;exact .inr qO) _ am⟩,E⟩
end Go.Proofs
namespace Go.Eng
open Go
inductive Cvs (n:Nat):List Fact->List Fact->Prop where
  | nil:Cvs n [] []
  | cons {F F':Fact} {l l':List Fact} (h:∀v w,w.heap.size=n->F.In v w->F'.In v w) (t:Cvs n l l'):Cvs n (F::l) (F'::l')
theorem Cvs.get {n:Nat}:∀{l b:List Fact},Cvs n l b->∀{j:Nat} {a:Fact},b[j]?=some a->∃F,l[j]?=some F∧∀v w,w.heap.size=n->F.In v w->a.In v w
 | _,_,.nil,_,_,h=>by simp at h
 | _,_,.cons h _,0,_,h1=>by simp at h1;subst h1;exact ⟨_,O,h⟩
 | _,_,.cons _ t,j+1,_,h1=>by
  obtain ⟨F,d,c⟩:=t.get (j:=j) (by simpa using h1);exact ⟨F,by simpa using d,c⟩
theorem Cvs.same {n:Nat} {F:Fact} {l a:List Fact} (t:Cvs n l a):Cvs n (F::l) (F::a):=.cons (λ_ _ _ h=>h) t
def PD (P:Program) (t:TypeId) (c:oG) (d:Nat) (o:Oper):Prop:=
 (∃z rt pos af,FP P t z∧z.cells=c∧o=⟨some d,.alloc t,rt,pos,af,none⟩)∧o.dst=some d∧o.guard=none
theorem PD.mk' {P:Program} {t:TypeId} {c:oG} {d:Nat} {z:Value} {a:TypeId} {pos:String} {af:Array Edge} (e:FP P t z) (b:z.cells=c):PD P t c d ⟨some d,.alloc t,a,pos,af,none⟩:=⟨⟨_,_,_,_,e,b,O⟩,O,O⟩
def ZF (l:List Oper) (hd:List Bool) (ts:oC) (lt f:Nat):Bool:=
 (List.range l.length).all λi=>hd.getD i false || (ts.contains i && bif Nat.beq i f then (List.range l.length).all (λu=>!hd.getD u false || (Nat.beq u lt || Ff l i u)) else ts.any λp=>!hd.getD p true && Ff l i p)
def Yx (ops:Array Oper) (hd:List Bool) (ts:oC) (lt f al:Nat) (ks:oC):Bool:=!hd.getD lt false || (JO ops ks (((hd.set lt false).set f true).toArray) && (Nat.beq ks.length ts.length && !Nat.beq al lt))
theorem I7:∀hd:List Bool,DP hd hd=0
 | []=>rfl
 | true::hd=>by have:=I7 hd;simpa[DP] using this
 | false::hd=>by have:=I7 hd;simpa[DP] using this
theorem Ig {P:Program} {N:Nat} {Q:EF} {σ:CZ} {w:World} {id:Nat} {l:List Oper} (hd:List Bool) (ts:oC) (lt f:Nat) (ks:oC) (ds:oC) (wss:List oC) (Fs:oD->List Fact) {Gs:oD->List Fact} (hG:Fs=Gs) (R0:oD) (hR0:∀y,w.heap.size<=y->R0 y) (al dA:Nat) {tA:TypeId} {oA:Oper} {cA:oG} {lo:Nat} (hlo:lo<=w.heap.size) (hdA:ds[al]?=some dA) (hoA:l[al]?=some oA) (hoA2:PD P tA cA dA oA) (hFA:∀R,∃h,(Fs R)[al]?=some (.gen (OW tA cA lo) h))
 (hcv:∀n,Cvs n (Fs R0) (Fs λy=>R0 y∧y≠n)) (hm:P.follows .mixedOrders=true) (hB:Fl N hd 0 l ds wss hd=true) (hn:HZ ds=true)
 (hAt:hd[al]?=some true) (hT:(ZF l hd ts lt f && JO l.toArray ts hd.toArray)=true) (hL:Yx l.toArray hd ts lt f al ks=true) (hN:Nat.beq (DP hd (List.replicate l.length false)+ts.length) l.length=true)
 (steps:∀w1,Ah w w1->∀RR:oD,(∀y,y<w.heap.size->R0 y->RR y)->(∀y,w1.heap.size<=y->RR y)->DagStepsP P N ds (Fs RR) σ w1 l wss hd (Gs RR))
 (k:∀σ' w' (RR:oD) β,Ah w w'->(∀t,ds.contains t=false->σ' t=σ t)->(∀y,RR y->R0 y∧y≠β)->σ' dA=P6 β 0->(∀j,hd[j]?=some true->Holds ds (Fs RR) j σ' w')->Dp P N l.toArray (Q .normal) Q (ts.filterMap λk=>l[k]?) σ' w')
 (k2:hd.getD lt false=true->∀σ' w' (RR:oD) β,Ah w w'->(∀t,ds.contains t=false->σ' t=σ t)->(∀y,RR y->R0 y∧y≠β)->σ' dA=P6 β 0->(∀j,hd[j]?=some true->j≠lt->Holds ds (Fs RR) j σ' w')->Dp P N l.toArray (Q .normal) Q ((f::ks).filterMap λk=>l[k]?) σ' w'):Wp P N (.region id l.toArray true) Q σ w:=by
 intro dz a ha he;have eQ:EJ dz N (NE (Q .normal) Q)=EJ dz N Q:=by funext e a w;cases e<;>rfl
 refine wp_region_any hm ?_;obtain ⟨w1,b5⟩:∃w1:World,w1={w with drawn:=w.drawn+1}:=⟨_,O⟩;have bo:Ah w w1:=by rw[b5];exact HH w
 rw[<-b5];have ba:=steps w1 bo R0 (λy _ h=>h) (λy hy=>hR0 y (by have:=bo.size;omega));rw[<-hG] at ba;rw[dP] at hT;obtain ⟨cf,cv⟩:=hT;obtain ⟨cj,b2⟩:=KS hB;obtain ⟨bk,cy,co⟩:=hoA2;have cr:∀(m:Nat) (RR:oD) (wB:World) (listed:Array Bool) (a:Act) (w':World),DagStepsP P N ds (Fs RR) σ wB l wss hd (Fs RR)->Ah w wB->(listed.getD al false=false->RR=R0)->(listed.getD al false=true->∃β,(∀y,RR y->R0 y∧y≠β)∧Dr a dA=P6 β 0)->DP hd listed.toList=m->listed.size=l.length->(∀(t:Nat),hd[t]?=some false->listed.toList[t]?=some false)->Ok dz N a->Ah wB w'->(∀t,ds.contains t=false->Dr a t=σ t)->(∀j,hd[j]?=some true->listed.getD j false=true->Holds ds (Fs RR) j (Dr a) w')->
  wpAny P .any l.toArray (EJ dz N Q) (m+ts.length) listed a w':=by
  intro m
  induction m with
  | zero=>
   intro RR wB listed a w' bp a7 bu be ck b4 au ha hx hu hh;have hl:listed=hd.toArray:=by
    apply iJ;exact Hb (by simp;omega) ck au
   have ce:listed.getD al false=true:=by
    rw[hl];exact Cr (by simpa using hAt)
   rw[eO];obtain ⟨β,bn,bq⟩:=be ce;have h1:=k (Dr a) w' RR β (a7.trans hx) hu bn bq (λj hj=>hh j hj (Cr (by rw[hl];exact hj))) dz a ha O;rw[eQ] at h1;exact EN ts listed a w' (by rw[hl];exact cv) (by simpa using h1)
  | succ m ih=>
   intro RR wB listed a w' bp a7 bu be hcm b4 au ha hx hu hh;obtain ⟨i0,ap,bc⟩:=IT (hd:=hd) (listed:=listed.toList) qO;rw[show m+1+ts.length=(m+ts.length)+1 by omega];refine ⟨λhr=>?_,λi hi=>?_⟩
   .exfalso;have bm:∀i:Nat,hd[i]?=some true->listed.getD i true=true:=by
     intro i
     induction i using Nat.strongRecOn with
     | _ i ihi=>
      intro hi;cases hv:listed.getD i true with
      | true=>rfl
      | false=>
       exfalso;obtain ⟨o,ho⟩:=AU (l:=l) (i:=i) (by have:=AX hi;omega);obtain ⟨d,ws,h,_,_,h2,h3⟩:=FD hB ho;rw[hi] at h2;cases h2;simp only[cond_true,dP,eO] at h3;have:i∈Region.ready .any l.toArray listed:=by
        refine mem_ready.2 ⟨hv,o,by simpa using ho,λe he hb=>?_⟩;have h4:=h3.1;simp only[Ev,dP,fA,eZ,e_] at h4;have h5:=h3.2.1;simp only[fA,eZ,e_] at h5;have h6:=(h4.1.2 e he).resolve_left (by simp[hb]);have aj:e.on<i:=by simpa[gY] using h6
        have h7:=(h5 e he).resolve_left (by simp[hb]);have b3:e.on<hd.length:=by have:=AX hi;omega
        have h8:hd[e.on]?=some true:=by
         rw[eG,dM b3,eL] at h7;rw[dM b3,h7]
        have h9:=ihi e.on aj h8;have hj:e.on<listed.size:=qO
        simpa only[eB,dV hj,eL] using h9
       rw[hr] at this;cases this
    have:=bm i0 ap;rw[Cr bc] at this;cases this
   .obtain ⟨h1,o,h2,h3⟩:=mem_ready.1 hi;have ho:l[i]?=some o:=by simpa using h2
    have b8:i<l.length:=AX ho;by_cases hih:hd[i]?=some true
    rotate_left
    .-- one of the tail: all of the head but one are listed
     have hb:hd[i]?=some false:=by
      obtain ⟨b,hb⟩:=AU (l:=hd) (i:=i) qO;cases b with
      | true=>exact absurd hb hih
      | false=>exact hb
     have h4:=fM.1 cf i (gJ.2 b8);rw[eG,hb,eL,gZ,dP] at h4;have a3:∀u,Ff l i u=true->listed.getD u false=true:=λu bd=>by
      unfold Ff at bd;rw[ho] at bd;simp only[gI,dP] at bd;obtain ⟨e,he,br,bj⟩:=bd;have:=dY bj;rw[<-this];exact h3 e he br
     cases hif:Nat.beq i f with
     | false=>
      exfalso;rw[hif,cond_false] at h4;obtain ⟨p,_,h6⟩:=eX.1 h4.2;rw[dP,e_] at h6;have h7:=a3 p h6.2;have hp:hd[p]?=some false:=by
       have h8:=h6.1;rw[eG] at h8;cases h9:hd[p]? with
       | none=>rw[h9] at h8;cases h8
       | some b=>rw[h9,eL] at h8;rw[h8]
      rw[Cr (au p hp)] at h7;cases h7
     | true=>
      rw[hif,cond_true] at h4;have b1:i=f:=dY hif;have ab:∀u,hd[u]?=some true->u≠lt->listed.getD u false=true:=λu b7 cc=>by
       have h6:=fM.1 h4.2 u (gJ.2 (by have:=AX b7;omega));rw[eG,b7,eL,jX,gZ,eZ] at h6;rcases h6 with h6|h6
       .exact absurd (dY h6) cc
       .exact a3 u h6
      have bh:i0=lt:=Classical.byContradiction λag=>by
       have:=ab i0 ap ag;rw[Cr bc] at this;cases this
      subst bh;have bv:listed.toList=hd.set i0 false:=by
       apply fW;intro t;rw[fG];by_cases ht:i0=t
       .subst ht;rw[if_pos O,if_pos (AX ap)];exact bc
       .rw[if_neg ht];cases h9:hd[t]? with
        | none=>exact eR (by have:=List.getElem?_eq_none_iff.1 h9;simp;omega)
        | some b=>
         cases b with
         | false=>exact au t h9
         | true=>
          have av:=ab t h9 (Ne.symm ht);have bz:t<listed.size:=by have:=AX h9;omega
          simp only[eB,dV bz,eL] at av;rw[gC,dV bz,av]
      have cp:m=0:=by
       have h9:=HE ap bc;have av:listed.toList.set i0 true=hd:=by
        rw[bv,List.set_set];apply fW;intro t;rw[fG];by_cases ht:i0=t
        .subst ht;rw[if_pos O,if_pos (AX ap),ap]
        .rw[if_neg ht]
       rw[av,I7] at h9;omega
      subst cp;have ac:hd.getD i0 false=true:=by rw[eG,ap,eL]
      unfold Yx at hL;rw[ac,jX,gZ,dP,dP,e_] at hL;obtain ⟨cs,bt,b6⟩:=hL;have bt:=dY bt;have ag:al≠i0:=λe=>by rw[e,kE] at b6;cases b6
      obtain ⟨β,bn,bq⟩:=be (ab al hAt ag);have h9:=k2 ac (Dr a) w' RR β (a7.trans hx) hu bn bq (λj hj c0=>hh j hj (ab j hj c0)) dz a ha O;rw[eQ] at h9;have bx:wpList P l.toArray (EJ dz N Q) ((f::ks).filterMap λk=>l.toArray[k]?) a w':=by simpa using h9
      have hw:wpOp P l.toArray (EJ dz N Q) i (wpList P l.toArray (EJ dz N Q) (ks.filterMap λk=>l.toArray[k]?)) a w':=by
       rw[nP,<-b1,h2] at bx;unfold wpOp;simp only[h2];exact bx
      rw[eO,<-bt];refine wpOp_mono (λa2 w2 av=>EN ks _ a2 w2 ?_ av) hw;have cd:listed.setIfInBounds i true=(((hd.set i0 false).set f true).toArray):=by
       apply iJ;rw[fC,bv,b1]
      rw[cd];exact cs
    obtain ⟨d,ws,h,ax,cl,bw,h4⟩:=FD hB ho;rw[hih] at bw;cases bw;obtain ⟨ws',F,a6,hF,az⟩:=bp.get ho hih;rw[cl] at a6;cases a6;simp only[cond_true,dP,eO] at h4;have ay:=h4.2.2;have h4:=h4.1;simp only[Ev,dP,fM,gI,fA,eZ,e_] at h4;obtain ⟨⟨⟨ae,bf⟩,_⟩,a0⟩:=h4;have ae:o.dst=some d:=by
     split at ae
     .rename_i d' h;rw[h,dY ae]
     .cases ae
    have bf:d<N:=by simpa[gY] using bf
    have hH:∀j,ws.contains j=true->Holds ds (Fs RR) j (Dr a) w':=by
     intro j hj;have b9:j∈ws:=by simpa using hj
     obtain ⟨e,he,hb⟩:=a0 j b9;obtain ⟨br,bj⟩:=hb;have cq:e.on=j:=dY bj;have a8:=h3 e he br;rw[cq] at a8;refine hh j ?_ a8;obtain ⟨b,hb⟩:=AU (l:=hd) (i:=j) (by
      rcases eI j listed.size with h9|h9
      .omega
      .simp[eB,gG h9] at a8)
     cases b with
     | true=>exact hb
     | false=>rw[Cr (au j hb)] at a8;cases a8
    have gd:∀j b,o.guard=some (j,b)->∀dj,ds[j]?=some dj->(∃oj,l[j]?=some oj∧oj.dst=some dj)∧dj<N:=λj b ac dj am=>by
     obtain ⟨oj,aq⟩:=AU (l:=l) (i:=j) (by have:=AX am;omega);obtain ⟨dj',_,hj,a1,_,h5,h6⟩:=FD hB aq;rw[am] at a1;cases a1;unfold KM at ay;rw[ac] at ay;simp only at ay;have h7:hj=true:=by rw[eG,h5,eL] at ay;exact ay
     rw[h7] at h6;simp only[cond_true,dP,Ev] at h6;obtain ⟨⟨⟨aa,ad⟩,_⟩,_⟩:=h6.1;refine ⟨⟨oj,aq,?_⟩,by simpa[gY] using ad⟩;split at aa
     .rename_i d' h;rw[h,dY aa]
     .cases aa
    have ak:∀(R2:oD) (wC:World) v w2,DagStepsP P N ds (Fs R2) σ wC l wss hd (Fs R2)->Ah w wC->Ah wC w2->((listed.setIfInBounds i true).getD al false=false->R2=R0)->((listed.setIfInBounds i true).getD al false=true->∃β,(∀y,R2 y->R0 y∧y≠β)∧Of (Dr a) d v dA=P6 β 0)->(∀F,(Fs R2)[i]?=some F->F.In v w2)->(∀j,j≠i->hd[j]?=some true->listed.getD j false=true->Holds ds (Fs R2) j (Dr a) w2)->wpAny P .any l.toArray (EJ dz N Q) (m+ts.length) (listed.setIfInBounds i true) (a.put o.dst v) w2:=by
     intro R2 wC v w2 ai ct c1 cz ci hv cn;have ar:Dr (a.put o.dst v)=Of (Dr a) d v:=by rw[ae];exact FN ha bf v
     have cg:listed.toList[i]?=some false:=by
      have hj:i<listed.size:=qO
      simp only[eB,dV hj,eL] at h1;rw[gC,dV hj,h1]
     refine ih R2 wC _ _ _ ai ct cz (λh=>by obtain ⟨β,h5,h6⟩:=ci h;exact ⟨β,h5,by rw[ar];exact h6⟩) ?_ (by simpa using b4) (λt ht=>?_) (ha.put _ _) c1 ?_ ?_
     .rw[fC];have:=HE hih cg;omega
     .rw[fC,fG];have ag:i≠t:=λe=>by rw[<-e,hih] at ht;cases ht
      rw[if_neg ag];exact au t ht
     .intro t ht;rw[ar,<-hu t ht];simp only[Of];cases hb:Nat.beq t d
      .rfl
      .exfalso;have:t=d:=dY hb;subst this;have:=dK ax;simp[this] at ht
     .intro j a5 hj d' F' ah b0;rw[ar];by_cases a4:j=i
      .subst a4;rw[ax] at ah;cases ah;simp only[Of,kE,cond_true];exact hv _ b0
      .have ag:Nat.beq d' d=false:=by
        cases hb:Nat.beq d' d
        .rfl
        .exfalso;have:d'=d:=dY hb;subst this;exact a4 (DN hn ah ax)
       simp only[Of,ag,cond_false];rw[getD_set_ne _ (Ne.symm a4)] at hj;exact cn j a4 a5 hj d' F' ah b0
    by_cases hia:i=al
    .-- the new variable itself
     subst hia;rw[hoA] at ho;cases ho;rw[hdA] at ax;cases ax;have cx:=bu (getD_both h1);subst cx;obtain ⟨z,rt,pos,af,hz,ca,ch⟩:=bk;have hw:Region.wanted oA (yielded l.toArray a.tmps)=true:=by simp[Region.wanted,co]
     have bi:Ka P N oA (λv w2=>v=P6 w'.heap.size 0∧BV w2 w'.heap.size cA tA∧w'.heap.size<w2.heap.size) (Dr a) w':=by
      subst ch;subst ca;have hn:=New.mk' w' z.cells tA;exact AP (v:=P6 w'.heap.size 0) (by simp[execOp,Instr.alloc,hz.run,newVar,newRow]) hn.ext ⟨O,hn.blk,hn.blk.lt⟩
     unfold wpOp;simp only[h2,hw,if_true];refine dH (bi _ a ha O _ _ ?_);rintro v w2 aw ⟨rfl,bs,aj⟩;have ao:=a7.trans hx;have hs1:=ao.size;have ai:=steps w2 (ao.trans aw) (λy=>RR y∧y≠w'.heap.size) (λy hy h=>⟨h,qO⟩) (λy hy=>⟨hR0 y qO,qO⟩);rw[<-hG] at ai;refine ak _ w2 _ w2 ai (ao.trans aw) (Ah.refl _) (λh=>?_) (λ_=>⟨w'.heap.size,λy h=>h,by simp[Of]⟩) (λF2 bb=>?_) (λj a4 a5 hj=>?_)
     .rw[Cr (b:=true) (by rw[fC,fG,if_pos O,if_pos (by simpa using (by omega:i<listed.size))])] at h;cases h
     .obtain ⟨h5,h6⟩:=hFA λy=>RR y∧y≠w'.heap.size;rw[h6] at bb;cases bb;exact ⟨_,O,bs,qO⟩
     .intro dj Fj am cb;obtain ⟨F0,cu,hc⟩:=(hcv w'.heap.size).get cb;exact Fact.ext (hc _ _ O (hh j a5 hj dj F0 am cu)) aw
    have a9:∀v w2,Ah w' w2->F.In v w2->wpAny P .any l.toArray (EJ dz N Q) (m+ts.length) (listed.setIfInBounds i true) (a.put o.dst v) w2:=by
     intro v w2 aw hv;refine ak RR wB v w2 bp a7 (hx.trans aw) (λh=>bu (by rw[getD_set_ne _ (by omega:i≠al)] at h;exact h)) (λh=>?_) (λF2 bb=>by rw[hF] at bb;cases bb;exact hv) (λj _ a5 hj d3 F3 cm cw=>Fact.ext (hh j a5 hj d3 F3 cm cw) aw);rw[getD_set_ne _ (by omega:i≠al)] at h;obtain ⟨β,h5,h6⟩:=be h;refine ⟨β,h5,?_⟩;have ag:Nat.beq dA d=false:=by
      cases hb:Nat.beq dA d
      .rfl
      .exfalso;have:dA=d:=dY hb;subst this;exact hia (DN hn ax hdA)
     simp only[Of,ag,cond_false];exact h6
    rcases az (Dr a) w' hx hu hH with ⟨hg,bi⟩|⟨⟨j,b,dj,ac,am,an⟩,bg⟩
    .have hw:Region.wanted o (yielded l.toArray a.tmps)=true:=by
      cases ac:o.guard with
      | none=>simp[Region.wanted,ac]
      | some p=>
       obtain ⟨j,b⟩:=p;obtain ⟨dj,am,an⟩:=hg j b ac;obtain ⟨aa,ad⟩:=gd j b ac dj am;have h6:a.tmps[dj]?=some (Value.bool b):=by
        have h2:a.tmps.getD dj undef=.bool b:=an;have aj:dj<a.tmps.size:=by rw[ha.size];exact ad
        rw[dV aj];simpa[aj] using h2
       obtain ⟨oj,aq,aa⟩:=aa;simp[Region.wanted,ac,yielded,aq,aa,h6]
     unfold wpOp;simp only[h2,hw,if_true];exact dH (bi _ a ha O _ _ a9)
    .have hw:Region.wanted o (yielded l.toArray a.tmps)=false:=by
      obtain ⟨aa,ad⟩:=gd j b ac dj am;have aj:dj<a.tmps.size:=by rw[ha.size];exact ad
      have h6:a.tmps[dj]?=some (Dr a dj):=by
       rw[dV aj];simp[Dr,aj]
      obtain ⟨oj,aq,aa⟩:=aa;rcases an with an|an
      .rw[an] at h6;cases b<;>simp[Region.wanted,ac,yielded,aq,aa,h6]
      .rw[an] at h6;simp[Region.wanted,ac,yielded,aq,aa,h6,undef]
     unfold wpOp;simp only[h2,hw,gW,if_false];exact a9 undef w' (Ah.refl _) bg
 have h1:=cr (DP hd (Array.replicate l.toArray.size false).toList) R0 w1 (Array.replicate l.toArray.size false) a w1 ba bo (λ_=>rfl) (λh=>by rw[getD_replicate_false] at h;cases h) O qP (λt ht=>by have h9:=AX ht;rw[kU,gX,if_pos (by rw[fQ];omega)]) ha (Ah.refl _) (λt _=>by rw[he]) (λj _ hj=>by rw[getD_replicate_false] at hj;cases hj);have e3:DP hd (Array.replicate l.toArray.size false).toList+ts.length=l.toArray.size:=by have h9:=dY hN;simpa using h9
 rw[e3] at h1;exact h1
end Go.Eng
namespace Go.Proofs
open Go Go.Eng Go.Sort
set_option maxRecDepth 100000
theorem J5 {S:oD} {x:Re} {v:Value} {w:World} {n:Nat} (e:w.heap.size=n) (h:DQ S x v w):DQ (λy=>S y∧y≠n) x v w:=by
 obtain ⟨sa,sc,aa,ac,b,c⟩:=h;exact ⟨sa,sc,aa,ac,b,AR.mono (λy a=>⟨a.1,qO⟩) x (AR.lt x c)⟩
theorem J2 {S:oD} {l:List Re} {v:Value} {w:World} {n:Nat} (e:w.heap.size=n) (h:Lf S l v w):Lf (λy=>S y∧y≠n) l v w:=by
 obtain ⟨b,c,d⟩:=h;exact ⟨b,c,IK (λy a=>⟨a.1,qO⟩) (CE.lt d)⟩
theorem Sh {S:oD} {w:World} {a f ac:Nat} {x:Re} {l:List Re} (h:CE S w (.slice (oI a f) (x::l).length ac) (x::l)):CE S w (.slice (some ⟨a,f+6,none⟩) l.length (ac - 1)) l:=by
 obtain ⟨aa,ac',e,i,g⟩:=h;simp only[Value.slice.injEq,true_and] at e;obtain ⟨rfl,rfl⟩:=e;obtain ⟨b,o,j,d,c⟩:=g.resolve_left qP;simp only[fI,Addr.mk.injEq,and_true] at d;obtain ⟨rfl,rfl⟩:=d;simp only[d_] at i;simp only[BM] at c;exact ⟨_,_,O,qO,.inr ⟨_,_,j,O,c.2⟩⟩
theorem Wk {l:List Re} (h:∀y∈l,y.kind≠0∧y.kind≠1∧y.kind≠3):De l=CT 3 BT l:=by
 have f:BS 3 l=l:=by
  induction l with
  | nil=>rfl
  | cons y l ih=>
   have a:=h y qP;have b:=ih λz e=>h z (by simp[e]);unfold BS at b⊢;rw[iX,b];simp[a]
 have d:ET Cl l=l:=jF.2 λy a=>by
  have:=h y a;simp[Cl,this]
 have c:l.any CC=false:=by
  rw[kP];intro y a;have:=h y a;simp[CC,this]
 unfold De;simp only[f,d,c];simp
theorem Q3 (c:Int) {l:List Re} (h:l≠[]):A_ c (CT 3 BT l)=Ek c l:=by
 match l,h with
 | [y],_=>simp[CT,Ek]
 | y::z::l,_=>show A_ c (.mk 3 [] (y::z::l) 0 0 false)=_;simp[A_]
theorem cB (l:List Re):PreN 4 [] l 0 0 false:=⟨qO,O,λ_=>rfl,λ_=>⟨O,O⟩,qO,qO,qO,qO⟩
theorem bR {c:Int} {t x:Re} {l:List Re} (h:t.kind=3) (b:t.args=x::l) (a:l≠[]):A_ c t=if BN x=true then DS (.mk 4 [] [De [A_ c x,CT 3 BT l],A_ c (CT 3 BT l)] 0 0 false) else De [A_ c x,CT 3 BT l]:=by
 rw[cW h,b,Q3 c a]
 conv=>lhs;unfold Ek
 rw[if_neg a];rfl
theorem XK (c:Int) (n:Nat) (ih:Hm c n) (t:Re) (hn:t.size≤n) (h300:t.size≤300) (hok:Au t) (hk:t.kind=3) (w0:World) (S:Nat→Prop) (vs:n_) (ht:AR S w0 t vs) (hS:∀x,S x→x<w0.heap.size) :
    Bj prog 120 #[.agg vs.toArray,I6 c] w0 λr w=>(∃us,r=.agg us.toArray∧AR (λb=>S b∨w0.heap.size≤b) w (A_ c t) us)∧Ah w0 w:=by
  have di:=ht;obtain ⟨sa,sc,aa,ac,rfl,db,cw,a9⟩:=ht.form;have dr:CE S w0 (.slice aa t.args.length ac) t.args:=GO di;have hal:=Ch t;have az:=t.size_eq;obtain ⟨a6,b9⟩:=hok.n.k3 hk;obtain ⟨x,l,am,bt⟩:∃x l,t.args=x::l∧l≠[]:=by
    match h:t.args with
    | []=>rw[h] at a6;simp at a6
    | [y]=>rw[h] at a6;simp at a6
    | y::z::l=>exact ⟨y,z::l,rfl,qP⟩
  have bk:∀y∈l,y.kind≠0∧y.kind≠1∧y.kind≠3:=λy hy=>b9 y (by rw[am];simp[hy]);have bx:Au x:=hok.a x (by rw[am];simp);have c6:∀y∈l,Au y:=λy hy=>hok.a y (by rw[am];simp[hy]);have hx:t.args[0]?=some x:=by rw[am];rfl
  have cb:t.args.length=l.length+1:=by rw[am];rfl
  have hl1:0<l.length:=gT.2 bt;have hxz:=Re.size_arg hx;obtain ⟨ab,ao,hab,rfl,b0⟩:=a9.resolve_left (λh=>by rw[h] at hx;cases hx);obtain ⟨us,b2,b1⟩:=b0.get hx;have a7:=b1;obtain ⟨ar,ap,ax,aw,rfl,_,_,_⟩:=b1.form;have b7:CE S w0 (.slice (some ⟨ab,ao+6,none⟩) l.length (ac - 1)) l:=by
    refine Sh (x:=x) ?_;rw[←am];exact dr
  obtain ⟨R,hR⟩:∃R,R=CT 3 BT l:=⟨_,rfl⟩;have cr:De l=R:=by rw[hR];exact Wk bk
  have a1:Au R:=by rw[hR];exact SN c6 bk
  have ck:t.size=x.size+Re.sizes l+1:=by rw[az,am];simp only[Re.sizes]
  have hRz:R.size≤Re.sizes l+1:=by rw[hR];exact M9 l
  have hxp:=x.size_pos;obtain ⟨D,hD⟩:∃D,D=A_ c x:=⟨_,rfl⟩;obtain ⟨F,hF⟩:∃F,F=De [D,R]:=⟨_,rfl⟩;obtain ⟨G,hG⟩:∃G,G=A_ c R:=⟨_,rfl⟩;obtain ⟨N,hN⟩:∃N,N=DS (.mk 4 [] [F,G] 0 0 false):=⟨_,rfl⟩;have b8:Au D:=by rw[hD];exact Du c bx
  have dn:Au G:=by rw[hG];exact Du c a1
  have b4:A_ c t=if BN x=true then N else F:=by rw[hN,hG,hF,hD,hR];exact bR hk am bt
  have hDz:D.size≤200000:=by rw[hD];exact E5 bx qO
  have hGz:G.size≤200000:=by rw[hG];exact E5 a1 qO
  have cy:Au F:=by
    rw[hF];refine Ji λz hz=>?_;simp only[dZ,eY,or_false] at hz;rcases hz with rfl|rfl
    · exact b8
    · exact a1
  have hFz:F.size≤200400:=by
    have:=HN [D,R];rw[←hF] at this;simp only[Re.sizes] at this;omega
  rw[b4];clear b4 az a6 b9;refine qR jR rfl ntmps120 rfl (λE=>(AA (BC (v:=(.agg (R6 t sa sc (oI ab ao) ac))) (c:=(R6 t sa sc (oI ab ao) ac)) qD rfl rfl ?_)));intro br wr Nr;have Fr:=Nr.ge E;have E:=E.ext Nr.ext;have Br:=Nr.blk;refine BK (c:=#[(I6 0),(.slice none 0 0),(.slice none 0 0),(I6 0),(I6 0),(.bool false)]) qD A1 rfl ?_;intro bo wo No;have Fo:=No.ge E;have Oo_br:=No.lt Br;have Br:=No.keep Br;have E:=E.ext No.ext;have Bo:=No.blk;refine AB (AH (AA (qF br 0 0 rfl dI rfl Al rfl (qV (AJ (v:=(I6 t.kind)) rfl Ag (Br.cell rfl)) (AB (AW (AA (qV (Ai (k:=.i64) (a:=t.kind) (b:=2) rfl rfl) (qA (.bool (decide ((t.kind:Int)=2))) rfl (AB ?_))))))))));obtain ⟨n1,bv⟩:∃n1,n1=wo.heap.size:=⟨_,rfl⟩;have hob:br<n1∧bo<n1∧w0.heap.size≤bo∧w0.heap.size≤n1:=⟨by rw[bv];exact Br.lt,by rw[bv];exact Bo.lt,qO,by rw[bv];exact E.size⟩;have c7:n1≤wo.heap.size:=qO
  have E1:Chg Aj wo wo:=Chg.refl _ _;have c8:(decide ((t.kind:Int)=2))=false:=decide_eq_false qO;refine Ae (Ar c8) (AA (qV (Ai (k:=.i64) (a:=t.kind) (b:=3) rfl rfl) (qA (.bool (decide ((t.kind:Int)=3))) rfl (AB ?_))));have dj:(decide ((t.kind:Int)=3))=true:=decide_eq_true hk;refine Aq (Ar dj) (AA (qF br 0 2 rfl dI rfl BF rfl (qV (AJ (v:=(.slice (oI ab ao) t.args.length ac)) rfl A9 (Br.cell rfl)) ?_)));obtain ⟨b3,a5⟩:∃a':oE,(if ac=1 then (oI ab ao) else Option.map (λq:Addr=>q.add (1*6)) (oI ab ao))=a':=⟨_,rfl⟩;refine qV (E' (a:=(oI ab ao)) (len:=t.args.length) (cap:=ac) (lo:=1) (l:=1) (n':=l.length) (c':=ac - 1) dJ AG rfl rfl qO qO a5 qO qO) ?_;have a8:b3=some ⟨ab,ao+6,none⟩:=by rw[←a5,if_neg qO];rfl
  rw[←a8] at b7;refine qE rfl (AS (vs:=[(.slice b3 l.length (ac - 1))]) func149 kQ kQ rfl) ((UU _ S _ l (b7.ext E) bt qO).mono (R':=λr w=>(∃a c,r=.slice a l.length c∧CE (λb=>S b∨n1≤b) w r l)∧Ah wo w) (λr w h=>⟨by obtain ⟨⟨a,c,h1,h2⟩,_⟩:=h;exact ⟨a,c,h1,IK (λb hb=>by rcases hb with h1|h1;exact .inl h1;exact .inr qO) h2⟩,h.2⟩)) ?_;rintro _ bd ⟨⟨ca,cc,rfl,ce⟩,a3⟩;have Br:=a3.keep Br;have Bo:=a3.keep Bo;have E:=E.ext a3;have E1:=E1.ext a3;obtain ⟨h25,cm⟩:∃h,h=bd.heap.size:=⟨_,rfl⟩;refine qE rfl (AS (vs:=[(.slice ca l.length cc)]) nC kQ kQ rfl) ((MS _ _ _ l (CE.lt ce) (λy hy=>hy.2) (λy hy hk=>by have:=bk y hy;omega) qO).mono (R':=λr w=>DQ (λb=>S b∨n1≤b) R r w∧Ah bd w) (λr w h=>⟨CI (S':=λb=>((S b∨n1≤b)∧b<bd.heap.size)∨bd.heap.size≤b) (λb hb=>by rcases hb with h1|h1;exact h1.1;exact .inr (by have:=a3.size;omega)) (by rw[←cr];exact h.1),h.2⟩)) ?_;rintro _ bm ⟨⟨xa,xc,ya,yc,rfl,cg⟩,bc⟩;have Br:=bc.keep Br;have Bo:=bc.keep Bo;have E:=E.ext bc;have E1:=E1.ext bc;have aj:=AR.lt R cg;obtain ⟨bz,bw⟩:∃h,h=bm.heap.size:=⟨_,rfl⟩;rw[←bw] at aj;have E2:Chg Aj bm bm:=Chg.refl _ _;refine As (v:=(.agg (R6 R xa xc ya yc))) (c:=(R6 R xa xc ya yc)) (n:=6) qD A1 rfl AG rfl rfl rfl qS ?_;intro bq wq Nq;have Fq:=Nq.ge E;have Fq_E1:=Nq.ge E1;have Fq_E2:=Nq.ge E2;have Oq_br:=Nq.lt Br;have Oq_bo:=Nq.lt Bo;have Br:=Nq.keep Br;have Bo:=Nq.keep Bo;have aj:=AR.ext Nq.ext _ aj;have E:=E.ext Nq.ext;have Bq:=Nq.blk;have E1:=E1.ext Nq.ext;have E2:=E2.ext Nq.ext;refine AB ?_;have c2:w0.heap.size≤wq.heap.size:=E.size;have bi:br<wq.heap.size:=Br.lt;have bf:bo<wq.heap.size:=Bo.lt;have be:bq<wq.heap.size:=Bq.lt;refine AH ?_;obtain ⟨dc,ad⟩:∃Fs:(Nat→Prop)→List Fact,Fs=λRR=>[.eq (P6 br 2),.eq (.slice (oI ab ao) t.args.length ac),.eq (.pointer (some ⟨ab,ao+0*6,none⟩)),.eq (.agg (R6 x ar ap ax aw)),.eq (I6 c),.gen (DQ RR D) (BD _ _),.eq (.agg (R6 R xa xc ya yc)),.gen (Lf RR [D,R]) (DE _ _),.gen (DQ RR F) (BD _ _),.gen (OW 25 #[(I6 0),(.slice none 0 0),(.slice none 0 0),(I6 0),(I6 0),(.bool false)] wq.heap.size) (Dv _ _ _),.eq undef]:=⟨_,rfl⟩;refine Ig [true,true,true,true,true,true,true,true,true,true,false] [10] 11 10 [] [27,28,29,30,31,32,33,34,35,6,120] [[],[0],[1],[2],[],[3,4],[],[5,6],[5,7],[],[]] dc ad (λb=>S b∨n1≤b) (λy hy=>.inr (by have:=E1.size;omega)) 9 6 (lo:=wq.heap.size) (dU _) rfl rfl (PD.mk' A1 rfl) (λRR=>⟨_,by rw[ad];rfl⟩) (λn=>by rw[ad];repeat (first|exact Cvs.nil|refine Cvs.same ?_|refine Cvs.cons (λv w e h=>by first|exact J5 e h|exact J2 e h|exact IG e h) ?_)) mixed qK qK rfl qK qK qK ?_ ?_ (λh9=>absurd h9 qD)
  · intro wd X0 RR a4 av;refine DagStepsP.cons (λs' w' X U H=>dH ⟨?_,?_⟩) ?_
    · exact AE rfl
    · exact AP (AQ (b:=br) (o:=0) (o':=2) (U 2 rfl) dI rfl BF rfl) (Ah.refl _) rfl
    refine DagStepsP.cons (λs' w' X U H=>dH ⟨?_,?_⟩) ?_
    · exact AE rfl
    · have dm:s' 27=(P6 br 2):=H 0 rfl 27 (.eq (P6 br 2)) rfl (by rw[ad];rfl);exact AP (AJ (v:=(.slice (oI ab ao) t.args.length ac)) dm A9 (((X0.trans X).keep Br).cell rfl)) (Ah.refl _) rfl
    refine DagStepsP.cons (λs' w' X U H=>dH ⟨?_,?_⟩) ?_
    · exact AE rfl
    · have dk:s' 28=(.slice (oI ab ao) t.args.length ac):=H 1 rfl 28 (.eq (.slice (oI ab ao) t.args.length ac)) rfl (by rw[ad];rfl);exact AP (AL (b:=ab) (o:=ao) (len:=t.args.length) (cap:=ac) (i:=0) (o':=ao+0*6) dk rfl rfl dJ AG qO qO) (Ah.refl _) rfl
    refine DagStepsP.cons (λs' w' X U H=>dH ⟨?_,?_⟩) ?_
    · exact AE rfl
    · have cp:s' 29=(.pointer (some ⟨ab,ao+0*6,none⟩)):=H 2 rfl 29 (.eq (.pointer (some ⟨ab,ao+0*6,none⟩))) rfl (by rw[ad];rfl);exact AP (AI (vs:=(oJ x ar ap ax aw)) cp Ad AG rfl (b2.ext (Ah.trans E (X0.trans X)))) (Ah.refl _) rfl
    refine DagStepsP.cons (λs' w' X U H=>dH ⟨?_,?_⟩) ?_
    · exact AE rfl
    · exact AP (Am (v:=(I6 c)) (U 1 rfl)) (Ah.refl _) rfl
    refine DagStepsP.cons (λs' w' X U H=>dH ⟨?_,?_⟩) ?_
    · exact AE rfl
    · have c1:s' 30=(.agg (R6 x ar ap ax aw)):=H 3 rfl 30 (.eq (.agg (R6 x ar ap ax aw))) rfl (by rw[ad];rfl);have cv:s' 31=(I6 c):=H 4 rfl 31 (.eq (I6 c)) rfl (by rw[ad];rfl);exact A7 (AS (vs:=[(.agg (R6 x ar ap ax aw)),(I6 c)]) jR kQ kQ (F_ c1 cv)) ((ih x _ S _ qO bx (AR.ext (Ah.trans E (X0.trans X)) x a7) (λy hy=>by have:=hS y hy;have:=E.size;have:=X0.size;have:=X.size;omega)).mono (λr w h=>⟨CI (S':=λb=>S b∨w'.heap.size≤b) (λb hb=>by rcases hb with h1|h1;exact a4 b (by have:=hS b h1;have:=E.size;omega) (.inl h1);exact av b (by have:=X.size;omega)) (by rw[hD];exact h.1),h.2⟩))
    refine DagStepsP.cons (λs' w' X U H=>dH ⟨?_,?_⟩) ?_
    · exact AE rfl
    · exact AP (AI (vs:=(oJ R xa xc ya yc)) (U 5 rfl) Ad AG rfl (((X0.trans X).keep Bq).cells rfl)) (Ah.refl _) rfl
    refine DagStepsP.cons (λs' w' X U H=>dH ⟨?_,?_⟩) ?_
    · exact AE rfl
    · obtain ⟨cd,ct,da,c4,cz,dq⟩:=H 5 rfl 32 (.gen (DQ RR D) (BD _ _)) rfl (by rw[ad];rfl);have co:s' 33=(.agg (R6 R xa xc ya yc)):=H 6 rfl 33 (.eq (.agg (R6 R xa xc ya yc))) rfl (by rw[ad];rfl);exact Fb cz co dq (AR.mono (S:=λb=>(S b∨n1≤b)∧b<bz) (λy hy=>a4 y (by have:=hy.2;have:=E2.size;omega) hy.1) R (AR.ext (X0.trans X) R aj)) (λb hb=>av b (by have:=X.size;omega))
    refine DagStepsP.cons (λs' w' X U H=>dH ⟨?_,?_⟩) ?_
    · exact AE rfl
    · obtain ⟨c9,cn,dl⟩:=H 7 rfl 34 (.gen (Lf RR [D,R]) (DE _ _)) rfl (by rw[ad];rfl);exact A7 (AS (vs:=[(.slice (oI c9 0) 2 2)]) nC kQ kQ (Ha cn)) ((MS _ (λb=>RR b∧b<w'.heap.size) _ [D,R] (CE.lt dl) (λy hy=>hy.2) (λy hm hk=>by rcases dZ.1 hm with rfl|hm;exact (Cm b8).1 (.inl hk);simp at hm;subst hm;exact (Cm a1).1 (.inl hk)) (by simp only[Re.sizes];omega)).mono (λr w h=>⟨CI (S':=λb=>(RR b∧b<w'.heap.size)∨w'.heap.size≤b) (λb hb=>by rcases hb with h1|h1;exact h1.1;exact av b (by have:=X.size;omega)) (by rw[hF];exact h.1),h.2⟩))
    refine DagStepsP.cons (λs' w' X U H=>dH ⟨?_,?_⟩) ?_
    · exact AE rfl
    · exact FM (c:=#[(I6 0),(.slice none 0 0),(.slice none 0 0),(I6 0),(I6 0),(.bool false)]) A1 rfl (by have:=X0.size;have:=X.size;omega)
    refine DagStepsP.tail ?_;exact DagStepsP.nil
  · intro s' w3 RR β X3 U a2 hβ H;obtain ⟨ah,ae,af,ag,de,al⟩:=H 8 rfl 35 (.gen (DQ RR F) (BD _ _)) rfl (by rw[ad];rfl);obtain ⟨b6,e6,B6,g6⟩:=H 9 rfl 6 (.gen (OW 25 #[(I6 0),(.slice none 0 0),(.slice none 0 0),(I6 0),(I6 0),(.bool false)] wq.heap.size) (Dv _ _ _)) rfl (by rw[ad];rfl);have b5:β=b6:=by have h9:=e6.symm.trans hβ;simpa using h9.symm
    rw[b5] at a2;clear hβ b5 β;obtain ⟨j3,rfl⟩:=Ak.out (σ:=s') (l:=[(1,(I6 c)),(2,(P6 br 0)),(4,(P6 bo 0)),(5,(P6 bq 0)),(35,(.agg (R6 F ah ae af ag))),(6,(P6 b6 0))]) ⟨U 1 rfl,U 2 rfl,U 4 rfl,U 5 rfl,de,e6,trivial⟩;clear U H;have Br:=X3.keep Br;have Bo:=X3.keep Bo;have Bq:=X3.keep Bq;have aj:=AR.ext X3 _ aj;have E:=E.ext X3;have E1:=E1.ext X3;have E2:=E2.ext X3;refine Aa (b:=b6) (o:=0) (c':=(R6 F ah ae af ag)) rfl rfl qS AG rfl B6 qL rfl ?_;intro w4 S4;have aj:=AR.chg S4.chg (λy hy h=>by have h2:y=b6:=h;have:=hy.2;omega) _ aj;have al:=AR.chg S4.chg (λy hy h=>by have h2:y=b6:=h;have:=(a2 y hy).2;omega) _ al;have Br:=S4.keep qO Br;have Bo:=S4.keep qO Bo;have Bq:=S4.keep qO Bq;have E:=S4.step E (by first|exact dH qO|assumption|exact dG rfl|exact dG (by assumption)|exact dG qP|exact dG qO|exact dG (by dsimp only;omega));have E1:=S4.step E1 (dH qO);have E2:=S4.step E2 (dH qO);have B6:=S4.blk;refine AB (AC (AH (AA (qF br 0 2 rfl dI rfl BF rfl (qV (AJ (v:=(.slice (oI ab ao) t.args.length ac)) rfl A9 (Br.cell rfl)) (qV (AL (b:=ab) (o:=ao) (len:=t.args.length) (cap:=ac) (i:=0) (o':=ao+0*6) rfl rfl rfl dJ AG qO qO) (qV (AI (vs:=(oJ x ar ap ax aw)) rfl Ad AG rfl (b2.ext E)) (qE rfl (AS (vs:=[(.agg (R6 x ar ap ax aw))]) func93 kQ kQ rfl) (WL 300 x _ _ qO qO (AR.at x (AR.ext E x a7))) ?_))))))));rintro _ a0 ⟨rfl,ak⟩;have Br:=ak.keep Br;have Bo:=ak.keep Bo;have Bq:=ak.keep Bq;have B6:=ak.keep B6;have aj:=AR.ext ak _ aj;have al:=AR.ext ak _ al;have E:=E.ext ak;have E1:=E1.ext ak;have E2:=E2.ext ak;refine qV (C1 (b:=BN x) rfl) (AB (A4 (b:=!(BN x)) rfl (λhe=>?_) (λhe=>?_)))
    · have df:=he;have he:=by simpa using he
      refine AA (qV (AI (vs:=(oJ F ah ae af ag)) rfl Ad AG rfl (B6.cells rfl)) (Aa (b:=bo) (o:=0) (c':=(R6 F ah ae af ag)) rfl rfl qS AG rfl Bo qL rfl ?_));intro w6 S6;have al:=AR.chg S6.chg (λy hy h=>by have h2:y=bo:=h;rcases (a2 y hy).1 with h1|h1;have:=hS y h1;omega;omega) _ al;have Br:=S6.keep qO Br;have Bq:=S6.keep qO Bq;have B6:=S6.keep qO B6;have E:=S6.step E (by first|exact dH qO|assumption|exact dG rfl|exact dG (by assumption)|exact dG qP|exact dG qO|exact dG (by dsimp only;omega));have Bo:=S6.blk;refine AB (AO (AK (Ac (AK (A2 jV (vs:=(oJ F ah ae af ag)) (b:=bo) rfl Ad AG rfl (Bo.cells rfl) ?_)))));exact ⟨⟨_,rfl,by rw[if_neg (by simpa using he)];exact AR.mono (λy hy=>by rcases (a2 y hy).1 with h1|h1;exact .inl h1;exact .inr qO) _ al⟩,E⟩
    · have df:=he;have he:=by simpa using he
      refine AM (AC ?_);have cl:w0.heap.size≤a0.heap.size:=E.size;have bb:br<a0.heap.size:=Br.lt;have ba:bo<a0.heap.size:=Bo.lt;have bh:bq<a0.heap.size:=Bq.lt;have bg:b6<a0.heap.size:=B6.lt;refine AH ?_;obtain ⟨dd,ai⟩:∃Fs:List Fact,Fs=[.eq (.agg (R6 F ah ae af ag)),.eq (.agg (R6 R xa xc ya yc)),.eq (I6 c),.gen (DQ (λb=>S b∨n1≤b) G) (BD _ _),.gen (Lf (λb=>S b∨n1≤b) [F,G]) (DE _ _),.gen (DQ (λb=>S b∨n1≤b) (.mk 4 [] [F,G] 0 0 false)) (BD _ _),.gen (DQ (λb=>S b∨n1≤b) N) (BD _ _),.eq undef]:=⟨_,rfl⟩;refine FQ [true,true,true,true,true,true,true,false] [7] [43,44,45,46,47,48,49,117] [[],[],[],[1,2],[0,3],[4],[3,5],[]] dd ai mixed qK qK qK qK ?_ ?_
      · intro wd X0;refine DagStepsP.cons (λs' w' X U H=>dH ⟨?_,?_⟩) ?_
        · exact AE rfl
        · exact AP (AI (vs:=(oJ F ah ae af ag)) (U 6 rfl) Ad AG rfl (((X0.trans X).keep B6).cells rfl)) (Ah.refl _) rfl
        refine DagStepsP.cons (λs' w' X U H=>dH ⟨?_,?_⟩) ?_
        · exact AE rfl
        · exact AP (AI (vs:=(oJ R xa xc ya yc)) (U 5 rfl) Ad AG rfl (((X0.trans X).keep Bq).cells rfl)) (Ah.refl _) rfl
        refine DagStepsP.cons (λs' w' X U H=>dH ⟨?_,?_⟩) ?_
        · exact AE rfl
        · exact AP (Am (v:=(I6 c)) (U 1 rfl)) (Ah.refl _) rfl
        refine DagStepsP.cons (λs' w' X U H=>dH ⟨?_,?_⟩) ?_
        · exact AE rfl
        · have ch:s' 44=(.agg (R6 R xa xc ya yc)):=H 1 rfl 44 (.eq (.agg (R6 R xa xc ya yc))) rfl (by rw[ai];rfl);have c0:s' 45=(I6 c):=H 2 rfl 45 (.eq (I6 c)) rfl (by rw[ai];rfl);exact A7 (AS (vs:=[(.agg (R6 R xa xc ya yc)),(I6 c)]) jR kQ kQ (F_ ch c0)) ((ih R _ (λb=>(S b∨n1≤b)∧b<bz) _ qO a1 (AR.ext (X0.trans X) R aj) (λy hy=>by have:=hy.2;have:=X0.size;have:=X.size;omega)).mono (λr w h=>⟨CI (S':=λb=>((S b∨n1≤b)∧b<bz)∨w'.heap.size≤b) (λb hb=>by rcases hb with h1|h1;exact h1.1;exact .inr (by have:=X0.size;have:=X.size;omega)) (by rw[hG];exact h.1),h.2⟩))
        refine DagStepsP.cons (λs' w' X U H=>dH ⟨?_,?_⟩) ?_
        · exact AE rfl
        · have dp:s' 43=(.agg (R6 F ah ae af ag)):=H 0 rfl 43 (.eq (.agg (R6 F ah ae af ag))) rfl (by rw[ai];rfl);obtain ⟨cf,cx,cu,c3,cq,cs⟩:=H 3 rfl 46 (.gen (DQ (λb=>S b∨n1≤b) G) (BD _ _)) rfl (by rw[ai];rfl);exact Fb dp cq (AR.mono (λy hy=>(a2 y hy).1) F (AR.ext (X0.trans X) F al)) cs (λb hb=>.inr (by have:=X0.size;have:=X.size;omega))
        refine DagStepsP.cons (λs' w' X U H=>dH ⟨?_,?_⟩) ?_
        · exact AE rfl
        · obtain ⟨b47,c5,cj⟩:=H 4 rfl 47 (.gen (Lf (λb=>S b∨n1≤b) [F,G]) (DE _ _)) rfl (by rw[ai];rfl);exact SK c5 cj rfl
        refine DagStepsP.cons (λs' w' X U H=>dH ⟨?_,?_⟩) ?_
        · exact AE rfl
        · obtain ⟨bj,bs,bn,bu,ci,dh⟩:=H 5 rfl 48 (.gen (DQ (λb=>S b∨n1≤b) (.mk 4 [] [F,G] 0 0 false)) (BD _ _)) rfl (by rw[ai];rfl);exact A7 (AS (vs:=[(.agg #[(I6 4),(.slice bj 0 bs),(.slice bn 2 bu),(I6 0),(I6 0),(.bool false)])]) func113 kQ kQ (Ha ci)) ((LF _ (λb=>(S b∨n1≤b)∧b<w'.heap.size) (.mk 4 [] [F,G] 0 0 false) _ (AR.lt _ dh) (λy hy=>hy.2) (cB _) (λy hy=>by simp only[Re.args,dZ,eY,or_false] at hy;rcases hy with rfl|rfl;exact cy;exact dn) (by simp only[Re.args,Re.sizes];omega)).mono (λr w h=>⟨CI (S':=λb=>((S b∨n1≤b)∧b<w'.heap.size)∨w'.heap.size≤b) (λb hb=>by rcases hb with h1|h1;exact h1.1;exact .inr (by have:=X0.size;have:=X.size;omega)) (by rw[hN];exact h.1),h.2⟩))
        refine DagStepsP.tail ?_;exact DagStepsP.nil
      · intro s' w7 X7 U H;obtain ⟨ay,an,aq,au,dg,bp⟩:=H 6 rfl 49 (.gen (DQ (λb=>S b∨n1≤b) N) (BD _ _)) rfl (by rw[ai];rfl);obtain ⟨j7,rfl⟩:=Ak.out (σ:=s') (l:=[(4,(P6 bo 0)),(49,(.agg (R6 N ay an aq au)))]) ⟨U 4 rfl,dg,trivial⟩;clear U H;have Br:=X7.keep Br;have Bo:=X7.keep Bo;have Bq:=X7.keep Bq;have B6:=X7.keep B6;have E:=E.ext X7;refine Aa (b:=bo) (o:=0) (c':=(R6 N ay an aq au)) rfl rfl qS AG rfl Bo qL rfl ?_;intro w8 S8;have bp:=AR.chg S8.chg (λy hy h=>by have h2:y=bo:=h;rcases hy with h1|h1;have:=hS y h1;omega;omega) _ bp;have Br:=S8.keep qO Br;have Bq:=S8.keep qO Bq;have B6:=S8.keep qO B6;have E:=S8.step E (by first|exact dH qO|assumption|exact dG rfl|exact dG (by assumption)|exact dG qP|exact dG qO|exact dG (by dsimp only;omega));have Bo:=S8.blk;refine AB (AC (AO (Ac (AK (A2 jV (vs:=(oJ N ay an aq au)) (b:=bo) rfl Ad AG rfl (Bo.cells rfl) ?_)))));exact ⟨⟨_,rfl,by rw[if_pos (by simpa using he)];exact AR.mono (λy hy=>by rcases hy with h1|h1;exact .inl h1;exact .inr qO) _ bp⟩,E⟩
theorem b_ {m x:Int} (y:Re) (h:0<=m∧m<=x∧x<=8):PreN 6 [] [y] m x false:=⟨qO,O,λ_=>rfl,qO,qO,qO,λ_=>rfl,λ_=>h⟩
theorem XH (c:Int) (n:Nat) (ih:Hm c n) (t:Re) (hn:t.size≤n) (h300:t.size≤300) (hok:Au t) (hk:t.kind=6) (w0:World) (S:Nat→Prop) (vs:n_) (ht:AR S w0 t vs) (hS:∀x,S x→x<w0.heap.size) :
  Bj prog 120 #[.agg vs.toArray,I6 c] w0 λr w=>(∃us,r=.agg us.toArray∧AR (λb=>S b∨w0.heap.size≤b) w (A_ c t) us)∧Ah w0 w:=by
 have c5:=ht;obtain ⟨sa,sc,aa,ac,rfl,cx,ck,a4⟩:=ht.form;have hRs:CE S w0 (.slice aa t.args.length ac) t.args:=GO c5;have hal:=Ch t;have ba:=t.size_eq;obtain ⟨x,a8,c0,ce,hm1,hm2,hm3,hm4,hm5⟩:=hok.n.k6 hk;have a2:Au x:=hok.a x (by rw[a8];simp);have hx:t.args[0]?=some x:=by rw[a8];rfl
 have cb:t.args.length=1:=by rw[a8];rfl
 have hxz:=Re.size_arg hx;obtain ⟨ab,ao,hab,rfl,bt⟩:=a4.resolve_left (λh=>by rw[h] at hx;cases hx);obtain ⟨us,bv,bu⟩:=bt.get hx;have a3:=bu;obtain ⟨ar,aq,aw,av,rfl,_,_,_⟩:=bu.form;obtain ⟨m1,b0⟩:∃m1,m1=max 0 (t.mn - 1):=⟨_,rfl⟩;obtain ⟨x1,b2⟩:∃x1,x1=t.mx - 1:=⟨_,rfl⟩;obtain ⟨R,hR⟩:∃R,R=DS (.mk 6 [] [x] m1 x1 false):=⟨_,rfl⟩;have b7:PreN 6 [] [x] m1 x1 false:=b_ x qO;have ci:Au R:=by rw[hR];exact IQ b7 (by intro z hz;simp at hz;subst hz;exact a2)
 have hRz:R.size≤400:=by
  have h4:=GI (k:=6) (s:=[]) (a:=[x]) (m:=m1) (x:=x1) (g:=false) qO qO;rw[hR,FV];simp only[Re.sizes] at h4;simp only[Re.kind,Re.set,Re.args,Re.mn,Re.mx,Re.neg];omega
 obtain ⟨D,hD⟩:∃D,D=A_ c x:=⟨_,rfl⟩;obtain ⟨F,hF⟩:∃F,F=De [D,R]:=⟨_,rfl⟩;have cw:Au D:=by rw[hD];exact Du c a2
 have hDz:D.size≤200000:=by rw[hD];exact E5 a2 qO
 have bz:A_ c t=F:=by rw[hF,hD,hR,b0,b2];exact cU hk a8
 rw[bz];clear bz ba;refine qR jR rfl ntmps120 rfl (λE=>(AA (BC (v:=(.agg (R6 t sa sc (oI ab ao) ac))) (c:=(R6 t sa sc (oI ab ao) ac)) qD rfl rfl ?_)));intro br wr Nr;have Fr:=Nr.ge E;have E:=E.ext Nr.ext;have Br:=Nr.blk;refine BK (c:=#[(I6 0),(.slice none 0 0),(.slice none 0 0),(I6 0),(I6 0),(.bool false)]) qD A1 rfl ?_;intro bo wo No;have Fo:=No.ge E;have Oo_br:=No.lt Br;have Br:=No.keep Br;have E:=E.ext No.ext;have Bo:=No.blk;refine AB (AH (AA (qF br 0 0 rfl dI rfl Al rfl (qV (AJ rfl Ag (Br.cell rfl)) (AB (AW (AA (qV (Ai rfl rfl) (qA _ rfl (AB ?_))))))))));obtain ⟨n1,bh⟩:∃n1,n1=wo.heap.size:=⟨_,rfl⟩;have hob:br<n1∧bo<n1∧w0.heap.size≤bo∧w0.heap.size≤n1:=⟨by rw[bh];exact Br.lt,by rw[bh];exact Bo.lt,qO,by rw[bh];exact E.size⟩;have ct:n1≤wo.heap.size:=qO
 have cv:(decide ((t.kind:Int)=2))=false:=decide_eq_false qO;refine Ae (Ar cv) (AA (qV (Ai rfl rfl) (qA _ rfl (AB ?_))));have c6:(decide ((t.kind:Int)=3))=false:=decide_eq_false qO;refine Ae (Ar c6) (AH (AA (qV (Ai rfl rfl) (qA _ rfl (AB ?_)))));have ca:(decide ((t.kind:Int)=4))=false:=decide_eq_false qO;refine Ae (Ar ca) (AA (qV (Ai rfl rfl) (qA _ rfl (AB ?_))));have cu:(decide ((t.kind:Int)=7))=false:=decide_eq_false qO;refine Ae (Ar cu) (AN (qV (Ai rfl rfl) (qA _ rfl (AB (AC ?_)))));have co:(decide ((t.kind:Int)=8))=false:=decide_eq_false qO;refine Ae (Ar co) (AA (qV (Ai rfl rfl) (qA _ rfl (AB ?_))));have ch:(decide ((t.kind:Int)=5))=false:=decide_eq_false qO;refine Ae (Ar ch) (AA (qV (Ai rfl rfl) (qA _ rfl (AB ?_))));have c1:(decide ((t.kind:Int)=6))=true:=decide_eq_true hk;refine Aq (Ar c1) ?_;have b8:w0.heap.size≤wo.heap.size:=E.size;have a6:br<wo.heap.size:=Br.lt;have a5:bo<wo.heap.size:=Bo.lt;refine AH ?_;obtain ⟨cr,ad⟩:∃Fs:(Nat→Prop)→List Fact,Fs=λRR=>[.eq (P6 br 2),.eq (.slice (oI ab ao) t.args.length ac),.eq (.pointer (some ⟨ab,ao+0*6,none⟩)),.eq (.agg (R6 x ar aq aw av)),.gen (Lf RR [x]) (DE _ _),.eq (P6 br 3),.eq (I6 t.mn),.eq (I6 (t.mn - 1)),.eq (I6 m1),.eq (P6 br 4),.eq (I6 t.mx),.eq (I6 (t.mx - 1)),.gen (DQ RR (.mk 6 [] [x] m1 x1 false)) (BD _ _),.gen (DQ RR R) (BD _ _),.gen (OW 25 #[(I6 0),(.slice none 0 0),(.slice none 0 0),(I6 0),(I6 0),(.bool false)] wo.heap.size) (Dv _ _ _),.eq undef]:=⟨_,rfl⟩;refine Ig [true,true,true,true,true,true,true,true,true,true,true,true,true,true,true,false] [15] 16 15 [] [86,87,88,89,90,91,92,93,94,95,96,97,98,99,10,125] [[],[0],[1],[2],[3],[],[5],[6],[7],[],[9],[10],[4,8,11],[12],[],[]] cr ad (λb=>S b∨n1≤b) (λy hy=>.inr qO) 14 10 (lo:=wo.heap.size) (dU _) rfl rfl (PD.mk' A1 rfl) (λRR=>⟨_,by rw[ad];rfl⟩) (λn=>by rw[ad];repeat (first|exact Cvs.nil|refine Cvs.same ?_|refine Cvs.cons (λv w e h=>by first|exact J5 e h|exact J2 e h|exact IG e h) ?_)) mixed qK qK rfl qK qK qK ?_ ?_ (λh9=>absurd h9 qD)
 ·intro wd X0 RR bf az;refine DagStepsP.cons (λs' w' X U H=>dH ⟨?_,?_⟩) ?_
  ·exact AE rfl
  ·exact AP (AQ (U 2 rfl) dI rfl BF rfl) (Ah.refl _) rfl
  refine DagStepsP.cons (λs' w' X U H=>dH ⟨?_,?_⟩) ?_
  ·exact AE rfl
  ·have c7:s' 86=(P6 br 2):=H 0 rfl 86 (.eq (P6 br 2)) rfl (by rw[ad];rfl);exact AP (AJ c7 A9 (((X0.trans X).keep Br).cell rfl)) (Ah.refl _) rfl
  refine DagStepsP.cons (λs' w' X U H=>dH ⟨?_,?_⟩) ?_
  ·exact AE rfl
  ·have da:s' 87=(.slice (oI ab ao) t.args.length ac):=H 1 rfl 87 (.eq (.slice (oI ab ao) t.args.length ac)) rfl (by rw[ad];rfl);exact AP (AL (i:=0) da rfl rfl dJ AG qO qO) (Ah.refl _) rfl
  refine DagStepsP.cons (λs' w' X U H=>dH ⟨?_,?_⟩) ?_
  ·exact AE rfl
  ·have cf:s' 88=(.pointer (some ⟨ab,ao+0*6,none⟩)):=H 2 rfl 88 (.eq (.pointer (some ⟨ab,ao+0*6,none⟩))) rfl (by rw[ad];rfl);exact AP (AI cf Ad AG rfl (bv.ext (Ah.trans E (X0.trans X)))) (Ah.refl _) rfl
  refine DagStepsP.cons (λs' w' X U H=>dH ⟨?_,?_⟩) ?_
  ·exact AE rfl
  ·have c8:s' 89=(.agg (R6 x ar aq aw av)):=H 3 rfl 89 (.eq (.agg (R6 x ar aq aw av))) rfl (by rw[ad];rfl);exact Uf c8 (AR.mono (λy hy=>bf y (by have:=hS y hy;have:=E.size;omega) (.inl hy)) x (AR.ext (Ah.trans E (X0.trans X)) x a3)) (λb hb=>az b (by have:=X.size;omega))
  refine DagStepsP.cons (λs' w' X U H=>dH ⟨?_,?_⟩) ?_
  ·exact AE rfl
  ·exact AP (AQ (U 2 rfl) dI rfl Al rfl) (Ah.refl _) rfl
  refine DagStepsP.cons (λs' w' X U H=>dH ⟨?_,?_⟩) ?_
  ·exact AE rfl
  ·have cc:s' 91=(P6 br 3):=H 5 rfl 91 (.eq (P6 br 3)) rfl (by rw[ad];rfl);exact AP (AJ cc Ag (((X0.trans X).keep Br).cell rfl)) (Ah.refl _) rfl
  refine DagStepsP.cons (λs' w' X U H=>dH ⟨?_,?_⟩) ?_
  ·exact AE rfl
  ·have cn:s' 92=(I6 t.mn):=H 6 rfl 92 (.eq (I6 t.mn)) rfl (by rw[ad];rfl);exact AP (DZ cn rfl (A8 qO)) (Ah.refl _) rfl
  refine DagStepsP.cons (λs' w' X U H=>dH ⟨?_,?_⟩) ?_
  ·exact AE rfl
  ·have cg:s' 93=(I6 (t.mn - 1)):=H 7 rfl 93 (.eq (I6 (t.mn - 1))) rfl (by rw[ad];rfl);exact AP (RH (c:=m1) rfl cg b0.symm) (Ah.refl _) rfl
  refine DagStepsP.cons (λs' w' X U H=>dH ⟨?_,?_⟩) ?_
  ·exact AE rfl
  ·exact AP (AQ (U 2 rfl) dI rfl Al rfl) (Ah.refl _) rfl
  refine DagStepsP.cons (λs' w' X U H=>dH ⟨?_,?_⟩) ?_
  ·exact AE rfl
  ·have c9:s' 95=(P6 br 4):=H 9 rfl 95 (.eq (P6 br 4)) rfl (by rw[ad];rfl);exact AP (AJ c9 Ag (((X0.trans X).keep Br).cell rfl)) (Ah.refl _) rfl
  refine DagStepsP.cons (λs' w' X U H=>dH ⟨?_,?_⟩) ?_
  ·exact AE rfl
  ·have b9:s' 96=(I6 t.mx):=H 10 rfl 96 (.eq (I6 t.mx)) rfl (by rw[ad];rfl);exact AP (DZ b9 rfl (A8 qO)) (Ah.refl _) rfl
  refine DagStepsP.cons (λs' w' X U H=>dH ⟨?_,?_⟩) ?_
  ·exact AE rfl
  ·obtain ⟨b90,cd,cz⟩:=H 4 rfl 90 (.gen (Lf RR [x]) (DE _ _)) rfl (by rw[ad];rfl);have cs:s' 94=(I6 m1):=H 8 rfl 94 (.eq (I6 m1)) rfl (by rw[ad];rfl);have cy:s' 97=(I6 (t.mx - 1)):=H 11 rfl 97 (.eq (I6 (t.mx - 1))) rfl (by rw[ad];rfl);exact SJ cd cs (cy.trans (by rw[b2])) cz rfl
  refine DagStepsP.cons (λs' w' X U H=>dH ⟨?_,?_⟩) ?_
  ·exact AE rfl
  ·obtain ⟨cl,cp,c2,cq,cm,c4⟩:=H 12 rfl 98 (.gen (DQ RR (.mk 6 [] [x] m1 x1 false)) (BD _ _)) rfl (by rw[ad];rfl);exact A7 (AS func113 kQ kQ (Ha cm)) ((LF _ (λb=>RR b∧b<w'.heap.size) (.mk 6 [] [x] m1 x1 false) _ (AR.lt _ c4) (λy hy=>hy.2) b7 (λy hy=>by simp only[Re.args,dZ,eY,or_false] at hy;subst hy;exact a2) (by simp only[Re.args,Re.sizes];omega)).mono (λr w h=>⟨CI (S':=λb=>(RR b∧b<w'.heap.size)∨w'.heap.size≤b) (λb hb=>by rcases hb with h1|h1;exact h1.1;exact az b (by have:=X.size;omega)) (by rw[hR];exact h.1),h.2⟩))
  refine DagStepsP.cons (λs' w' X U H=>dH ⟨?_,?_⟩) ?_
  ·exact AE rfl
  ·exact FM (c:=#[(I6 0),(.slice none 0 0),(.slice none 0 0),(I6 0),(I6 0),(.bool false)]) A1 rfl (by have:=X0.size;have:=X.size;omega)
  refine DagStepsP.tail ?_;exact DagStepsP.nil
 ·intro s' w8 RR β X8 U bd hβ H;obtain ⟨aj,am,al,ak,c3,be⟩:=H 13 rfl 99 (.gen (DQ RR R) (BD _ _)) rfl (by rw[ad];rfl);obtain ⟨a1,b6,an,g10⟩:=H 14 rfl 10 (.gen (OW 25 #[(I6 0),(.slice none 0 0),(.slice none 0 0),(I6 0),(I6 0),(.bool false)] wo.heap.size) (Dv _ _ _)) rfl (by rw[ad];rfl);have b1:β=a1:=by have h9:=b6.symm.trans hβ;simpa using h9.symm
  rw[b1] at bd;clear hβ b1 β;obtain ⟨j8,rfl⟩:=Ak.out (σ:=s') (l:=[(1,(I6 c)),(2,(P6 br 0)),(4,(P6 bo 0)),(99,(.agg (R6 R aj am al ak))),(10,(P6 a1 0))]) ⟨U 1 rfl,U 2 rfl,U 4 rfl,c3,b6,trivial⟩;clear U H;have Br:=X8.keep Br;have Bo:=X8.keep Bo;have E:=E.ext X8;refine Aa (b:=a1) (o:=0) (c':=(R6 R aj am al ak)) rfl rfl qS AG rfl an qL rfl ?_;intro w9 S9;have be:=AR.chg S9.chg (λy hy h=>by have h2:y=a1:=h;have:=(bd y hy).2;omega) _ be;have Br:=S9.keep qO Br;have Bo:=S9.keep qO Bo;have E:=S9.step E (by first|exact dH qO|assumption|exact dG rfl|exact dG (by assumption)|exact dG qP|exact dG qO|exact dG (by dsimp only;omega));have an:=S9.blk;refine AB (AC ?_);have bx:w0.heap.size≤w9.heap.size:=E.size;have ax:br<w9.heap.size:=Br.lt;have ay:bo<w9.heap.size:=Bo.lt;have au:a1<w9.heap.size:=an.lt;refine AH ?_;obtain ⟨bc,ae⟩:∃Fs:List Fact,Fs=[.eq (P6 br 2),.eq (.slice (oI ab ao) t.args.length ac),.eq (.pointer (some ⟨ab,ao+0*6,none⟩)),.eq (.agg (R6 x ar aq aw av)),.eq (I6 c),.gen (DQ (λb=>S b∨n1≤b) D) (BD _ _),.eq (.agg (R6 R aj am al ak)),.gen (Lf (λb=>S b∨n1≤b) [D,R]) (DE _ _),.gen (DQ (λb=>S b∨n1≤b) F) (BD _ _),.eq undef]:=⟨_,rfl⟩;refine FQ [true,true,true,true,true,true,true,true,true,false] [9] [100,101,102,103,104,105,106,107,108,119] [[],[0],[1],[2],[],[3,4],[],[5,6],[5,7],[]] bc ae mixed qK qK qK qK ?_ ?_
  ·intro wd X0;refine DagStepsP.cons (λs' w' X U H=>dH ⟨?_,?_⟩) ?_
   ·exact AE rfl
   ·exact AP (AQ (U 2 rfl) dI rfl BF rfl) (Ah.refl _) rfl
   refine DagStepsP.cons (λs' w' X U H=>dH ⟨?_,?_⟩) ?_
   ·exact AE rfl
   ·have bj:s' 100=(P6 br 2):=H 0 rfl 100 (.eq (P6 br 2)) rfl (by rw[ae];rfl);exact AP (AJ bj A9 (((X0.trans X).keep Br).cell rfl)) (Ah.refl _) rfl
   refine DagStepsP.cons (λs' w' X U H=>dH ⟨?_,?_⟩) ?_
   ·exact AE rfl
   ·have bp:s' 101=(.slice (oI ab ao) t.args.length ac):=H 1 rfl 101 (.eq (.slice (oI ab ao) t.args.length ac)) rfl (by rw[ae];rfl);exact AP (AL (i:=0) bp rfl rfl dJ AG qO qO) (Ah.refl _) rfl
   refine DagStepsP.cons (λs' w' X U H=>dH ⟨?_,?_⟩) ?_
   ·exact AE rfl
   ·have bi:s' 102=(.pointer (some ⟨ab,ao+0*6,none⟩)):=H 2 rfl 102 (.eq (.pointer (some ⟨ab,ao+0*6,none⟩))) rfl (by rw[ae];rfl);exact AP (AI bi Ad AG rfl (bv.ext (Ah.trans E (X0.trans X)))) (Ah.refl _) rfl
   refine DagStepsP.cons (λs' w' X U H=>dH ⟨?_,?_⟩) ?_
   ·exact AE rfl
   ·exact AP (Am (U 1 rfl)) (Ah.refl _) rfl
   refine DagStepsP.cons (λs' w' X U H=>dH ⟨?_,?_⟩) ?_
   ·exact AE rfl
   ·have bq:s' 103=(.agg (R6 x ar aq aw av)):=H 3 rfl 103 (.eq (.agg (R6 x ar aq aw av))) rfl (by rw[ae];rfl);have bs:s' 104=(I6 c):=H 4 rfl 104 (.eq (I6 c)) rfl (by rw[ae];rfl);exact A7 (AS jR kQ kQ (F_ bq bs)) ((ih x _ S _ qO a2 (AR.ext (Ah.trans E (X0.trans X)) x a3) (λy hy=>by have:=hS y hy;have:=E.size;have:=X0.size;have:=X.size;omega)).mono (λr w h=>⟨CI (S':=λb=>S b∨w'.heap.size≤b) (λb hb=>by rcases hb with h1|h1;exact .inl h1;exact .inr (by have:=E.size;have:=X0.size;have:=X.size;omega)) (by rw[hD];exact h.1),h.2⟩))
   refine DagStepsP.cons (λs' w' X U H=>dH ⟨?_,?_⟩) ?_
   ·exact AE rfl
   ·exact AP (AI (U 10 rfl) Ad AG rfl (((X0.trans X).keep an).cells rfl)) (Ah.refl _) rfl
   refine DagStepsP.cons (λs' w' X U H=>dH ⟨?_,?_⟩) ?_
   ·exact AE rfl
   ·obtain ⟨bw,b5,b3,b4,bm,bn⟩:=H 5 rfl 105 (.gen (DQ (λb=>S b∨n1≤b) D) (BD _ _)) rfl (by rw[ae];rfl);have bb:s' 106=(.agg (R6 R aj am al ak)):=H 6 rfl 106 (.eq (.agg (R6 R aj am al ak))) rfl (by rw[ae];rfl);exact Fb bm bb bn (AR.mono (λy hy=>(bd y hy).1) R (AR.ext (X0.trans X) R be)) (λb hb=>.inr (by have:=E.size;have:=X0.size;have:=X.size;omega))
   refine DagStepsP.cons (λs' w' X U H=>dH ⟨?_,?_⟩) ?_
   ·exact AE rfl
   ·obtain ⟨cj,bg,a9⟩:=H 7 rfl 107 (.gen (Lf (λb=>S b∨n1≤b) [D,R]) (DE _ _)) rfl (by rw[ae];rfl);exact A7 (AS nC kQ kQ (Ha bg)) ((MS _ (λb=>(S b∨n1≤b)∧b<w'.heap.size) _ [D,R] (CE.lt a9) (λy hy=>hy.2) (λy hm hk=>by rcases dZ.1 hm with rfl|hm;exact (Cm cw).1 (.inl hk);simp at hm;subst hm;exact (Cm ci).1 (.inl hk)) (by simp only[Re.sizes];omega)).mono (λr w h=>⟨CI (S':=λb=>((S b∨n1≤b)∧b<w'.heap.size)∨w'.heap.size≤b) (λb hb=>by rcases hb with h1|h1;exact h1.1;exact .inr (by have:=E.size;have:=X0.size;have:=X.size;omega)) (by rw[hF];exact h.1),h.2⟩))
   refine DagStepsP.tail ?_;exact DagStepsP.nil
  ·intro s' w10 a7 U H;obtain ⟨ag,af,ai,ah,bk,ap⟩:=H 8 rfl 108 (.gen (DQ (λb=>S b∨n1≤b) F) (BD _ _)) rfl (by rw[ae];rfl);obtain ⟨j10,rfl⟩:=Ak.out (σ:=s') (l:=[(4,(P6 bo 0)),(108,(.agg (R6 F ag af ai ah)))]) ⟨U 4 rfl,bk,trivial⟩;clear U H;have Br:=a7.keep Br;have Bo:=a7.keep Bo;have an:=a7.keep an;have E:=E.ext a7;refine Aa (b:=bo) (o:=0) (c':=(R6 F ag af ai ah)) rfl rfl qS AG rfl Bo qL rfl ?_;intro w11 a0;have ap:=AR.chg a0.chg (λy hy h=>by have h2:y=bo:=h;rcases hy with h1|h1;have:=hS y h1;omega;omega) _ ap;have Br:=a0.keep qO Br;have an:=a0.keep qO an;have E:=a0.step E (by first|exact dH qO|assumption|exact dG rfl|exact dG (by assumption)|exact dG qP|exact dG qO|exact dG (by dsimp only;omega));have Bo:=a0.blk;refine AB (AC (AO (Ac (AK (A2 jV (vs:=(oJ F ag af ai ah)) (b:=bo) rfl Ad AG rfl (Bo.cells rfl) ?_)))));exact ⟨⟨_,rfl,AR.mono (λy hy=>by rcases hy with h1|h1;exact .inl h1;exact .inr qO) _ ap⟩,E⟩
theorem ZU {k:Int} {l m:List Re} (hk:k=4∨k=7∨k=8) (b:k=8->l.length=1) (a:m.length=l.length):PreN k [] m 0 0 false:=⟨qO,O,λ_=>rfl,λ_=>⟨O,O⟩,qO,qO,λh=>by rw[a];exact b qO,qO⟩
theorem PM {c:Int} {ts:List Re} (h:∀x∈ts,Au x) (hs:Re.sizes ts<=300):Re.sizes (ts.map (A_ c))<=200000:=by
 have a:=Iw c 300 (D3.2 h) hs;have h2:(300+6)*(2*Re.sizes ts)<=(300+6)*600:=jG _ qO;rw[Ix] at a;omega
theorem XJ (c:Int) (n:Nat) (ih:Hm c n) (t:Re) (hn:t.size≤n) (h300:t.size≤300) (hok:Au t) (hk:t.kind=4∨t.kind=7∨t.kind=8) (w0:World) (S:Nat→Prop) (vs:n_) (ht:AR S w0 t vs) (hS:∀x,S x→x<w0.heap.size) :
  Bj prog 120 #[.agg vs.toArray,I6 c] w0 λr w=>(∃us,r=.agg us.toArray∧AR (λb=>S b∨w0.heap.size≤b) w (A_ c t) us)∧Ah w0 w:=by
 have ht0:=ht;obtain ⟨sa,sc,aa,ac,rfl,bf,bt,ah⟩:=ht.form;have hal:=Ch t;have bg:=t.size_eq;obtain ⟨N,hN⟩:∃N,N=DS (.mk t.kind [] (t.args.map (A_ c)) 0 0 false):=⟨_,rfl⟩;have a8:A_ c t=N:=by rw[hN];exact aF hk
 rw[a8];clear a8;have h8:t.kind=8→t.args.length=1:=λh=>by obtain ⟨y,hy,_⟩:=hok.n.k8 h;rw[hy];rfl
 refine qR jR rfl ntmps120 rfl (λE=>(AA (BC (v:=(.agg (R6 t sa sc aa ac))) (c:=(R6 t sa sc aa ac)) qD rfl rfl ?_)));intro br wr Nr;have Fr:=Nr.ge E;have E:=E.ext Nr.ext;have Br:=Nr.blk;refine BK (c:=#[(I6 0),(.slice none 0 0),(.slice none 0 0),(I6 0),(I6 0),(.bool false)]) qD A1 rfl ?_;intro bo wo No;have Fo:=No.ge E;have Oo_br:=No.lt Br;have Br:=No.keep Br;have E:=E.ext No.ext;have Bo:=No.blk;refine AB (AH (AA (qF br 0 0 rfl dI rfl Al rfl (qV (AJ rfl Ag (Br.cell rfl)) (AB (AW (AA (qV (Ai rfl rfl) (qA _ rfl (AB ?_))))))))));obtain ⟨n1,au⟩:∃n1,n1=wo.heap.size:=⟨_,rfl⟩;have hob:br<n1∧bo<n1∧w0.heap.size≤bo∧w0.heap.size≤n1:=⟨by rw[au];exact Br.lt,by rw[au];exact Bo.lt,qO,by rw[au];exact E.size⟩;have ae:n1≤wo.heap.size:=qO
 have be:(decide ((t.kind:Int)=2))=false:=decide_eq_false qO;refine Ae (Ar be) (AA (qV (Ai rfl rfl) (qA _ rfl (AB ?_))));have bn:(decide ((t.kind:Int)=3))=false:=decide_eq_false qO;refine Ae (Ar bn) (Gb (λσ W3=>∃(q:Bool),(∃jj_,σ=BW jj_ [(1,(I6 c)),(2,(P6 br 0)),(4,(P6 bo 0)),(12,(I6 t.kind)),(50,(.bool q))])∧Chg Aj w0 W3∧BV W3 br (R6 t sa sc aa ac) 25∧BV W3 bo #[(I6 0),(.slice none 0 0),(.slice none 0 0),(I6 0),(I6 0),(.bool false)] 25∧(q=true)∧(n1≤W3.heap.size)) ?_ ?_)
 ·skip
  refine AA (qV (Ai rfl rfl) (qA _ rfl (AB (qC rfl (λh4=>?_) (λh4=>?_)))))
  ·refine AM (AC ?_);exact ⟨(decide ((t.kind:Int)=4)),oH,E,Br,Bo,decide_eq_true h4,ae⟩
  ·refine AA (qV (Ai rfl rfl) (qA _ rfl (AB (qC rfl (λh7=>?_) (λh7=>?_)))))
   ·refine AM (AC ?_);exact ⟨(decide ((t.kind:Int)=7)),oH,E,Br,Bo,decide_eq_true h7,ae⟩
   ·refine AN (qV (Ai rfl rfl) (qA _ rfl (AB (AC ?_))));exact ⟨(decide ((t.kind:Int)=8)),oH,E,Br,Bo,decide_eq_true qO,ae⟩
 ·clear E Br Bo;rintro _ W3 ⟨q,⟨j3,rfl⟩,E,Br,Bo,hq,ae⟩;have bp:(q)=true:=hq;refine Aq (Ar bp) (AA (qA _ rfl (AB (AH (AA (qF br 0 2 rfl dI rfl BF rfl (qV (AJ rfl A9 (Br.cell rfl)) (qV (AT dJ rfl) (qM _ rfl (AB (AW (Ax (λnn_ σ W7=>∃(i:Nat) (la:oE) (lc:Nat) (ad:List n_) (T:Nat→Prop),(∃jj_,σ=BW jj_ [(1,(I6 c)),(2,(P6 br 0)),(4,(P6 bo 0)),(55,(.slice aa t.args.length ac)),(56,(I6 (t.args.length:Int))),(57,(I6 (i:Int))),(7,(.slice la i lc))])∧Chg Aj w0 W7∧BV W7 br (R6 t sa sc aa ac) 25∧BV W7 bo #[(I6 0),(.slice none 0 0),(.slice none 0 0),(I6 0),(I6 0),(.bool false)] 25∧(i≤t.args.length)∧(W7.ownsRow n1 FR 6 (.slice la i lc) i ad.flatten)∧(Ap T W7 ((t.args.take i).map (A_ c)) ad)∧(n1≤W7.heap.size)∧(∀y,T y→(S y∨n1≤y)∧y<W7.heap.size)∧(∀b,(Value.slice la i lc).ownBlock=some b→¬T b)∧nn_=t.args.length - i) (n:=t.args.length - 0) ?_ ?_))))))))))))
  ·exact ⟨0,none,0,[],(λ_=>False),oH,E,Br,Bo,dR _,World.ownsRow_nil _ _ _ _,rfl,ae,(λy h=>h.elim),(λb _ h=>h),rfl⟩
  ·clear E Br Bo;rintro _ _ W7 ⟨i,la,lc,ad,T,⟨j7,rfl⟩,E,Br,Bo,hi,hO,hR,af,hT,an,rfl⟩;refine AA (qV (A6 rfl rfl) (AB (AH (qC rfl (λbk=>?_) (λbk=>?_)))))
   ·obtain ⟨x,hx⟩:=AU (l:=t.args) (i:=i) qO;have bs:=hok.a x (dK hx);have hxz:=Re.size_arg hx;obtain ⟨ab,ao,hab,rfl,a3⟩:=ah.resolve_left (λh=>by rw[h] at hx;cases hx);obtain ⟨us,bc,a6⟩:=a3.get hx;have az:=a6;obtain ⟨a1,am,av,aq,rfl,_,_,_⟩:=a6.form;obtain ⟨M,hM⟩:∃M,M=A_ c x:=⟨_,rfl⟩;refine AM (AC (AH (AW (AA (qV (AL (b:=ab) (o:=ao) (len:=t.args.length) (cap:=ac) (i:=i) (o':=ao+i*6) rfl rfl rfl dJ AG qO qO) (qV (AI rfl Ad AG rfl (bc.ext E)) (As (v:=(.agg (R6 x a1 am av aq))) (c:=(R6 x a1 am av aq)) (n:=6) qD A1 rfl AG rfl rfl rfl qS ?_)))))));intro bu wu Nu;have Fu:=Nu.ge E;have Ou_br:=Nu.lt Br;have Ou_bo:=Nu.lt Bo;have Br:=Nu.keep Br;have Bo:=Nu.keep Bo;have hO:=Az hO Nu.ext;have hR:=Ap.ext Nu.ext hR;have af:=dL af Nu.ext.size;have hT:=Jv hT Nu.ext;have E:=E.ext Nu.ext;have Bu:=Nu.blk;refine AB (AN (qM _ rfl (qV (AI (vs:=(oJ x a1 am av aq)) rfl Ad AG rfl (Bu.cells rfl)) (qM _ rfl ?_))));obtain ⟨n2,ak⟩:∃n2,n2=(wu).heap.size:=⟨_,rfl⟩;have bq:n1≤n2:=by rw[ak];exact af
    have bi:∀b,(Value.slice la i lc).ownBlock=some b→n1≤b∧b<n2:=λb hb=>⟨(hO.lt b hb).1,by rw[ak];exact (hO.lt b hb).2⟩;refine qE rfl (AS jR kQ kQ rfl) ((ih x _ S _ qO bs (AR.ext E x az) (λy hy=>by have:=hS y hy;have:=E.size;omega)).mono (R':=λr w=>DQ (λb=>S b∨n2≤b) M r w∧Ah wu w) (λr w h=>⟨CI (S':=λb=>S b∨_≤b) (λb hb=>by rcases hb with h1|h1;exact .inl h1;exact .inr (by rw[ak];exact h1)) (by rw[hM];exact h.1),h.2⟩)) ?_;rintro _ w9 ⟨⟨ma,mc,pa,pc,rfl,hX⟩,X9⟩;have Br:=X9.keep Br;have Bo:=X9.keep Bo;have Bu:=X9.keep Bu;have hO:=Az hO X9;have hR:=Ap.ext X9 hR;have af:=dL af X9.size;have hT:=Jv hT X9;have E:=E.ext X9;have ay:=AR.lt M hX;refine Aw (ps:=[(0,(.agg (R6 M ma mc pa pc)))]) (c:=(R6 M ma mc pa pc)) qD rfl dJ AG A1 qD qD qK ?_;intro bz wz Nz;have Fz:=Nz.ge E;have Oz_br:=Nz.lt Br;have Oz_bo:=Nz.lt Bo;have Oz_bu:=Nz.lt Bu;have Br:=Nz.keep Br;have Bo:=Nz.keep Bo;have Bu:=Nz.keep Bu;have hO:=Az hO Nz.ext;have hR:=Ap.ext Nz.ext hR;have af:=dL af Nz.ext.size;have hT:=Jv hT Nz.ext;have ay:=AR.ext Nz.ext M ay;have E:=E.ext Nz.ext;have Bz:=Nz.blk;have hQ9:True:=trivial;refine BQ (base:=n1) (n:=i) (m:=1) (xs:=ad.flatten) (news:=(oJ M ma mc pa pc)) (size:=6) (bytes:=80) (v:=(.slice la i lc)) qD dJ AG E0 A1 rfl qD rfl hO rfl (rfl) (Bz.cells rfl) qS (by unfold maxLen;omega) qO (af) ?_;intro v9 a9 a7 ag bb;have Br:=ag.keep (λh=>by have:=(hO.lt _ h).1;omega) Br;have Bo:=ag.keep (λh=>by have:=(hO.lt _ h).1;omega) Bo;have E:=E.step ag (λx hx h=>absurd (hO.lt x h).1 qO);obtain ⟨bd,bm,rfl⟩:=BB a7;have ai:∀y,(T y∨((S y∨n2≤y)∧y<w9.heap.size))→(S y∨n1≤y)∧y<(a9).heap.size∧(Value.slice la i lc).ownBlock≠some y:=by
     intro y hy;have bj:=Nz.ext.size;have hz2:=ag.size;rcases hy with hy|⟨hy,hy2⟩
     ·exact ⟨(hT y hy).1,by have:=(hT y hy).2;omega,λhb=>an y hb hy⟩
     ·refine ⟨hy.imp id (λh=>by have:=X9.size;omega),qO,λhb=>?_⟩;have h9:=bi y hb;rcases hy with h1|h1
      ·have:=hS y h1;omega
      ·omega
    have bh:Ap (λy=>T y∨((S y∨n2≤y)∧y<w9.heap.size)) (a9) ((t.args.take (i+1)).map (A_ c)) (ad++[(oJ M ma mc pa pc)]):=by
     rw[eK,hx,fL,eT,gK,jD,←hM];exact Kj (Ap.mono (λy hy=>.inl hy) (Ap.chg ag (λy hy hm=>an y hm hy) hR)) (AR.mono (λy hy=>.inr hy) M (AR.chg ag (λy hy hm=>(ai y (.inr hy)).2.2 hm) M ay))
    refine qA _ rfl (AB (AV (AC (AN (qV (A0 rfl rfl (A8 qO)) (qM _ rfl (AB (AC ?_))))))));exact ⟨t.args.length - (i+1),qO,i+1,bd,bm,ad++[(oJ M ma mc pa pc)],(λy=>T y∨((S y∨n2≤y)∧y<w9.heap.size)),oH,E,Br,Bo,qO,(by simpa using a7),bh,dL af ag.size,(λy hy=>⟨(ai y hy).1,(ai y hy).2.1⟩),(λb hb hy=>by rcases bb b hb with h|h;exact (ai b hy).2.2 h;have bj:=Nz.ext.size;rcases hy with hy|hy;have:=(hT b hy).2;omega;have:=hy.2;omega),rfl⟩
   ·have a5:i=t.args.length:=qO
    rw[a5] at hO hR an;rw[a5];rw[eE] at hR;refine Av (AZ (AZ (Ao (AC (AA (qF br 0 0 rfl dI rfl Al rfl (qV (AJ rfl Ag (Br.cell rfl)) (qM _ rfl (qV (B0 (ps:=[(0,(I6 t.kind)),(2,(.slice la t.args.length lc))]) (v:=(.agg #[(I6 t.kind),(.slice none 0 0),(.slice la t.args.length lc),(I6 0),(I6 0),(.bool false)])) rfl qK) ?_)))))))));have aj:(t.args.map (A_ c)).length=t.args.length:=dW _;obtain ⟨bv,a0⟩:=Eo hO hR aj;have ba:AR (λy=>(S y∨n1≤y)∧y<(W7).heap.size) (W7) (.mk t.kind [] (t.args.map (A_ c)) 0 0 false) [I6 t.kind,.slice none 0 0,.slice la t.args.length lc,I6 0,I6 0,.bool false]:=by
     have h9:=AR.of (S:=λy=>(S y∨n1≤y)∧y<(W7).heap.size) (w:=W7) (k:=t.kind) (set:=[]) (args:=t.args.map (A_ c)) (mn:=0) (mx:=0) (ng:=false) (sa:=none) (sc:=0) (aa:=la) (ac:=lc) (B_.nil _ _ _ _ _) (by rw[aj];exact bv) (by
      rcases a0 with h|⟨ob,al,ax,a4,aw⟩
      ·exact .inl h
      ·exact .inr ⟨ob,0,⟨.inr al,ax⟩,a4,D5 λi t ht=>by obtain ⟨vs,h6,h7⟩:=aw i t ht;exact ⟨vs,h6,AR.mono (λy hy=>hT y hy) t h7⟩⟩)
     rw[aj] at h9;exact h9
    have ap:n1≤(W7).heap.size:=af;refine qE rfl (AS func113 kQ kQ rfl) ((LF _ _ _ _ ba (λy hy=>hy.2) (ZU hk h8 aj) (λy hy=>by obtain ⟨z,hz,rfl⟩:=eU.1 hy;exact Du c (hok.a z hz)) (by have:=PM (c:=c) hok.a qO;show Re.sizes (t.args.map (A_ c))≤1000000;omega)).mono (R':=λr w=>DQ (λb=>S b∨n1≤b) N r w∧Ah _ w) (λr w h=>⟨CI (S':=λb=>((S b∨n1≤b)∧b<_)∨_≤b) (λb hb=>by rcases hb with h1|h1;exact h1.1;exact .inr (dL ap h1)) (by rw[hN];exact h.1),h.2⟩)) ?_;rintro _ w49 ⟨⟨xa,xc,ya,yc,rfl,a2⟩,ar⟩;have Br:=ar.keep Br;have Bo:=ar.keep Bo;have E:=E.ext ar;refine Aa (b:=bo) (o:=0) (c':=(R6 N xa xc ya yc)) rfl rfl qS AG rfl Bo qL rfl ?_;intro w9 S9;have a2:=AR.chg S9.chg (λy hy h=>by have h2:y=bo:=h;rcases hy with h1|h1;have:=hS y h1;omega;omega) _ a2;have Br:=S9.keep qO Br;have E:=S9.step E (by first|exact dH qO|assumption|exact dG rfl|exact dG (by assumption)|exact dG qP|exact dG qO|exact dG (by dsimp only;omega));have Bo:=S9.blk;refine AB (AO (Ac (AK (A2 jV (vs:=(oJ N xa xc ya yc)) (b:=bo) rfl Ad AG rfl (Bo.cells rfl) ?_))));exact ⟨⟨_,rfl,AR.mono (λy hy=>by rcases hy with h1|h1;exact .inl h1;exact .inr qO) _ a2⟩,E⟩
theorem Uu (c:Int):∀n,n<=301->Hm c n
 | 0,_=>λt _ _ _ h=>absurd h qO
 | n+1,hn=>λt d S vs h a b e=>by
  have ih:=Uu c n qO;have hks:=a.n.ks;by_cases j:t.kind=0∨t.kind=1
  .exact XM c n ih t qO qO a j d S vs b e
  by_cases g:t.kind=2
  .exact XL c n ih t qO qO a g d S vs b e
  by_cases f:t.kind=3
  .exact XK c n ih t qO qO a f d S vs b e
  by_cases k:t.kind=5
  .exact XI c n ih t qO qO a k d S vs b e
  by_cases i:t.kind=6
  .exact XH c n ih t qO qO a i d S vs b e
  exact XJ c n ih t qO qO a qO d S vs b e
mutual
theorem Lt:∀(t:Re),C' t->HW t
 | .mk k set args mn mx ng,h=>by
  have a:=HB h;have g:=FA h;have e:=C8 h;simp only[HW];refine ⟨?_,NX args e⟩;obtain ⟨f,hb,c⟩:=g;by_cases d:k=2
  .unfold Cb at a;simp only[Re.kind] at f hb;rw[if_neg (by simp only[Re.kind];omega),if_neg (by simp[c]),if_pos (by simp only[Re.kind];exact d)] at a;split at a
   .omega
   .rename_i b
    simp only[Re.set] at b;unfold BJ at b;split at b
    .omega
    .omega
  .simp only[Dj,dP,eZ,decide_eq_true_eq,Re.kind,Re.set] at c;have:=c.1.1.1.2.resolve_left (by simp[d]);simp at this;rw[this];simp
theorem NX:∀(ts:List Re),DC ts->II ts
 | [],_=>by simp only[II]
 | t::ts,h=>by simp only[DC] at h;simp only[II];exact ⟨Lt t h.1,NX ts h.2⟩
end
mutual
theorem Ju {S Z:oD} {w:World} (a:∀x,Z x->S x):∀(t:Re) {vs:n_} {L:oD},Ds Z w t vs L->(∀x,L x->S x)->AR S w t vs
 | .mk k set args mn mx ng,vs,L,h,hL=>by
  simp only[Ds] at h;obtain ⟨sa,sc,aa,ac,n,hs,hn,o⟩:=h;simp only[AR];refine ⟨sa,sc,aa,ac,n,hs.mono a,hn,?_⟩;rcases o with h|⟨b,rows,rest,L',l,g,d,r,j,f⟩
  .exact .inl h
  .refine .inr ⟨b,0,hL b l,g,D5 λi t p=>?_⟩;obtain ⟨e,c,q⟩:=LP a args j (λx m=>hL x (f x m).1) i t p;exact ⟨e,by rw[eO];exact HY d r c,q⟩
theorem LP {S Z:oD} {w:World} (b:∀x,Z x->S x):∀(ts:List Re) {rows:List n_} {L:oD},B' Z w ts rows L->(∀x,L x->S x)->∀(i:Nat) (t:Re),ts[i]?=some t->∃vs,rows[i]?=some vs∧AR S w t vs
 | [],_,_,_,_,i,t,h=>by simp at h
 | u::ts,rows,L,h,hL,i,t,ht=>by
  simp only[B'] at h;obtain ⟨vs,rs,L1,L2,rfl,j,f,c,k⟩:=h;cases i with
  | zero=>simp at ht;subst ht;exact ⟨vs,O,Ju b u j λx a=>hL x (c x a).1⟩
  | succ i=>
   obtain ⟨e,g,d⟩:=LP b ts f (λx a=>hL x (k x a)) i t (by simpa using ht);exact ⟨e,by simpa using g,d⟩
end
theorem Rx (g:World) (t:Re) (vs:n_) (k:A3 g t vs) :
 Bj prog 25 #[.agg vs.toArray] g λr w=>r=I6 (Cz t)∧Ah g w:=by
 have e:=k;obtain ⟨sa,sc,aa,ac,rfl,hset,hlen,hargs⟩:=k.form;have n:Cz t=if By t 300≠0 then By t 300 else if DA [9,10] t=true then 3 else 0:=rfl;rw[n];refine qR func25 O ntmps25 O (λE=>(AA (BC (v:=(.agg (R6 t sa sc aa ac))) (c:=(R6 t sa sc aa ac)) qD O O ?_)));intro br wr m;have E:=E.ext m.ext;have b:=m.blk;refine qA _ O (AB (AH (AA (qV (AI (vs:=(oJ t sa sc aa ac)) O Ad AG O (b.cells O)) (qE O (AS func62 kQ kQ O) (WH _ t _ (A3.ext E t e) 300) ?_)))));rintro _ w9 ⟨rfl,l⟩;have b:=l.keep b;have E:=E.ext l;refine qA _ O (AB (AA (qM _ O (qV (Bb O O) (AB (qC O (λf=>?_) (λf=>?_)))))))
 .refine AA (qM _ O (qA _ O (AB (AO (AK (AY results25 (v:=(I6 (By t 300))) O ?_))))));exact ⟨by rw[if_pos f],E⟩
 .refine AM (AC (AH (AA (qV (AI (vs:=(oJ t sa sc aa ac)) O Ad AG O (b.cells O)) (Aw (ps:=[(0,(I6 9)),(1,(I6 10))]) (c:=#[(I6 9),(I6 10)]) qD O eA Al Ex qD qD qK ?_)))));intro bk wk j;have E:=E.ext j.ext;have i:=j.blk;refine qE O (AS func63 kQ kQ O) (ZC _ t _ [9,10] _ (A3.ext E t e) (FX [9,10] i qP qP)) ?_;rintro _ w19 ⟨rfl,a⟩;have b:=a.keep (j.keep b);have i:=a.keep i;have E:=E.ext a;refine AB (A4 O (λd=>?_) (λd=>?_))
  .have h:=d;refine AA (qA _ O (AB (AO (AK (AY results25 (v:=(I6 3)) O ?_)))));exact ⟨by rw[if_neg f,if_pos d],E⟩
  .have h:=d;refine AM (AC (AA (qA _ O (AB (AO (AY results25 (v:=(I6 0)) O ?_))))));exact ⟨by rw[if_neg f,if_neg (by rw[d];decide)],E⟩
theorem Xd {S:oD} {w:World}:AR S w BO [I6 0,.slice none 0 0,.slice none 0 0,I6 0,I6 0,.bool false]:=CF _ _ 0
theorem aW (w0:World) (S:Nat→Prop) (t:Re) (vs:n_) (c:Int) (ht:AR S w0 t vs) (hS:∀x,S x→x<w0.heap.size) :
  Bj prog 92 #[.agg vs.toArray,I6 c] w0 λr w=>(∃us,r=.tuple #[.agg us.toArray,I6 (Zt t c)]∧AR (λb=>w0.heap.size≤b) w (bK t c) us)∧Ah w0 w:=by
 have av:=ht;obtain ⟨sa,sc,aa,ac,rfl,a1,a6,aw⟩:=ht.form;have hE:Zt t c=if Cz t≠0 then Cz t else if CJ c=false then 1 else if 300<(A_ c (CR t)).size then 2 else 0:=rfl;have hB:bK t c=if Zt t c=0 then A_ c (CR t) else BO:=rfl;refine qR func92 rfl ntmps92 rfl (λE=>(AA (BC (v:=(.agg (R6 t sa sc aa ac))) (c:=(R6 t sa sc aa ac)) qD rfl rfl ?_)));intro br wr Nr;have Fr:=Nr.ge E;have E:=E.ext Nr.ext;have Br:=Nr.blk;refine BK (c:=#[(I6 0),(.slice none 0 0),(.slice none 0 0),(I6 0),(I6 0),(.bool false)]) qD A1 rfl ?_;intro bo wo No;have Fo:=No.ge E;have Oo_br:=No.lt Br;have Br:=No.keep Br;have E:=E.ext No.ext;have Bo:=No.blk;refine qA _ rfl (AB (AH (AA (qV (AI (vs:=(oJ t sa sc aa ac)) rfl Ad AG rfl (Br.cells rfl)) (qE rfl (AS func25 kQ kQ rfl) (Rx _ t _ (AR.at t (AR.ext E t av))) ?_)))));rintro _ w9 ⟨rfl,X9⟩;have Br:=X9.keep Br;have Bo:=X9.keep Bo;have E:=E.ext X9;refine qA _ rfl (AB (AA (qM _ rfl (qV (Bb rfl rfl) (AB (qC rfl (λhf=>?_) (λhf=>?_)))))))
 ·refine AA (qV (B0 (ps:=[]) (v:=(.agg #[(I6 0),(.slice none 0 0),(.slice none 0 0),(I6 0),(I6 0),(.bool false)])) rfl qK) (qM _ rfl (Aa (b:=bo) (o:=0) (c':=#[(I6 0),(.slice none 0 0),(.slice none 0 0),(I6 0),(I6 0),(.bool false)]) rfl rfl qS AG rfl Bo qL rfl ?_)));intro w2 S2;have Br:=S2.keep qO Br;have E:=S2.step E (by first|exact dH qO|assumption|exact dG rfl|exact dG (by assumption)|exact dG qP|exact dG qO|exact dG (by dsimp only;omega));have Bo:=S2.blk;refine qA _ rfl (AB (AO (AK (Ee results92 (vs:=[(I6 0),(.slice none 0 0),(.slice none 0 0),(I6 0),(I6 0),(.bool false)]) (b:=bo) (v':=(I6 (Cz t))) rfl Ad AG rfl (Bo.cells rfl) rfl ?_))));exact ⟨⟨_,by rw[hE,if_pos hf],by rw[hB,if_neg (by rw[hE,if_pos hf];exact hf)];exact Xd⟩,E⟩
 ·have ax:Cz t=0:=qO
  obtain ⟨a4,a2,hu,ae,aq⟩:=HL ax;refine AM (AC (AH (AA (qM _ rfl (qE rfl (AS func87 kQ kQ rfl) (VD _ _) ?_)))));rintro _ al ⟨rfl,ap⟩;have Br:=ap.keep Br;have Bo:=ap.keep Bo;have E:=E.ext ap;refine qV (C1 rfl) (AB (A4 rfl (λhr=>?_) (λhr=>?_)))
  ·have a5:=hr;have hr:=by simpa using hr
   have ad:CJ c=false:=by simpa using hr
   refine AA (qV (B0 (ps:=[]) (v:=(.agg #[(I6 0),(.slice none 0 0),(.slice none 0 0),(I6 0),(I6 0),(.bool false)])) rfl qK) (Aa (b:=bo) (o:=0) (c':=#[(I6 0),(.slice none 0 0),(.slice none 0 0),(I6 0),(I6 0),(.bool false)]) rfl rfl qS AG rfl Bo qL rfl ?_));intro w4 S4;have Br:=S4.keep qO Br;have E:=S4.step E (by first|exact dH qO|assumption|exact dG rfl|exact dG (by assumption)|exact dG qP|exact dG qO|exact dG (by dsimp only;omega));have Bo:=S4.blk;refine qA _ rfl (AB (AO (AK (Ee results92 (vs:=[(I6 0),(.slice none 0 0),(.slice none 0 0),(I6 0),(I6 0),(.bool false)]) (b:=bo) (v':=(I6 1)) rfl Ad AG rfl (Bo.cells rfl) rfl ?_))));exact ⟨⟨_,by rw[hE,if_neg hf,if_pos ad],by rw[hB,if_neg (by rw[hE,if_neg hf,if_pos ad];decide)];exact Xd⟩,E⟩
  ·have a5:=hr;have hr:=by simpa using hr
   have ad:¬CJ c=false:=by simpa using hr
   obtain ⟨M,hM⟩:∃M,M=CR t:=⟨_,rfl⟩;obtain ⟨D,hD⟩:∃D,D=A_ c M:=⟨_,rfl⟩;have hDz:D.size≤200000:=by rw[hD,hM];exact E5 ae qO
   have a0:Au D:=by rw[hD,hM];exact Du c ae
   refine AM (AC (AA (qV (AI (vs:=(oJ t sa sc aa ac)) rfl Ad AG rfl (Br.cells rfl)) ?_)));obtain ⟨n1,a3⟩:∃n1,n1=al.heap.size:=⟨_,rfl⟩;have hob:bo<n1∧w0.heap.size≤bo:=⟨by rw[a3];exact Bo.lt,qO⟩;refine qE rfl (AS func76 kQ kQ rfl) ((WM 300 t _ S _ a2 qO a4 hu (AR.ext E t av) (λy hy=>by have:=hS y hy;have:=E.size;omega)).mono (R':=λr w=>DQ (λb=>S b∨n1≤b) M r w∧Ah al w) (λr w h=>⟨CI (S':=λb=>S b∨al.heap.size≤b) (λb hb=>by rcases hb with h1|h1;exact .inl h1;exact .inr qO) (by rw[hM];exact h.1),h.2⟩)) ?_;rintro _ ao ⟨⟨xa,xc,ya,yc,rfl,a7⟩,ai⟩;have Br:=ai.keep Br;have Bo:=ai.keep Bo;have E:=E.ext ai;refine qM _ rfl (qE rfl (AS jR kQ kQ rfl) ((Uu c 301 qO M _ _ _ (by rw[hM];omega) (by rw[hM];exact ae) (AR.lt _ a7) (λy hy=>hy.2)).mono (R':=λr w=>DQ (λ_=>True) D r w∧Ah ao w) (λr w h=>⟨CI (S':=λb=>((S b∨n1≤b)∧b<ao.heap.size)∨ao.heap.size≤b) (λb hb=>trivial) (by rw[hD];exact h.1),h.2⟩)) ?_);rintro _ ak ⟨⟨da,dc,ea,ec,rfl,ay⟩,aj⟩;have Br:=aj.keep Br;have Bo:=aj.keep Bo;have E:=E.ext aj;have ab:=AR.lt D ay;obtain ⟨h39,am⟩:∃h,h=ak.heap.size:=⟨_,rfl⟩;rw[←am] at ab;have E3:Chg Aj ak ak:=Chg.refl _ _;refine As (v:=(.agg (R6 D da dc ea ec))) (c:=(R6 D da dc ea ec)) (n:=6) qD A1 rfl AG rfl rfl rfl qS ?_;intro bq wq Nq;have Fq:=Nq.ge E;have Fq_E3:=Nq.ge E3;have Oq_br:=Nq.lt Br;have Oq_bo:=Nq.lt Bo;have Br:=Nq.keep Br;have Bo:=Nq.keep Bo;have ab:=AR.ext Nq.ext _ ab;have E:=E.ext Nq.ext;have Bq:=Nq.blk;have E3:=E3.ext Nq.ext;refine AB (AH (AA (qV (AI (vs:=(oJ D da dc ea ec)) rfl Ad AG rfl (Bq.cells rfl)) (qE rfl (AS func121 kQ kQ rfl) (ZG _ D _ (AR.at D ab) qO) ?_))));rintro _ az ⟨rfl,ag⟩;have Br:=ag.keep Br;have Bo:=ag.keep Bo;have Bq:=ag.keep Bq;have ab:=AR.ext ag _ ab;have E:=E.ext ag;have E3:=E3.ext ag;refine qV (CN rfl rfl) (AB (qC rfl (λhz=>?_) (λhz=>?_)))
   ·refine AA (qV (B0 (ps:=[]) (v:=(.agg #[(I6 0),(.slice none 0 0),(.slice none 0 0),(I6 0),(I6 0),(.bool false)])) rfl qK) (Aa (b:=bo) (o:=0) (c':=#[(I6 0),(.slice none 0 0),(.slice none 0 0),(I6 0),(I6 0),(.bool false)]) rfl rfl qS AG rfl Bo qL rfl ?_));intro w6 S6;have Br:=S6.keep qO Br;have Bq:=S6.keep qO Bq;have E:=S6.step E (by first|exact dH qO|assumption|exact dG rfl|exact dG (by assumption)|exact dG qP|exact dG qO|exact dG (by dsimp only;omega));have Bo:=S6.blk;refine qA _ rfl (AB (AO (AK (Ee results92 (vs:=[(I6 0),(.slice none 0 0),(.slice none 0 0),(I6 0),(I6 0),(.bool false)]) (b:=bo) (v':=(I6 2)) rfl Ad AG rfl (Bo.cells rfl) rfl ?_))));exact ⟨⟨_,by rw[hE,if_neg hf,if_neg ad,if_pos (by rw[←hM,←hD];omega)],by rw[hB,if_neg (by rw[hE,if_neg hf,if_neg ad,if_pos (by rw[←hM,←hD];omega)];decide)];exact Xd⟩,E⟩
   ·have au:bo<(az).heap.size:=by have:=E3.size;have:=ai.size;have:=aj.size;omega
    refine AM (AC (AA (qV (AI (vs:=(oJ D da dc ea ec)) rfl Ad AG rfl (Bq.cells rfl)) (qE rfl (AS func75 kQ kQ rfl) (WW D.size D _ _ (dU _) qO (Lt D (EZ a0).1) (AR.at D ab)) ?_))));rintro _ w59 ⟨⟨us,Z,L,rfl,ar,hZL,ah⟩,af⟩;have Br:=af.keep Br;have Bo:=af.keep Bo;have Bq:=af.keep Bq;have ab:=AR.ext af _ ab;have E:=E.ext af;have E3:=E3.ext af;have an:=Ju (S:=λb=>bo<b) (λx hx=>by have:=(ah x (.inl hx)).1;omega) D ar (λx hx=>by have:=(ah x (.inr hx)).1;omega);obtain ⟨fa,fc,ga,gc,rfl,_,_,_⟩:=ar.form;refine Aa (b:=bo) (o:=0) (c':=(R6 D fa fc ga gc)) rfl rfl qS AG rfl Bo qL rfl ?_;intro w7 S7;have an:=AR.chg S7.chg (λy hy h=>by have h2:y=bo:=h;have h3:bo<y:=hy;omega) _ an;have Br:=S7.keep qO Br;have Bq:=S7.keep qO Bq;have E:=S7.step E (by first|exact dH qO|assumption|exact dG rfl|exact dG (by assumption)|exact dG qP|exact dG qO|exact dG (by dsimp only;omega));have Bo:=S7.blk;refine qA _ rfl (AB (AO (Ee results92 (vs:=(oJ D fa fc ga gc)) (b:=bo) (v':=(I6 0)) rfl Ad AG rfl (Bo.cells rfl) rfl ?_)));exact ⟨⟨_,by rw[hE,if_neg hf,if_neg ad,if_neg (by rw[←hM,←hD];omega)],by rw[hB,if_pos (by rw[hE,if_neg hf,if_neg ad,if_neg (by rw[←hM,←hD];omega)]),←hM,←hD];exact AR.mono (λy (hy:bo<y)=>qO) _ an⟩,E⟩
abbrev Qt:Nat:=3
def Wv (w:World) (base:Nat) (r:Value) (l:oB):Prop:=(∃a c,r=.slice a l.length c)∧w.ownsRow base Qt 1 r l.length (l.map (Value.int .i64))
theorem ownI_holds {w:World} {base g n c:Nat} {l:oB} (h:w.ownsRow base Qt 1 (.slice (oI g 0) n c) n (l.map (Value.int .i64))):Sort.Holds (Value.int .i64) w g 0 l.toArray:=by
 intro j b;simp only[fQ] at b;have f:l[j]?=some l[j]:=dM b;have a:=h.cells (g:=g) O j (I6 l[j]) (by simp[f]);rw[Addr.add_lit] at a;have i:l.toArray[j]! = l[j]:=by rw[getElem!_pos l.toArray j (by simpa using b)];simp
 rw[i];refine ⟨a,?_⟩;rcases h.2 with ⟨a,_⟩|⟨g',cap,cur,d,_,e,_⟩
 .simp at a
 .simp only[Value.slice.injEq,fI,Addr.mk.injEq,and_true] at d;obtain ⟨rfl,_⟩:=d;simp[World.frozen?,e]
theorem ME {w:World} {g n c:Nat} {l:oB} (h:Sort.Holds (Value.int .i64) w g 0 l.toArray) (hn:l.length=n) (hc:n<=c) (hl:n<=9223372036854775807):Bw w (.slice (oI g 0) n c) l:=by
 refine ⟨_,c,by simp[hn],by simp;omega,by simp;omega,.inr ⟨g,0,O,λi r d j u b=>?_⟩⟩;simp only[eN,iQ] at d;obtain ⟨x,a,rfl⟩:=d;have hi:=AX a;have hj:j<1:=by have:=AX b;simpa[GB] using this
 obtain rfl:j=0:=qO
 have e:=(h i (by simpa using hi)).1;have f:l.toArray[i]! = x:=by
  rw[getElem!_pos l.toArray i (by simpa using hi)];rw[dM hi] at a;simpa using a
 rw[f] at e;simp[GB] at b;subst b;simpa using e
theorem Hy {α:Type} [Inhabited α] (enc:α->Value) (w:World) (g c m:Nat) (d:Array α) (os:Array Obj):Chg (λx=>x=g) w (grow (putRow enc (Sort.ahead w m) g c d) os):=by
 refine ⟨O,O,O,lB _ _,?_,λb hb a=>?_⟩
 .simp[grow,putRow,mapBlock,Sort.ahead]
 .simp only[grow,putRow,mapBlock,Sort.ahead];rw[iW (by simpa using hb),iV,if_neg (λh=>a h.symm)]
def Ly (x y:Int):Bool:=decide (x<=y)
theorem XQ (b:World) (base g c:Nat) (l:oB) (h:b.ownsRow base Qt 1 (.slice (oI g 0) l.length c) l.length (l.map (Value.int .i64))) (hl:l.length<=17592186044416) :
 Bj prog 65 #[.slice (oI g 0) l.length c] b λr w=>r=.tuple #[]∧Sort.Holds (Value.int .i64) w g 0 (l.mergeSort Ly).toArray∧Chg (λx=>x=g) b w:=by
 have d:=ownI_holds h;have a:g<b.heap.size:=(h.lt g O).2;refine Calls.mono (Any.slices_Sort_int Tryz.sortI g 0 c l b d a qO) ?_;rintro e w' ⟨rfl,n,os,rfl⟩;refine ⟨_,O,O,?_,Hy _ b g 0 n _ os⟩;exact holds_grow _ _ os g 0 _ (by simpa[putRow,mapBlock,Sort.ahead] using a) (holds_putRow _ (Sort.ahead b n) g 0 l.toArray _ d qP)
theorem YU (a:World) (g c:Nat) (l:oB) (i:Sort.Holds (Value.int .i64) a g 0 l.toArray) (m:l.length<=c∧c<=9223372036854775807) :
 Bj prog 66 #[.slice (oI g 0) l.length c] a λr w=>r=.slice (oI g 0) (Lib.compact l).length c∧Bw w r (Lib.compact l)∧Chg (λx=>x=g) a w:=by
 refine Calls.mono (Any.slices_Compact_int Tryz.compI g 0 c l a i qO m.1) ?_;rintro e w' ⟨rfl,q,rfl⟩;have hlen:(Lib.compact l).length<=l.length:=by
  unfold Lib.compact Lib.compactUpTo;rw[dW];exact dL (jQ _ _) qP
 have b:=Hy (Value.int .i64) a g 0 q (Lib.compact l++List.replicate (l.length - (Lib.compact l).length) 0).toArray #[];have d:∀w:World,grow w #[]=w:=λw=>by simp[grow]
 rw[d] at b;refine ⟨_,O,O,?_,b⟩;have n:Sort.Holds (Value.int .i64) (putRow (Value.int .i64) (Sort.ahead a q) g 0 (Lib.compact l++List.replicate (l.length - (Lib.compact l).length) 0).toArray) g 0 (Lib.compact l++List.replicate (l.length - (Lib.compact l).length) 0).toArray:=
  holds_putRow _ (Sort.ahead a q) g 0 l.toArray _ i (by simp;omega)
 have f:Sort.Holds (Value.int .i64) (putRow (Value.int .i64) (Sort.ahead a q) g 0 (Lib.compact l++List.replicate (l.length - (Lib.compact l).length) 0).toArray) g 0 (Lib.compact l).toArray:=by
  intro j h;simp only[fQ] at h;have k:=n j (by simp;omega);rw[getElem!_pos _ j (by simp;omega)] at k;rw[getElem!_pos _ j (by simpa using h)];simpa[List.getElem_append_left h] using k
 exact ME (l:=Lib.compact l) f O qO qO
theorem O8 {l:oB} (hs:l.Pairwise (·<=·)):∀m,m<=l.length->(Lib.compactUpTo l.toArray m).Pairwise (· < ·)∧∀x,x∈Lib.compactUpTo l.toArray m↔x∈l.take m:=by
 intro m
 induction m with
 | zero=>intro _;simp[Lib.compactUpTo]
 | succ m ih=>
  intro hm;obtain ⟨u,k⟩:=ih qO;have e:l[m]?=some l[m]:=dM qO;have n:l.toArray[m]! = l[m]:=by rw[getElem!_pos _ m (by simp;omega)];simp
  rw[Lib.compactUpTo_succ,(show l.take (m+1)=l.take m++[l[m]] by rw[eK,e];rfl)];have p:∀x∈l.take m,∃j,j<m∧∃c:j<l.length,l[j]=x:=λx e=>by
   obtain ⟨j,c⟩:=eS.1 e;have b:=AX c;rw[gE] at b;have f:j<m:=qO
   have g:j<l.length:=qO
   rw[lZ,if_pos f,dM g] at c;exact ⟨j,f,g,gQ c⟩
  have a:∀(i j:Nat) (hi:i<l.length) (c:j<l.length),i<=j->l[i]<=l[j]:=λi j hi c o=>by
   rcases Nat.eq_or_lt_of_le o with b|b
   .subst b;exact gM _
   .exact fB.1 hs i j hi c b
  by_cases d:Lib.keeps l.toArray m=true
  .rw[if_pos d,n];have q:∀x∈l.take m,x<l[m]:=λx e=>by
    obtain ⟨j,hjm,c,rfl⟩:=p x e;have r:l[j]<=l[m - 1]:=a j (m - 1) c qO qO;have s:l[m - 1]<=l[m]:=a (m - 1) m qO qO qO;have h6:l[m]≠l[m - 1]:=by
     unfold Lib.keeps at d;rw[decide_eq_true_eq] at d;rcases d with h|h
     .omega
     .rw[n,getElem!_pos _ (m - 1) (by simp;omega)] at h;simpa using h
    omega
   refine ⟨?_,λx=>by rw[eC,eC,k x]⟩;rw[iN];exact ⟨u,qP,λx e y t=>by rw[dO] at t;subst t;exact q x ((k x).1 e)⟩
  .rw[if_neg d,gD];refine ⟨u,λx=>?_⟩;rw[k x,eC,dO];constructor
   .exact .inl
   .rintro (b|b)
    .exact b
    .have r:m≠0∧l.toArray[m]! = l.toArray[m - 1]!:=by
      unfold Lib.keeps at d;simp only[decide_eq_true_eq,not_or,Decidable.not_not] at d;exact d
     rw[n,getElem!_pos _ (m - 1) (by simp;omega)] at r;have s:l[m]=l[m - 1]:=by simpa using r.2
     rw[b,s];exact eS.2 ⟨m - 1,by rw[lZ,if_pos qO,dM qO]⟩
theorem MW (l:oB):(Lib.compact (l.mergeSort Ly)).Pairwise (· < ·)∧∀x,x∈Lib.compact (l.mergeSort Ly)↔x∈l:=by
 have hs:(l.mergeSort Ly).Pairwise (·<=·):=by
  have:=jH (le:=Ly) (λa b c h1 d=>by simp[Ly] at *;omega) (λa b=>by simp[Ly];omega) l;exact this.imp λh=>by simpa[Ly] using h
 have h:=O8 hs (l.mergeSort Ly).length (dU _);refine ⟨h.1,λx=>?_⟩;have d:=h.2 x;rw[eE,lX] at d;exact d
theorem Oo {l:oB} (hd:l.Nodup):(l.mergeSort Ly).Pairwise (· < ·):=by
 have d:(l.mergeSort Ly).Pairwise (λa b=>Ly a b=true):=jH (λa b c d e=>by simp[Ly] at *;omega) (λa b=>by simp[Ly];omega) l;have e:(l.mergeSort Ly).Nodup:=(kA l Ly).nodup_iff.2 hd;have f:=d.and e;exact f.imp fun {a b} ⟨g,h5⟩=>by simp[Ly] at g;omega
theorem CL {α:Type} {l:List α} {k:Nat} {x:α} (h:l[k]?=some x):l.take (k+1)=l.take k++[x]:=by rw[eK,h];rfl
def Uk (es:List (Int×Bool)) (i:Nat):Int:=((es[i]?).map (·.1)).getD 0
theorem UB {es:List (Int×Bool)} {seen:oC} (hd:seen.Nodup) (c:∀i∈seen,i<es.length) (d:∀i,i<es.length->i∈seen):(seen.map (Uk es)).Perm (es.map (·.1)):=by
 have a:=(Tl hd c d).map (Uk es);have b:(List.range es.length).map (Uk es)=es.map (·.1):=by
  apply fW;intro i;rw[eN,eN];by_cases hi:i<es.length
  .rw[List.getElem?_range hi,dM hi];simp[Uk,dM hi]
  .rw[eR (by simpa using hi),eR qO];rfl
 rw[b] at a;exact a
theorem Lw {κ ν:Type} [DecidableEq κ] {es:List (κ×ν)} {k q:κ} {v:ν}:q∈(C4 es k v).map (·.1)↔q=k∨q∈es.map (·.1):=by
 rw[<-Gn,JY];by_cases h:k=q
 .simp[h]
 .rw[if_neg h,Gn];simp[Ne.symm h]
theorem NZ:∀{p q:oB},p.Pairwise (· < ·)->q.Pairwise (· < ·)->(∀x,x∈p↔x∈q)->p=q
 | [],[],_,_,_=>rfl
 | [],y::q,_,_,h=>absurd ((h y).2 eJ) eY
 | x::p,[],_,_,h=>absurd ((h x).1 eJ) eY
 | x::p,y::q,hp,hq,h=>by
  have d:=fJ.1 hp;have c:=fJ.1 hq;have e:x=y:=by
   rcases dZ.1 ((h x).1 eJ) with a|a
   .exact a
   .rcases dZ.1 ((h y).2 eJ) with f|f
    .exact f.symm
    .have:=d.1 y f;have:=c.1 x a;omega
  subst e;rw[NZ d.2 c.2 λz=>?_];constructor
  .intro b;rcases dZ.1 ((h z).1 (eP _ b)) with a|a
   .subst a;have:=d.1 z b;omega
   .exact a
  .intro b;rcases dZ.1 ((h z).2 (eP _ b)) with a|a
   .subst a;have:=c.1 z b;omega
   .exact a
theorem Ph {κ ν:Type} [DecidableEq κ] (es:List (κ×ν)) (k:κ) (v:ν):(C4 es k v).length<=es.length+1∧es.length<=(C4 es k v).length:=by
 induction es with
 | nil=>simp[C4]
 | cons p r ih=>unfold C4;split<;>simp<;>omega
theorem XR (d:World) (base:Nat) (v:Value) (l:oB) (h:Wv d base v l) (f:l≠[]) (hl:l.length<=17592186044416) :
 Bj prog 65 #[v] d λr w=>r=.tuple #[]∧Bw w v (l.mergeSort Ly)∧Chg (λx=>v.ownBlock=some x) d w:=by
 obtain ⟨⟨a,c,rfl⟩,h⟩:=h;rcases h.2 with ⟨h1,o⟩|⟨g,cap,cur,k,hbg,m,i,hcm,hcs,htake⟩
 .exact absurd (eD o) f
 .simp only[Value.slice.injEq] at k;obtain ⟨rfl,_,rfl⟩:=k;have j:=ownI_holds h;have b:g<d.heap.size:=(fT.1 m).1;refine Calls.mono (Any.slices_Sort_int Tryz.sortI g 0 c l d j b qO) ?_;rintro e w' ⟨rfl,n,os,rfl⟩;refine ⟨_,O,O,?_,(Hy _ d g 0 n _ os).mono λx _ q=>by subst q;rfl⟩;have p:Sort.Holds (Value.int .i64) (grow (putRow (Value.int .i64) (Sort.ahead d n) g 0 (l.mergeSort λx y=>decide (x<=y)).toArray) os) g 0 (l.mergeSort λx y=>decide (x<=y)).toArray:=
   holds_grow _ _ os g 0 _ (by simpa[putRow,mapBlock,Sort.ahead] using b) (holds_putRow _ (Sort.ahead d n) g 0 l.toArray _ j qP)
  exact ME (l:=l.mergeSort Ly) p qP i qO
theorem Q7 (a:World) (base:Nat) (v:Value) (l:oB) (h:Wv a base v l) (b:l≠[]) (d:l.length<=17592186044416) :
 Bj prog 80 #[v] a λr w=>r=.tuple #[]∧Bw w v (l.mergeSort Ly)∧Chg (λx=>v.ownBlock=some x) a w:=by
 refine Ew func80 O ntmps80 (RV O) ?_;have E:Chg (λx=>v.ownBlock=some x) a a:=Chg.refl _ _;refine AN (qM v O (qE O (AS func65 kQ kQ O) (XR _ base v l h b d) ?_));rintro _ w9 ⟨rfl,e,f⟩;have E:=E.step f (λx hx c=>c);refine AB (GU results80 ?_);exact ⟨O,e,E⟩
def IC (l:oF) (k:Int):Prop:=k=0∨∃s∈l,k=s.1∨(s.2<1114111∧k=s.2+1)
def KP (es:List (Int×Bool)) (l:oF):Prop:=Ge es∧∀k,k∈es.map (·.1)↔IC l k
theorem KP.start:KP (C4 [] 0 true) []:=by
 refine ⟨Ge.nil.put _ _,λk=>?_⟩;simp[C4,IC]
theorem KP.lo {es:List (Int×Bool)} {l:oF} (h:KP es l) (s:Sp) (hs:¬s.2<1114111):KP (C4 es s.1 true) (l++[s]):=by
 refine ⟨h.1.put _ _,λk=>?_⟩;rw[Lw,h.2 k];unfold IC;constructor
 .rintro (a|a|⟨t,b,a⟩)
  .exact .inr ⟨s,qP,.inl a⟩
  .exact .inl a
  .exact .inr ⟨t,by simp[b],a⟩
 .rintro (a|⟨t,b,a⟩)
  .exact .inr (.inl a)
  .rcases eC.1 b with b|b
   .exact .inr (.inr ⟨t,b,a⟩)
   .rw[dO] at b;subst b;rcases a with a|⟨a,_⟩
    .exact .inl a
    .exact absurd a hs
theorem KP.both {es:List (Int×Bool)} {l:oF} (h:KP es l) (s:Sp) (hs:s.2<1114111):KP (C4 (C4 es s.1 true) (s.2+1) true) (l++[s]):=by
 refine ⟨(h.1.put _ _).put _ _,λk=>?_⟩;rw[Lw,Lw,h.2 k];unfold IC;constructor
 .rintro (a|a|a|⟨t,b,a⟩)
  .exact .inr ⟨s,qP,.inr ⟨hs,a⟩⟩
  .exact .inr ⟨s,qP,.inl a⟩
  .exact .inl a
  .exact .inr ⟨t,by simp[b],a⟩
 .rintro (a|⟨t,b,a⟩)
  .exact .inr (.inr (.inl a))
  .rcases eC.1 b with b|b
   .exact .inr (.inr (.inr ⟨t,b,a⟩))
   .rw[dO] at b;subst b;rcases a with a|⟨_,a⟩
    .exact .inr (.inl a)
    .exact .inl a
def Dx (l:oF) (p:oB):Prop:=p.Pairwise (· < ·)∧∀k,k∈p↔IC l k
theorem Ls (w0:World) (v:Value) (ll:nZ) (h:C0 w0 v ll) (hl:ll.flatten.length≤8796093022200) (hok:∀s∈ll.flatten,EA s) :
  Bj prog 35 #[v] w0 λr w=>(∃p,Dx ll.flatten p∧(∃a c,r=.slice a p.length c)∧Bw w r p)∧Ah w0 w:=by
 obtain ⟨a,c,rfl,_,hle⟩:=h.form;obtain ⟨base,av⟩:∃base,base=w0.heap.size:=⟨_,rfl⟩;refine qR func35 rfl ntmps35 rfl (λE=>(AA (qA _ rfl (AB (AA (G9 Eh S0 qD ?_))))));intro bm wm Nm;have Fm:=Nm.ge E;have E:=E.ext Nm.ext;intro Mm;refine VB (k:=0) (v:=true) mE (L7 fY) Mm rfl rfl rfl ?_;intro w1 S1 H1;have E:=S1.step E (by first|exact dH qO|assumption|exact dG rfl|exact dG (by assumption)|exact dG qP|exact dG qO|exact dG (by dsimp only;omega));have Mm:=H1;refine qM _ rfl (qA _ rfl (AB (AH (AA (qM _ rfl (qV (AT eH rfl) (qM _ rfl (AB (AW (Ax (λnn_ σ W2=>∃(k:Nat) (es:List (Int×Bool)),(∃jj_,σ=BW jj_ [(3,(.map (some bm))),(12,(.slice a ll.length c)),(13,(I6 (ll.length:Int))),(14,(I6 (k:Int)))])∧Chg Aj w0 W2∧Bl W2 bm Eh S0 es∧(k≤ll.length)∧(KP es (ll.take k).flatten)∧(es.length≤1+2*(ll.take k).flatten.length)∧nn_=ll.length - k) (n:=ll.length - 0) ?_ ?_))))))))))
 ·exact ⟨0,C4 [] 0 true,oH,E,Mm,dR _,KP.start,(by simp[C4]),rfl⟩
 ·clear E Mm;rintro _ _ W2 ⟨k,es,⟨j2,rfl⟩,E,Mm,hk,al,a9,rfl⟩;refine AA (qV (A6 rfl rfl) (AB (AH (qC rfl (λa1=>?_) (λa1=>?_)))))
  ·obtain ⟨l,hx⟩:=AU (l:=ll) (i:=k) qO;obtain ⟨b,o,bc,a5⟩:=CD h qO;subst bc;obtain ⟨ra,rc,aj,ax⟩:=a5 k l hx;have ak:=IS hx;have hll:l.length≤9223372036854775807:=by simpa using BX.le ax
   refine AM (AC (AH (AW (AA (qV (AL (b:=b) (o:=o) (len:=ll.length) (cap:=c) (i:=k) (o':=o+k) rfl rfl rfl eH Bc qO qO) (qV (AJ rfl Bf (E.cell (λf=>f) aj)) (qA _ rfl (AB (AA (qM _ rfl (qV (AT dS rfl) (qM _ rfl (AB (AW (Ax (λnn_ σ W4=>∃(i:Nat) (ae:List (Int×Bool)),(∃jj_,σ=BW jj_ [(3,(.map (some bm))),(12,(.slice (oI b o) ll.length c)),(13,(I6 (ll.length:Int))),(14,(I6 (k:Int))),(18,(.slice ra l.length rc)),(19,(I6 (l.length:Int))),(20,(I6 (i:Int)))])∧Chg Aj w0 W4∧Bl W4 bm Eh S0 ae∧(i≤l.length)∧(KP ae ((ll.take k).flatten++l.take i))∧(ae.length≤1+2*(ll.take k).flatten.length+2*i)∧nn_=l.length - i) (n:=l.length - 0) ?_ ?_)))))))))))))))
   ·exact ⟨0,es,oH,E,Mm,dR _,(by simpa using al),qO,rfl⟩
   ·clear E Mm;rintro _ _ W4 ⟨i,ae,⟨j4,rfl⟩,E,Mm,hi,ad,ba,rfl⟩;refine AA (qV (A6 rfl rfl) (AB (AH (qC rfl (λao=>?_) (λao=>?_)))))
    ·obtain ⟨s,hs⟩:=AU (l:=l) (i:=i) qO;obtain ⟨rb,ro,ap,be⟩:=BR ax qO;subst ap;have az:=CL hs;have hq1:=Ph ae s.1 true;have hv:EA s:=hok s (iA.2 ⟨l,dK hx,dK hs⟩);unfold EA at hv;refine AM (AC (AH (AW (AA (qV (AL (b:=rb) (o:=ro) (len:=l.length) (cap:=rc) (i:=i) (o':=ro+i*2) rfl rfl rfl dS BL qO qO) (qV (AI rfl Dw BL rfl ((be i s hs).ext E)) (As (v:=(.agg #[(I6 s.1),(I6 s.2)])) (c:=#[(I6 s.1),(I6 s.2)]) (n:=2) qD Df rfl BL rfl rfl rfl qS ?_)))))));intro b6 w6 N6;have F6:=N6.ge E;have O6_bm:=N6.ltM Mm;have Mm:=N6.keepM Mm;have E:=E.ext N6.ext;have B6:=N6.blk;refine AB (AA (qM _ rfl (qF b6 0 0 rfl eM rfl Al rfl (qV (AJ rfl Ag (B6.cell rfl)) (Ea (k:=s.1) (v:=true) mE (L7 fY) Mm rfl rfl rfl ?_)))));intro w7 S7 H7;have B6:=S7.keep qO B6;have E:=S7.step E (by first|exact dH qO|assumption|exact dG rfl|exact dG (by assumption)|exact dG qP|exact dG qO|exact dG (by dsimp only;omega));have Mm:=H7;refine AB (AA (qF b6 0 1 rfl eM rfl Al rfl (qV (AJ rfl Ag (B6.cell rfl)) (qV (A6 rfl rfl) (AB (qC rfl (λhM=>?_) (λhM=>?_)))))))
     ·have hq2:=Ph (C4 ae s.1 true) (s.2+1) true;refine AN (qM _ rfl (qF b6 0 1 rfl eM rfl Al rfl (qV (AJ rfl Ag (B6.cell rfl)) (qV (A0 rfl rfl (A8 qO)) (Ea (k:=(s.2+1)) (v:=true) mE (L7 fY) Mm rfl rfl rfl ?_)))));intro w9 S9 H9;have B6:=S9.keep qO B6;have E:=S9.step E (by first|exact dH qO|assumption|exact dG rfl|exact dG (by assumption)|exact dG qP|exact dG qO|exact dG (by dsimp only;omega));have Mm:=H9;refine AB (AV (AC (AN (qV (A0 rfl rfl (A8 qO)) (qM _ rfl (AB (AC ?_)))))));exact ⟨l.length - (i+1),qO,i+1,C4 (C4 ae s.1 true) (s.2+1) true,oH,E,Mm,qO,(by rw[az,←eW];exact ad.both s hM),qO,rfl⟩
     ·refine AM (AV (AC (AN (qV (A0 rfl rfl (A8 qO)) (qM _ rfl (AB (AC ?_)))))));exact ⟨l.length - (i+1),qO,i+1,C4 ae s.1 true,oH,E,Mm,qO,(by rw[az,←eW];exact ad.lo s hM),qO,rfl⟩
    ·have a2:i=l.length:=qO
     rw[a2,eE,←ak] at ad;refine Av (AZ (AZ (Ao (AV (AC (AN (qV (A0 rfl rfl (A8 qO)) (qM _ rfl (AB (AC ?_))))))))));exact ⟨ll.length - (k+1),qO,k+1,ae,oH,E,Mm,qO,ad,(by rw[ak,dN];omega),rfl⟩
  ·have bd:k=ll.length:=qO
   rw[bd,eE] at al a9;have a8:=E.size;refine Av (AZ (AZ (Ao (AC (AA (qA _ rfl (AB (AH (AA (qM _ rfl (Sc qD mE Mm rfl ?_)))))))))));intro br wr Nr;have Fr:=Nr.ge E;have Or_bm:=Nr.ltM Mm;have Mm:=Nr.keepM Mm;have E:=E.ext Nr.ext;have Ir:Cj wr br bm es.length []:=Nr.at';refine AB (AW ?_);have hwr:=Nr.size;have hbr:br<wr.heap.size:=Ir.lt;refine Ax (λnn_ σ af=>∃(aa:oC) (la:oE) (lc:Nat) (n:Nat),(∃jj_,σ=BW jj_ [(37,(P6 br 0)),(8,(.slice la n lc))])∧Chg Aj w0 af∧Bl af bm Eh S0 es∧Cj af br bm es.length aa∧(aa.Nodup)∧(∀j∈aa,j<es.length)∧(n=aa.length)∧(af.ownsRow wr.heap.size Qt 1 (.slice la n lc) n ((aa.map (Uk es)).map (Value.int .i64)))∧(wr.heap.size≤af.heap.size)∧nn_=es.length - aa.length) (n:=es.length - ([]:oC).length) ?_ ?_
   ·exact ⟨([]:oC),none,0,0,oH,E,Mm,Ir,g_,(λj hj=>absurd hj eY),rfl,World.ownsRow_nil _ _ _ _,dU _,rfl⟩
   ·clear E Mm Ir;rintro _ _ af ⟨aa,la,lc,n,⟨j10,rfl⟩,E,Mm,Ir,ar,aq,hn,ab,ag,rfl⟩;refine AA (VA qD Mm Ir rfl (λau=>?_) ?_)
    ·skip
     have ac:=UB (es:=es) ar aq au;have bg:(aa.map (Uk es)).Nodup:=ac.nodup_iff.2 al.1;have hO:Wv af wr.heap.size (.slice la n lc) (aa.map (Uk es)):=⟨⟨la,lc,by simp[hn]⟩,by simpa[hn] using ab⟩;have ay:(0:Int)∈aa.map (Uk es):=ac.mem_iff.2 ((al.2 0).2 (.inl rfl));have hsn:=Ld ar aq;refine qV (BA rfl rfl) (AB (AH (Ae rfl (Av (AZ (AZ (Ao (AC (AA (qM _ rfl (qE rfl (AS func80 kQ kQ rfl) (Q7 _ wr.heap.size (.slice la n lc) _ hO (λh9=>by rw[h9] at ay;cases ay) (by simp;omega)) ?_)))))))))));rintro _ w19 ⟨rfl,bb,a6⟩;have E:=E.step a6 (λx hx hy=>absurd (ab.lt x hy).1 qO);refine AB (AA (qM _ rfl (qA _ rfl (AB (AO (AY results35 (v:=(.slice la n lc)) rfl (⟨⟨(aa.map (Uk es)).mergeSort Ly,⟨Oo bg,λq=>?_⟩,⟨la,lc,by simp[hn]⟩,bb⟩,E⟩)))))));rw[lX,ac.mem_iff];exact al.2 q
    ·intro i p bf hp a4 ah;have ab:=CH ab ah.chg (λx hx h9=>by have:=(ab.lt x hx).1;omega);have ag:=dL ag (lM ah.size.symm);have Mm:=ah.keepM qO Mm;have E:=ah.step E (by first|exact dH qO|assumption|exact dG rfl|exact dG qO);have Ir:Cj bf br bm es.length (aa++[i]):=ah.at';have am:(aa++[i]).Nodup:=gN.2 ⟨ar,qP,λx hx z hz=>by simp at hz;subst hz;exact λh9=>a4 (h9▸hx)⟩;have ai:∀j∈aa++[i],j<es.length:=λj hj=>by rcases eC.1 hj with h9|h9;exact aq j h9;rw[dO] at h9;subst h9;exact AX hp
     have hl2:=Ld am ai;have bh:(aa++[i]).length=aa.length+1:=qP
     have a0:Uk es i=p.1:=by unfold Uk;rw[hp];rfl
     refine qV (BA rfl rfl) (AB (AH (Aq rfl (AM (AC (AW (AA (CM (v:=(.tuple #[(I6 p.1),(.bool p.2)])) rfl rfl qD (Sk Mm Ir hp rfl) (qV (BA rfl rfl) (qA _ rfl (AB (AN (qM _ rfl (qM _ rfl (Aw (ps:=[(0,(I6 p.1))]) (c:=#[(I6 p.1)]) qD rfl eA Al Ex qD qD qK ?_)))))))))))))));intro bq wq Nq;have Fq:=Nq.ge E;have Oq_bm:=Nq.ltM Mm;have Oq_br:=New.ltI Ir Nq;have Mm:=Nq.keepM Mm;have Ir:=New.keepI Ir Nq;have ab:=Az ab Nq.ext;have ag:=dL ag Nq.ext.size;have E:=E.ext Nq.ext;have Bq:=Nq.blk;refine BQ (base:=wr.heap.size) (n:=n) (m:=1) (xs:=(aa.map (Uk es)).map (Value.int .i64)) (news:=[(I6 p.1)]) (size:=1) (bytes:=8) (v:=(.slice la n lc)) qD eA Al PA Ex rfl qD rfl ab rfl (rfl) (Bq.cells rfl) qS (by unfold maxLen;omega) qO (ag) ?_;intro v9 w29 aw an Dv9;have Mm:=an.keepM (λh=>by have:=(ab.lt _ h).1;omega) Mm;have Ir:=Chg.keepI Ir an (λh=>by have:=(ab.lt _ h).1;omega);have E:=E.step an (λx hx h=>absurd (ab.lt x h).1 qO);obtain ⟨a7,a3,rfl⟩:=BB aw;refine qA _ rfl (AB (AV (AC ?_)));exact ⟨es.length - (aa++[i]).length,qO,aa++[i],a7,a3,n+1,oH,E,Mm,Ir,am,ai,(by rw[bh,hn]),(by rw[eT,eT,List.map_singleton,List.map_singleton,a0];exact aw),dL ag an.size,rfl⟩
end Go.Proofs
namespace Go.Proofs
open Go Go.Eng
set_option maxRecDepth 100000
theorem YK (s:Int×Int) (m:World) :
 Bj prog 79 #[.agg #[I6 s.1,I6 s.2]] m λv w=>v=.bool (Dz s)∧Ah m w:=by
 refine qR func79 O ntmps79 O (λE=>(AA (BC (v:=(.agg #[(I6 s.1),(I6 s.2)])) (c:=#[(I6 s.1),(I6 s.2)]) qD O O ?_)));intro j w1 o;have E:=E.ext o.ext;have k:=o.blk;refine qA _ O (AB (AA (qF j 0 0 O eM O Al O (qV (AJ O Ag (k.cell O)) ?_))));obtain ⟨a,h⟩:∃e,(decide ((0:Int)<=s.1))=e:=⟨_,O⟩;refine qV ((ER O O).trans (by rw[h];try rfl)) (qM _ O (qG (.bool a) (yU a (P6 j 0)) (by cases a<;>first|exact gA|exact gB|exact .inl ⟨O,AQ O eM O Al O⟩) (qG (.bool a) (yU a (I6 s.1)) (by cases a<;>first|exact gA|exact gB|exact .inl ⟨O,AJ O Ag (k.cell O)⟩) (qG (.bool a) (yU a (P6 j 1)) (by cases a<;>first|exact gA|exact gB|exact .inl ⟨O,AQ O eM O Al O⟩) (qG (.bool a) (yU a (I6 s.2)) (by cases a<;>first|exact gA|exact gB|exact .inl ⟨O,AJ O Ag (k.cell O)⟩) ?_)))));obtain ⟨n,g⟩:∃e,(decide ((s.1:Int)<=s.2))=e:=⟨_,O⟩;refine qG (.bool a) (yU a (.bool n)) (by cases a<;>first|exact gA|exact gB|exact .inl ⟨O,(ER O O).trans (by rw[g];try rfl)⟩) ?_;obtain ⟨b,f⟩:∃e,(a && n)=e:=⟨_,O⟩;refine qV (Af (v:=.bool b) O (by rw[<-f];cases a<;>rfl)) (qM _ O (qG (.bool b) (yU b (P6 j 1)) (by cases b<;>first|exact gA|exact gB|exact .inl ⟨O,AQ O eM O Al O⟩) (qG (.bool b) (yU b (I6 s.2)) (by cases b<;>first|exact gA|exact gB|exact .inl ⟨O,AJ O Ag (k.cell O)⟩) ?_)));obtain ⟨l,i⟩:∃e,(decide ((s.2:Int)<=1114111))=e:=⟨_,O⟩;refine qG (.bool b) (yU b (.bool l)) (by cases b<;>first|exact gA|exact gB|exact .inl ⟨O,(ER O O).trans (by rw[i];try rfl)⟩) ?_;obtain ⟨p,d⟩:∃e,(b && l)=e:=⟨_,O⟩;refine qV (Af (v:=.bool p) O (by rw[<-d];cases b<;>rfl)) (qA _ O (AB ?_));subst d;subst i;subst f;subst g;subst h;refine AO (AY results79 (v:=(.bool (((decide ((0:Int)<=s.1)) && (decide ((s.1:Int)<=s.2))) && (decide ((s.2:Int)<=1114111))))) O ?_);exact ⟨A' (by unfold Dz;rfl),E⟩
theorem YP:∀(l:List (Int×Int)),DW none l=DW (some (-2)) (l.drop 0)
 | []=>rfl
 | s::r=>by
  simp only[List.drop];rw[Ci,Ci];by_cases a:Dz s=false
  .rw[if_pos a,if_pos a]
  .rw[if_neg a,if_neg a];have:¬s.1<0:=by simp[Dz] at a;omega
   simp[this]
theorem O7 (h:World) (v:Value) (l:List (Int×Int)) (hs:BP h v l) :
 Bj prog 34 #[v] h λv w=>v=I6 (BJ l)∧Ah h w:=by
 obtain ⟨a,c,rfl⟩:=BX.form hs;simp only[dW] at hs⊢;refine qR func34 O ntmps34 O (λE=>(AA (qA _ O (AB (AH (AA (qM _ O (qV (AT dS O) (qV (CN O O) (AB (qC O (λm=>?_) (λm=>?_))))))))))))
 .refine AA (qA _ O (AB (AO (AK (AY results34 (v:=(I6 2)) O ?_)))));exact ⟨BI (by unfold BJ;rw[if_pos qO]),E⟩
 .have e:BJ l=DW none l:=by unfold BJ;rw[if_neg qO]
  rw[e];refine AM (AC (AA (qA _ O (AB (AH (AA (qM _ O (qV (AT dS O) (qM _ O (AB (AW (Ax (λnn_ σ x=>∃(k:Nat) (p:Int),(∃jj_,σ=BW jj_ [(9,(.slice a l.length c)),(10,(I6 (l.length:Int))),(11,(I6 (k:Int))),(3,(I6 p))])∧Chg Aj h x∧(k<=l.length)∧(-2<=p∧p<=1114111∧(DW none l=DW (some p) (l.drop k)))∧nn_=l.length - k) (n:=l.length - 0) ?_ ?_))))))))))))
  .exact ⟨0,-2,oH,E,dR _,⟨qO,qO,YP l⟩,O⟩
  .clear E;rintro _ _ x ⟨k,p,⟨j2,rfl⟩,E,hk,g,rfl⟩;refine AA (qV (A6 O O) (AB (AH (qC O (λj=>?_) (λj=>?_)))))
   .obtain ⟨s,z⟩:=AU (l:=l) (i:=k) qO;obtain ⟨b,o,rfl,t⟩:=BR hs qO;have hd:=Bi z;refine AM (AC (AH (AW (AA (qV (AL (b:=b) (o:=o) (len:=l.length) (cap:=c) (i:=k) (o':=o+k*2) O O O dS BL qO qO) (qV (AI O Dw BL O ((t k s z).ext E)) (As (v:=(.agg #[(I6 s.1),(I6 s.2)])) (c:=#[(I6 s.1),(I6 s.2)]) (n:=2) qD Df O BL O O O qS ?_)))))));intro A w4 y;have f:=y.blk;refine AB (AH (AA (qV (AI (vs:=[(I6 s.1),(I6 s.2)]) O Dw BL O (f.cells O)) (qE O (AS func79 kQ kQ O) (YK s _) ?_))));rintro _ w9 ⟨rfl,B⟩;have f:=B.keep f;have E:=(E.ext y.ext).ext B;refine qV (C1 O) (AB (A4 O (λd=>?_) (λd=>?_)))
    .have r:=d;have d:=by simpa using d
     refine AA (qA _ O (AB (AO (AK (Ac (AK (AK (Ac (AK (AY results34 (v:=(I6 1)) O ?_))))))))));exact ⟨BI (by rw[g.2.2,hd,Ci,if_pos d]),E⟩
    .have r:=d;have d:=by simpa using d
     have hv2:0<=s.1∧s.1<=s.2∧s.2<=1114111:=by simp[Dz] at d;omega
     refine AM (AC (AH (AA (qF A 0 0 O eM O Al O (qV (AJ O Ag (f.cell O)) (qM _ O (qV (A0 O O (A8 qO)) (qV (A6 O O) (AB (qC O (λu=>?_) (λu=>?_)))))))))))
     .refine AA (qA _ O (AB (AO (AK (Ac (AK (AK (Ac (AK (AY results34 (v:=(I6 3)) O ?_))))))))));exact ⟨BI (by rw[g.2.2,hd,Ci,if_neg (by simp[d]),if_pos (by simpa using u)]),E⟩
     .refine AM (AC (AN (qF A 0 1 O eM O Al O (qV (AJ O Ag (f.cell O)) (qA _ O (AB (AV (AC (AN (qV (A0 O O (A8 qO)) (qM _ O (AB (AC ?_)))))))))))));exact ⟨l.length - (k+1),qO,k+1,s.2,oH,E,qO,⟨qO,qO,by rw[g.2.2,hd,Ci,if_neg (by simp[d]),if_neg (by simpa using u)]⟩,O⟩
   .have q:l.drop k=[]:=fR qO;refine Av (AZ (AZ (Ao (AC (AA (qA _ O (AB (AO (AY results34 (v:=(I6 0)) O ?_)))))))));exact ⟨BI (by rw[g.2.2,q];rfl),E⟩
theorem JV (m:World) (v:Value) (l:List (Int×Int)) (r:Int) (hs:BP m v l) :
 Bj prog 36 #[v,I6 r] m λv w=>v=.bool (Ca l r)∧Ah m w:=by
 obtain ⟨a,c,rfl⟩:=BX.form hs;have hle:l.length<=9223372036854775807:=by simpa using BX.le hs
 simp only[dW] at hs⊢;refine qR func36 O ntmps36 O (λE=>(AA (qA _ O (AB (AH (AA (qM _ O (qV (AT dS O) (qM _ O (AB (AW (Ax (λnn_ σ y=>∃(k:Nat),(∃jj_,σ=BW jj_ [(1,(I6 r)),(7,(.slice a l.length c)),(8,(I6 (l.length:Int))),(9,(I6 (k:Int)))])∧Chg Aj m y∧(k<=l.length)∧(Ca l r=Ca (l.drop k) r)∧nn_=l.length - k) (n:=l.length - 0) ?_ ?_))))))))))))
 .exact ⟨0,oH,E,dR _,O,O⟩
 .clear E;rintro _ _ y ⟨k,⟨j1,rfl⟩,E,hk,q,rfl⟩;refine AA (qV (A6 O O) (AB (AH (qC O (λp=>?_) (λp=>?_)))))
  .obtain ⟨s,z⟩:=AU (l:=l) (i:=k) qO;obtain ⟨b,o,rfl,x⟩:=BR hs qO;have hd:=Bi z;refine AM (AC (AH (AW (AA (qV (AL (b:=b) (o:=o) (len:=l.length) (cap:=c) (i:=k) (o':=o+k*2) O O O dS BL qO qO) (qV (AI O Dw BL O ((x k s z).ext E)) (As (v:=(.agg #[(I6 s.1),(I6 s.2)])) (c:=#[(I6 s.1),(I6 s.2)]) (n:=2) qD Df O BL O O O qS ?_)))))));intro b3 w3 A;have E:=E.ext A.ext;have C:=A.blk;refine AB (AA (qF b3 0 0 O eM O Al O (qV (AJ O Ag (C.cell O)) (qM _ O ?_))));obtain ⟨d,g⟩:∃e,(decide ((s.1:Int)<=r))=e:=⟨_,O⟩;refine qV ((ER O O).trans (by rw[g];try rfl)) (qM _ O (qG (.bool d) (yU d (I6 r)) (by cases d<;>first|exact gA|exact gB|exact .inl ⟨O,Am O⟩) (qG (.bool d) (yU d (P6 b3 1)) (by cases d<;>first|exact gA|exact gB|exact .inl ⟨O,AQ O eM O Al O⟩) (qG (.bool d) (yU d (I6 s.2)) (by cases d<;>first|exact gA|exact gB|exact .inl ⟨O,AJ O Ag (C.cell O)⟩) ?_))));obtain ⟨B,j⟩:∃e,(decide ((r:Int)<=s.2))=e:=⟨_,O⟩;refine qG (.bool d) (yU d (.bool B)) (by cases d<;>first|exact gA|exact gB|exact .inl ⟨O,(ER O O).trans (by rw[j];try rfl)⟩) ?_;obtain ⟨D,f⟩:∃e,(d && B)=e:=⟨_,O⟩;refine qV (Af (v:=.bool D) O (by rw[<-f];cases d<;>rfl)) (AB ?_);subst f;subst j;subst g;refine A4 O (λh=>?_) (λh=>?_)
   .have u:=h;refine AA (qA _ O (AB (AO (Ac (AK (AK (Ac (AK (AY results36 (v:=(.bool true)) O ?_)))))))));exact ⟨A' (by rw[q,hd];unfold Ca;rw[kX,h];rfl),E⟩
   .have u:=h;refine AM (AV (AC (AN (qV (A0 O O (A8 qO)) (qM _ O (AB (AC ?_)))))));exact ⟨l.length - (k+1),qO,k+1,oH,E,qO,(by rw[q,hd];unfold Ca;rw[kX,h];rfl),O⟩
  .have t:l.drop k=[]:=fR qO;refine Av (AZ (AZ (Ao (AC (AA (qA _ O (AB (AO (AY results36 (v:=(.bool false)) O ?_)))))))));exact ⟨A' (by rw[q,t];rfl),E⟩
theorem Sf (j:World) (D G:Value) (c d:List (Int×Int)) (m:BP j D c) (u:BP j G d) :
 Bj prog 40 #[D,G] j λv w=>v=.bool (decide (c=d))∧Ah j w:=by
 obtain ⟨M,H,rfl⟩:=BX.form m;obtain ⟨K,C,rfl⟩:=BX.form u;have hb1:c.length<=9223372036854775807:=by simpa using BX.le m
 simp only[dW] at m u⊢;refine qR func40 O ntmps40 O (λE=>(AA (qA _ O (AB (AH (AA (qM _ O (qV (AT dS O) (qM _ O (qV (AT dS O) (qV (Bb O O) (AB (qC O (λx=>?_) (λx=>?_))))))))))))))
 .refine AA (qA _ O (AB (AO (AK (AY results40 (v:=(.bool false)) O ?_)))));exact ⟨A' (by symm;rw[decide_eq_false_iff_not];intro h;rw[h] at x;exact x O),E⟩
 .refine AM (AC (AH (AA (qM _ O (qV (AT dS O) (qM _ O (AB (AW (Ax (λnn_ σ A=>∃(k:Nat),(∃jj_,σ=BW jj_ [(0,(.slice M c.length H)),(1,(.slice K d.length C)),(12,(I6 (c.length:Int))),(13,(I6 (k:Int)))])∧Chg Aj j A∧(k<=c.length)∧(∀(i:Nat),i<k->c[i]?=d[i]?)∧nn_=c.length - k) (n:=c.length - 0) ?_ ?_)))))))))
  .exact ⟨0,oH,E,dR _,(λi h=>absurd h (fU _)),O⟩
  .clear E;rintro _ _ A ⟨k,⟨j2,rfl⟩,E,hk,f,rfl⟩;refine AA (qV (A6 O O) (AB (AH (qC O (λs=>?_) (λs=>?_)))))
   .obtain ⟨p,t⟩:=AU (l:=c) (i:=k) qO;obtain ⟨q,r⟩:=AU (l:=d) (i:=k) qO;obtain ⟨J,F,rfl,z⟩:=BR m qO;obtain ⟨L,B,rfl,y⟩:=BR u qO;refine AM (AC (AH (AW (AA (qM _ O (qA _ O (AB (Eg 8 mixed qK ?_))))))));intro w4 I _;have E:=E.ext I;refine qT (Am O) (qT (Am O) (qT (AL (b:=J) (o:=F) (len:=c.length) (cap:=H) (i:=k) (o':=F+k*2) O O O dS BL qO qO) (qT (AI O Dw BL O ((z k p t).ext E)) (qT (Am O) (qT (Am O) (qT (AL (b:=L) (o:=B) (len:=d.length) (cap:=C) (i:=k) (o':=B+k*2) O O O dS BL qO qO) (qT (AI O Dw BL O ((y k q r).ext E)) (Gc (CM (v:=(.bool (!(decide (p.1=q.1) && decide (p.2=q.2))))) O O qD (NQ NG eM qD qD O O O O fY Ag TI O O) (AB (A4 O (λa=>?_) (λa=>?_))))))))))))
    .have e:=a;have a:=by simpa using a
     refine AA (qA _ O (AB (AO (Ac (AK (AK (Ac (AK (AY results40 (v:=(.bool false)) O ?_)))))))));exact ⟨A' (by symm;rw[decide_eq_false_iff_not];intro h;subst h;rw[t] at r;cases r;simp at a),E⟩
    .have e:=a;have a:=by simpa using a
     have g:p=q:=by obtain ⟨p1,p2⟩:=p;obtain ⟨q1,q2⟩:=q;simp at a;simp;exact a
     refine AM (AV (AC (AN (qV (A0 O O (A8 qO)) (qM _ O (AB (AC ?_)))))));exact ⟨c.length - (k+1),qO,k+1,oH,E,qO,(λi hi=>by rcases eI i k with h|h;exact f i h;obtain rfl:i=k:=qO;rw[t,r,g]),O⟩
   .have hkk:k=c.length:=qO
    refine Av (AZ (AZ (Ao (AC (AA (qA _ O (AB (AO (AY results40 (v:=(.bool true)) O ?_)))))))));exact ⟨A' (by symm;rw[decide_eq_true_eq];exact JX qO (λi hi=>f i qO)),E⟩
end Go.Proofs
namespace Go.Proofs
open Go Go.Eng Go.Sort
set_option maxRecDepth 100000
def nx (p:oB) (k:Nat):Int:=(p[k]?).getD 1114112
def It (f:Int->Bool) (p:oB):Prop:=∀a r,a∈p->a<=r->r<=1114111->(∀k∈p,k<=a∨r<k)->f r=f a
structure CInv (p:oB) (f:Int->Bool) (ou:oF) (k:Nat):Prop where
 can:Canon ou
 low:∀s∈ou,s.2<nx p k
 mem:∀r,0<=r->r<nx p k->Ca ou r=f r
theorem Cn {l:oF} {p:oB} (h:Dx l p) (a:∀s∈l,EA s) {k:Int} (c:k∈p):0<=k∧k<=1114111:=by
 rcases (h.2 k).1 c with b|⟨s,hs,b⟩
 .omega
 .have:=a s hs;unfold EA at this;omega
theorem Om {p:oB} (h:p.Pairwise (· < ·)) {k:Nat} {x:Int} (a:p[k]?=some x) (hb:∀q∈p,q<=1114111):x<nx p (k+1):=by
 unfold nx;cases hy:p[k+1]? with
 | none=>have:=hb x (dK a);simp;omega
 | some y=>
  have b:=AX hy;have h2:=fB.1 h k (k+1) qO b qO;rw[dM qO] at a hy;simp at a hy;simp;omega
theorem RO {p:oB} (h:p.Pairwise (· < ·)) {k:Nat} {x r:Int} (d:p[k]?=some x) (g:r<nx p (k+1)):∀q∈p,q<=x∨r<q:=by
 intro q i;obtain ⟨j,f⟩:=eS.1 i;have a:=AX f;have b:=AX d;rw[dM a] at f;rw[dM b] at d;simp at f d;rcases jN j k with c|c|c
 .have:=fB.1 h j k a b c;omega
 .subst c;omega
 .right;unfold nx at g;rw[dM (show k+1<p.length by omega)] at g;simp at g;rcases Nat.eq_or_lt_of_le (show k+1<=j by omega) with e|e
  .subst e;omega
  .have:=fB.1 h (k+1) j qO a e;omega
theorem KA {l:oF} {p:oB} (h:Dx l p) (a:∀s∈l,EA s):nx p 0=0:=by
 have b:(0:Int)∈p:=(h.2 0).2 (.inl O);cases p with
 | nil=>cases b
 | cons x r=>
  unfold nx;simp;rcases dZ.1 b with c|c
  .omega
  .have h2:=(fJ.1 h.1).1 0 c;have h3:=Cn h a (k:=x) eJ;omega
theorem CInv.start {l:oF} {p:oB} {f:Int->Bool} (h:Dx l p) (a:∀s∈l,EA s):CInv p f [] 0:=
 ⟨Canon.nil,λ_ h=>absurd h eY,λr h0 b=>by rw[KA h a] at b;omega⟩
theorem CInv.same {l:oF} {p:oB} {f:Int->Bool} (h:Dx l p) (b:∀s∈l,EA s) (d:It f p) {k:Nat} {lo r:Int} (a:p[k]?=some lo) (e:lo<=r) (c:r<nx p (k+1)):f r=f lo:=by
 have hb:nx p (k+1)<=1114112:=by
  unfold nx;cases hy:p[k+1]? with
  | none=>simp
  | some y=>have:=Cn h b (dK hy);simp;omega
 exact d lo r (dK a) e qO (RO h.1 a c)
theorem Pz {p:oB} {k:Nat} {x:Int} (h:p[k]?=some x):nx p k=x:=by unfold nx;rw[h];rfl
theorem CInv.high {p:oB} {f:Int->Bool} {a:oF} {k:Nat} (h:CInv p f a k) {r:Int} (hr:nx p k<=r):Ca a r=false:=by
 cases e:Ca a r with
 | false=>rfl
 | true=>obtain ⟨s,hs,_,h2⟩:=Eu.1 e;have:=h.low s hs;omega
theorem CInv.skip {l:oF} {p:oB} {f:Int->Bool} {e:oF} {k:Nat} {lo:Int} (h:CInv p f e k) (c:Dx l p) (b:∀s∈l,EA s) (g:It f p) (a:p[k]?=some lo) (n:f lo=false):CInv p f e (k+1):=by
 have hm:=Om c.1 a λq m=>(Cn c b m).2;have he:=Pz a;refine ⟨h.can,λs hs=>by have:=h.low s hs;omega,λr i j=>?_⟩;rcases Lx r lo with d|d
 .exact h.mem r i qO
 .rw[h.high qO,CInv.same c b g a d j,n]
def TN (ou:oF) (lo hi:Int):oF:=match ou.getLast? with
  | some c=>if c.2=lo - 1 then ou.dropLast++[(c.1,hi)] else ou++[(lo,hi)]
  | none=>[(lo,hi)]
theorem MT (o:oF) (c:Sp) (lo hi:Int):TN (o++[c]) lo hi=if c.2=lo - 1 then o++[(c.1,hi)] else o++[c]++[(lo,hi)]:=by unfold TN;simp
theorem CInv.take {l:oF} {p:oB} {f:Int->Bool} {u:oF} {k:Nat} {lo:Int} (h:CInv p f u k) (i:Dx l p) (d:∀s∈l,EA s) (z:It f p) (b:p[k]?=some lo) (D:f lo=true):CInv p f (TN u lo (nx p (k+1) - 1)) (k+1):=by
 have hm:=Om i.1 b λq B=>(Cn i d B).2;have he:=Pz b;have n:=Cn i d (dK b);have hb:nx p (k+1)<=1114112:=by
  unfold nx;cases hy:p[k+1]? with
  | none=>simp
  | some y=>have:=Cn i d (dK hy);simp;omega
 obtain ⟨hi,v⟩:∃hi,hi=nx p (k+1) - 1:=⟨_,O⟩;rw[<-v];have a:∀{j:oF},(∀r,0<=r->Ca j r=(Ca u r || (decide (lo<=r) && decide (r<=hi))))->∀r,0<=r->r<nx p (k+1)->Ca j r=f r:=λA r m w=>by
  rw[A r m];rcases Lx r lo with e|e
  .rw[h.mem r m qO,decide_eq_false (p:=lo<=r) qO];simp
  .rw[CInv.same i d z b e w,D,decide_eq_true e,decide_eq_true qO];simp
 rcases HT u with rfl|⟨o,c,rfl⟩
 .refine ⟨Canon.one ⟨n.1,by simp only;omega,by simp only;omega⟩,λs hs=>?_,a λr m=>?_⟩
  .simp[TN] at hs;subst hs;simp only;omega
  .show Ca [(lo,hi)] r=_;rw[DM,Gl,jW,gZ]
 .obtain ⟨w,e,x⟩:=FG.1 h.can;have hcl:=h.low c qP;unfold EA at e;rw[MT];split
  .rename_i C
   refine ⟨FG.2 ⟨w,⟨e.1,by simp only;omega,by simp only;omega⟩,x⟩,λs hs=>?_,a λr m=>?_⟩
   .rcases eC.1 hs with hs|hs
    .have:=h.low s (by simp[hs]);omega
    .rw[dO] at hs;subst hs;simp only;omega
   .rw[Db,Db,nK];congr 1;rw[fZ];simp only[DM,Gl,jW,eZ,dP,decide_eq_true_eq];omega
  .rename_i C
   refine ⟨FG.2 ⟨h.can,⟨n.1,by simp only;omega,by simp only;omega⟩,λt g=>?_⟩,λs hs=>?_,a λr m=>?_⟩
   .rcases eC.1 g with g|g
    .have:=x t g;simp only;omega
    .rw[dO] at g;subst g;simp only;omega
   .rcases eC.1 hs with hs|hs
    .have:=h.low s hs;omega
    .rw[dO] at hs;subst hs;simp only;omega
   .rw[Db _ [(lo,hi)]];congr 1;rw[DM,Gl,jW]
theorem CInv.done {p:oB} {f:Int->Bool} {a:oF} (h:CInv p f a p.length):Dy a f:=
 ⟨h.can,λr b h1=>h.mem r b (by unfold nx;rw[eR (dU _)];simp;omega)⟩
theorem UG {l:oF} {p:oB} (d:∀s∈l,s.1∈p) (f:∀s∈l,s.2<1114111->s.2+1∈p):It (Ca l) p:=by
 intro a r ha har hr b;rw[fZ,Eu,Eu];have c:∀s∈l,(s.1<=r∧r<=s.2)↔(s.1<=a∧a<=s.2):=λs hs=>by
  have q1:=b s.1 (d s hs);by_cases e:s.2<1114111
  .have q2:=b (s.2+1) (f s hs e);omega
  .omega
 constructor
 .rintro ⟨s,hs,h⟩;exact ⟨s,hs,(c s hs).1 h⟩
 .rintro ⟨s,hs,h⟩;exact ⟨s,hs,(c s hs).2 h⟩
theorem NU {ll:nZ} {p:oB} (h:Dx ll.flatten p) {l:oF} (a:l∈ll):It (Ca l) p:=
 UG (λs hs=>(h.2 _).2 (.inr ⟨s,iA.2 ⟨l,a,hs⟩,.inl O⟩)) (λs hs b=>(h.2 _).2 (.inr ⟨s,iA.2 ⟨l,a,hs⟩,.inr ⟨b,O⟩⟩))
theorem Vk:∀{p:oB} {lo hi:Int},p.Pairwise (· < ·)->(∀q∈p,lo<=q∧q<=hi)->lo<=hi+1->((p.length:Nat):Int)<=hi - lo+1
 | [],_,_,_,_,h=>by simp;omega
 | x::r,lo,hi,hp,hb,h=>by
  have h1:=hb x eJ;have h2:=Vk (lo:=x+1) (hi:=hi) (fJ.1 hp).2 (λq a=>⟨by have:=(fJ.1 hp).1 q a;omega,(hb q (eP _ a)).2⟩) qO;simp only[d_];omega
theorem K7 {p:oB} (a:p.Pairwise (· < ·)) (hb:∀q∈p,0<=q∧q<=1114111):p.length<=1114112:=by
 have:=Vk (lo:=0) (hi:=1114111) a hb qO;omega
theorem Wg (N:World) (fv v:Value) (f:Int->Bool) (ll:nZ) (h:C0 N v ll) (hl:ll.flatten.length<=8796093022200) (D:∀s∈ll.flatten,EA s) (hc:∀p,Dx ll.flatten p->It f p)
 (hf:∀(w:World) (x:Int),Ah N w->CG prog fv #[I6 x] w λr w'=>r=.bool (f x)∧Ah w w') :
 Bj prog 38 #[fv,v] N λr w=>(∃out,Dy out f∧Kz w N.heap.size r out)∧Ah N w:=by
 refine qR func38 O ntmps38 O (λE=>(AA (qA _ O (AB (AA (qA _ O (AB (AA (qM v O (qE O (AS func35 kQ kQ O) (Ls _ v ll h qO D) ?_))))))))));rintro _ U ⟨⟨p,P,⟨pa,Q,rfl⟩,hp⟩,X9⟩;have E:=E.ext X9;have L:∀q∈p,0<=q∧q<=1114111:=λq hq=>Cn P D hq;have R:=hc p P;have hs0:=E.size;have hpl:p.length<=1114112:=K7 P.1 L;obtain ⟨base,hbase⟩:∃base,base=U.heap.size:=⟨_,O⟩;have j:Chg Aj U U:=Chg.refl _ _;refine qA _ O (AB (AH (AA (qM _ O (qV (AT eA O) (qM _ O (AB (AW (Ax (λnn_ σ S=>∃(k:Nat) (I:oE) (B:Nat) (m:Nat) (F:oF),(∃jj_,σ=BW jj_ [(0,fv),(6,(.slice pa p.length Q)),(13,(.slice pa p.length Q)),(14,(I6 (p.length:Int))),(15,(I6 (k:Int))),(5,(.slice I m B))])∧Chg Aj N S∧Chg Aj U S∧(k<=p.length)∧(m=F.length)∧(m<=k)∧(CInv p f F k)∧(S.ownsRow base Mt 2 (.slice I m B) m (F.map Ba).flatten)∧(base<=S.heap.size)∧nn_=p.length - k) (n:=p.length - 0) ?_ ?_)))))))))
 .exact ⟨0,none,0,0,[],oH,E,j,dR _,O,dU _,CInv.start P D,World.ownsRow_nil _ _ _ _,qO,O⟩
 .clear E j;rintro _ _ S ⟨k,I,B,m,F,⟨j1,rfl⟩,E,j,hk,hm,hmk,hI,a,e,rfl⟩;refine AA (qV (A6 O O) (AB (AH (qC O (λac=>?_) (λac=>?_)))))
  .obtain ⟨lo,H⟩:=AU (l:=p) (i:=k) qO;have hlb:=L lo (dK H);obtain ⟨b,o,ah,V⟩:=CX hp qO;subst ah;refine AM (AC (AH (AW (AA (qM _ O (qV (AL (b:=b) (o:=o) (len:=p.length) (cap:=Q) (i:=k) (o':=o+k) O O O eA Al qO qO) (qV (AJ O Ag (j.cell (λf=>f) (V k lo H))) (qA _ O (qA _ O (AB (AA (qA _ O (AB (Gb (λσ Z=>∃(hi:Int),(∃jj_,σ=BW jj_ [(0,fv),(5,(.slice I m B)),(6,(.slice (oI b o) p.length Q)),(8,(I6 lo)),(13,(.slice (oI b o) p.length Q)),(14,(I6 (p.length:Int))),(15,(I6 (k:Int))),(9,(I6 hi))])∧Chg Aj N Z∧Chg Aj U Z∧(hi=nx p (k+1) - 1)∧(Z.ownsRow base Mt 2 (.slice I m B) m (F.map Ba).flatten)∧(base<=Z.heap.size)) ?_ ?_))))))))))))))
   .skip
    refine AA (qM _ O (qM _ O (qV (AT eA O) (qV (DZ O O (A8 qO)) (qV (A6 O O) (AB (qC O (λak=>?_) (λak=>?_))))))))
    .obtain ⟨y,hy⟩:=AU (l:=p) (i:=k+1) qO;have hyb:=L y (dK hy);refine AN (qM _ O (qM _ O (qV (A0 O O (A8 qO)) (qV (AL (b:=b) (o:=o) (len:=p.length) (cap:=Q) (i:=k+1) (o':=o+(k+1)) O O qO eA Al qO qO) (qV (AJ O Ag (j.cell (λf=>f) (V (k+1) y hy))) (qV (DZ O O (A8 qO)) (qA _ O (AB (AC ?_)))))))));exact ⟨(y - 1),oH,E,j,(by rw[Pz hy]),a,e⟩
    .refine AM (AC ?_);exact ⟨1114111,oH,E,j,(by unfold nx;rw[eR qO];rfl),a,e⟩
   .clear E j;rintro _ Z ⟨hi,⟨j3,rfl⟩,E,j,am,a,e⟩;refine AH (AA (qM _ O (qM _ O (DK qD O O (hf _ lo E) ?_))));rintro _ w8 ⟨rfl,X8⟩;have a:=Az a X8;have e:=dL e X8.size;have E:=E.ext X8;have j:=j.ext X8;refine qV (C1 O) (AB (A4 O (λt=>?_) (λt=>?_)))
    .have W:=t;have t:=by simpa using t
     refine Av (AZ (Ao (AC (AN (qV (A0 O O (A8 qO)) (qM _ O (AB (AC ?_))))))));exact ⟨p.length - (k+1),qO,k+1,I,B,m,F,oH,E,j,qO,hm,qO,hI.skip P D R H t,a,e,O⟩
    .have W:=t;have t:=by simpa using t
     have J:=hI.take P D R H t;rw[<-am] at J;rcases dT (decide ((0:Int)<=((m:Nat):Int) - 1)) with d|d
     .have u:=d;have u:=of_decide_eq_true u;obtain ⟨G,cc,al⟩:∃G cc,F=G++[cc]:=by rcases HT F with rfl|h1;simp at hm;omega;exact h1
      subst al;have ab:m=G.length+1:=by simpa using hm
      rw[MT] at J;obtain ⟨g,rfl,hgb,hgc⟩:=Co a qO;refine AM (AC (AA (qM _ O (qV (AT dS O) (qV (DZ O O (A8 qO)) (qA _ O (AB (AA (qM _ O (qV (El O O) (qM _ O (AF O O qD (Ar d) (qM _ O (AF O O qD (Ar d) (qM _ O (AF O O qD (Ar d) (qV (AL (b:=g) (o:=0) (len:=m) (cap:=B) (i:=m - 1) (o':=0+(m - 1)*2) O O qO dS BL qO qO) ?_)))))))))))))))));refine AF O O qD (Ar d) (qF _ _ _ O eM O Al O (AF O O qD (Ar d) (qV (AJ (v:=(I6 cc.2)) O Ag ((by have h1:=(a.cells (g:=g) O) (G.length*2+1) _ (Jw G cc);rwa [Addr.add_lit,show 0+(G.length*2+1)=0+(m - 1)*2+1 from qO] at h1))) (AF O O qD (Ar d) (qM _ O (AF O O qD (Ar d) (qV (DZ O O (A8 qO)) (AF O O qD (Ar d) (qV (Ai O O) (qV (Af (v:=(.bool (decide ((cc.2:Int)=lo - 1)))) O (by rw[d];rfl)) (AB (qC O (λhj=>?_) (λhj=>?_)))))))))))))
      .rw[if_pos hj] at J;obtain ⟨ag,hB,hcs⟩:=JP a;refine AN (qM _ O (qM _ O (qM _ O (qV (AL (b:=g) (o:=0) (len:=m) (cap:=B) (i:=m - 1) (o':=0+(m - 1)*2) O O qO dS BL qO qO) (qF _ _ _ O eM O Al O ?_)))));have af:=hB;refine CB (b:=g) (o:=0+(m - 1)*2+1) (c':=ag.setIfInBounds (0+(m - 1)*2+1) (I6 hi)) (v:=(I6 hi)) O O O Al hB qO (O) ?_;intro w7 S7;have E:=S7.step E (by first|exact dH qO|assumption|exact dG rfl|exact dG (by assumption)|exact dG qP|exact dG qO|exact dG (by dsimp only;omega));have j:=S7.step j (dH qO);have hB:=S7.blk;have A:=IM a af (i:=0+(m - 1)*2+1) qO hB;refine AB (AV (AC (AN (qV (A0 O O (A8 qO)) (qM _ O (AB (AC ?_)))))));exact ⟨p.length - (k+1),qO,k+1,oI g 0,B,m,G++[(cc.1,hi)],oH,E,j,qO,(by simp[ab]),qO,J,(by rw[show 0+(m - 1)*2+1=G.length*2+1 from qO,PT] at A;exact A),(by have:=A.lt g O;omega),O⟩
      .rw[if_neg hj] at J;refine AN (qM _ O (qM _ O (qM _ O (qV (B0 (ps:=[(0,(I6 lo)),(1,(I6 hi))]) (v:=(.agg #[(I6 lo),(I6 hi)])) O qK) (Aw (ps:=[(0,(.agg #[(I6 lo),(I6 hi)]))]) (c:=#[(I6 lo),(I6 hi)]) qD O dS BL Df qD qD qK ?_)))));intro br wr T;have a:=Az a T.ext;have e:=dL e T.ext.size;have E:=E.ext T.ext;have Br:=T.blk;have j:=j.ext T.ext;refine BQ (base:=base) (n:=m) (m:=1) (xs:=((G++[cc]).map Ba).flatten) (news:=[(I6 lo),(I6 hi)]) (size:=2) (bytes:=16) (v:=(.slice (oI g 0) m B)) qD dS BL Ma Df O qD O a O (O) (Br.cells O) qS (by unfold maxLen;omega) qO (e) ?_;intro v9 aj C z ae;have E:=E.step z (λx hx h=>absurd (a.lt x h).1 qO);have j:=j.step z (λx hx h=>absurd (a.lt x h).1 qO);obtain ⟨M,K,rfl⟩:=BB C;refine qA _ O (AB (AV (AC (AN (qV (A0 O O (A8 qO)) (qM _ O (AB (AC ?_))))))));exact ⟨p.length - (k+1),qO,k+1,M,K,m+1,G++[cc]++[(lo,hi)],oH,E,j,qO,(by simp[ab]),qO,J,(by rw[GN];exact C),dL e z.size,O⟩
     .have u:=d;have u:=of_decide_eq_false u;have ad:m=0:=qO
      have aa:F=[]:=eD qO;subst aa;refine AM (AC (AA (qM _ O (qV (AT dS O) (qV (DZ O O (A8 qO)) (qA _ O (AB (AA (qM _ O (qV (El O O) (qM _ O (AD O O qD (v:=.bool false) (Ar d) (dH O) (AD O O qD (v:=.bool false) (Ar d) (dH O) (AD O O qD (v:=.bool false) (Ar d) (dH O) (AD O O qD (v:=.bool false) (Ar d) (dH O) (AD O O qD (v:=.bool false) (Ar d) (dH O) (AD O O qD (v:=.bool false) (Ar d) (dH O) ?_)))))))))))))))));refine AD O O qD (v:=.bool false) (Ar d) (dH O) (AD O O qD (v:=.bool false) (Ar d) (dH O) (qV (Af (v:=(.bool false)) O (by rw[d];rfl)) (AB (Ae O (AN (qM _ O (qM _ O (qM _ O (qV (B0 (ps:=[(0,(I6 lo)),(1,(I6 hi))]) (v:=(.agg #[(I6 lo),(I6 hi)])) O qK) (Aw (ps:=[(0,(.agg #[(I6 lo),(I6 hi)]))]) (c:=#[(I6 lo),(I6 hi)]) qD O dS BL Df qD qD qK ?_))))))))));intro b8 w8 X;have a:=Az a X.ext;have e:=dL e X.ext.size;have E:=E.ext X.ext;have B8:=X.blk;have j:=j.ext X.ext;refine BQ (base:=base) (n:=m) (m:=1) (xs:=[]) (news:=[(I6 lo),(I6 hi)]) (size:=2) (bytes:=16) (v:=(.slice I m B)) qD dS BL Ma Df O qD O a O (O) (B8.cells O) qS (by unfold maxLen;omega) qO (e) ?_;intro v9 aj C z ae;have E:=E.step z (λx hx h=>absurd (a.lt x h).1 qO);have j:=j.step z (λx hx h=>absurd (a.lt x h).1 qO);obtain ⟨M,K,rfl⟩:=BB C;refine qA _ O (AB (AV (AC (AN (qV (A0 O O (A8 qO)) (qM _ O (AB (AC ?_))))))));exact ⟨p.length - (k+1),qO,k+1,M,K,m+1,[(lo,hi)],oH,E,j,qO,(by simp[ad]),qO,J,(by simpa[Ba] using C),dL e z.size,O⟩
  .have ai:k=p.length:=qO
   refine Av (AZ (AZ (Ao (AC (AA (qM _ O (qA _ O (AB (AO (AY results38 (v:=(.slice I m B)) O ?_))))))))));subst ai;subst hm;exact ⟨⟨F,hI.done,⟨I,B,O⟩,K8 a qO⟩,E⟩
def A5 (ll:nZ) (r:Int):List Bool:=ll.map λl=>Ca l r
def Hq (acc:List (List Bool)) (m:List Bool):List (List Bool):=if m∈acc then acc else acc++[m]
def DD (l:List (List Bool)):List (List Bool):=l.foldl Hq []
theorem Gp (l:List (List Bool)) (m:List Bool):DD (l++[m])=Hq (DD l) m:=by simp[DD,hZ]
theorem Qs {a:List (List Bool)} {m x:List Bool}:x∈Hq a m↔x∈a∨x=m:=by
 unfold Hq;split
 .constructor
  .exact .inl
  .rintro (h|rfl)<;>assumption
 .simp
theorem Mi {c:List (List Bool)} {m:List Bool} (h:c.Nodup):(Hq c m).Nodup:=by
 unfold Hq;split
 .exact h
 .rename_i d
  rw[gN];exact ⟨h,qP,λa f b hb=>by rw[dO] at hb;subst hb;exact λe=>d (e▸f)⟩
theorem HX {ll:nZ} {p:oB} (c:Dx ll.flatten p) (a:∀s∈ll.flatten,EA s) {i:Nat} {lo r:Int} (b:p[i]?=some lo) (f:lo<=r) (d:r<nx p (i+1)):A5 ll r=A5 ll lo:=by
 unfold A5;apply nQ;intro l e;exact CInv.same c a (NU c e) b f d
structure GInv (ll:nZ) (p:oB) (i:Nat) (ks:List (List Bool)) (outs:nZ):Prop where
 keys:ks=DD ((p.take i).map (A5 ll))
 nd:ks.Nodup
 len:outs.length=ks.length
 cnt:ks.length<=i
 ok:∀(k:Nat) o,outs[k]?=some o->(∀s∈o,EA s)∧o.length<=i
 cov:∀r,0<=r->r<nx p i->A5 ll r∈ks
 mem:∀(k:Nat) key o r,ks[k]?=some key->outs[k]?=some o->0<=r->r<=1114111->Ca o r=(decide (r<nx p i) && decide (A5 ll r=key))
theorem GInv.start {ll:nZ} {p:oB} (c:Dx ll.flatten p) (a:∀s∈ll.flatten,EA s):GInv ll p 0 [] [] where
 keys:=rfl
 nd:=g_
 len:=rfl
 cnt:=dU _
 ok:=λk o h=>by simp at h
 cov:=λr h0 b=>by rw[KA c a] at b;omega
 mem:=λk key o r h=>by simp at h
theorem UK {l:List (List Bool)} (h:l.Nodup) {i j:Nat} {x:List Bool} (hi:l[i]?=some x) (d:l[j]?=some x):i=j:=by
 have c:=AX hi;have b:=AX d;rw[dM c] at hi;rw[dM b] at d;have e:=(gQ hi).trans (gQ d).symm;rcases jN i j with a|a|a
 .exact absurd e (fB.1 h i j c b a)
 .exact a
 .exact absurd e.symm (fB.1 h j i b c a)
theorem V2 (o:oF) (x:Sp) (r:Int):Ca (o++[x]) r=(Ca o r || (decide (x.1<=r) && decide (r<=x.2))):=by
 induction o with
 | nil=>simp[DM,Gl]
 | cons y o ih=>simp only[fH,DM,ih,nK]
theorem GInv.step {ll:nZ} {p:oB} {i k:Nat} {B m:List (List Bool)} {z b:nZ} {o:oF} {lo:Int} (h:GInv ll p i B z) (F:Dx ll.flatten p) (t:∀s∈ll.flatten,EA s) (g:p[i]?=some lo)
 (E:m=Hq B (A5 ll lo)) (Q:b.length=m.length) (c:∀(j:Nat) q,b[j]?=some q->z[j]?=some q∨(j=B.length∧q=[]∧A5 ll lo∉B)) (D:m[k]?=some (A5 ll lo)) (T:b[k]?=some o) :
 GInv ll p (i+1) m (b.set k (o++[(lo,nx p (i+1) - 1)])):=by
 have hrng:=Cn F t (dK g);have M:∀q∈p,q<=1114111:=λq n=>(Cn F t n).2;have hnx:=Om F.1 g M;have l:nx p i=lo:=by unfold nx;rw[g];rfl
 have hnx1:nx p (i+1)<=1114112:=by
  unfold nx;cases n:p[i+1]? with
  | none=>simp
  | some y=>have:=M y (dK n);simp;omega
 have hkl:=AX T;have L:m.Nodup:=by rw[E];exact Mi h.nd
 have J:EA (lo,nx p (i+1) - 1):=by unfold EA;simp;omega
 have x:∀(j:Nat) d,m[j]?=some d->j<B.length->B[j]?=some d:=by
  intro j d u a;rw[E] at u;unfold Hq at u;split at u
  .exact u
  .rwa [dQ a] at u
 refine ⟨?_,L,by simp[Q],by rw[E];unfold Hq;have:=h.cnt;split;omega;simp;omega,?_,?_,?_⟩
 .rw[E,CL g,eT,gK,jD,Gp,<-h.keys]
 .intro j q n;rw[fG] at n;split at n
  .rename_i v
   have C:=gQ n;subst C;rcases c k o T with a|⟨_,a,_⟩
   .have G:=h.ok k o a;exact ⟨λs hs=>by rcases eC.1 hs with f|f;exact G.1 s f;rw[dO] at f;subst f;exact J,by simp;omega⟩
   .subst a;exact ⟨λs hs=>by simp at hs;subst hs;exact J,qP⟩
  .rcases c j q n with a|⟨_,a,_⟩
   .exact ⟨(h.ok j q a).1,by have:=(h.ok j q a).2;omega⟩
   .subst a;exact ⟨λs hs=>absurd hs eY,qP⟩
 .intro r H u;rw[E,Qs];rcases Lx r lo with a|a
  .exact .inl (h.cov r H (by rw[l];exact a))
  .exact .inr (HX F t g a u)
 .intro j d q r w n H u;rw[fG] at n;split at n
  .rename_i v
   have C:=gQ n;subst C;subst v;rw[D] at w;have I:=gQ w;subst I;rw[V2];have N:Ca o r=(decide (r<lo) && decide (A5 ll r=A5 ll lo)):=by
    rcases c k o T with a|⟨_,a,G⟩
    .have:=h.mem k _ o r (x k _ D (by have:=AX a;have:=h.len;omega)) a H u;rw[l] at this;exact this
    .subst a;symm;rw[Gl,Bool.and_eq_false_iff];rcases Lx r lo with f|f
     .right;rw[decide_eq_false_iff_not];intro A;exact G (A▸h.cov r H (by rw[l];exact f))
     .left;rw[decide_eq_false_iff_not];omega
   rw[N];rcases Lx r lo with f|f
   .have R:decide (r<lo)=true:=decide_eq_true f;have P:decide (lo<=r)=false:=decide_eq_false qO;have U:decide (r<nx p (i+1))=true:=decide_eq_true qO;simp only[R,P,U,kW,lR,jW]
   .have R:decide (r<lo)=false:=decide_eq_false qO;have P:decide (lo<=r)=true:=decide_eq_true f;simp only[R,P,kW,lR,gZ];rcases Lx r (nx p (i+1)) with A|A
    .rw[decide_eq_true A,decide_eq_true (HX F t g f A)];simp;omega
    .rw[decide_eq_false (show ¬r<nx p (i+1) by omega)];simp;omega
  .rename_i v
   have K:d≠A5 ll lo:=λe=>by subst e;exact v (UK L D w)
   rcases c j q n with a|⟨a,_,G⟩
   .have S:j<B.length:=by have:=AX a;have:=h.len;omega
    have:=h.mem j d q r (x j d w S) a H u;rw[this,l];rcases Lx r lo with f|f
    .rw[decide_eq_true f,decide_eq_true (show r<nx p (i+1) by omega)]
    .rw[decide_eq_false (show ¬r<lo by omega)];rcases Lx r (nx p (i+1)) with A|A
     .rw[HX F t g f A,decide_eq_false (show ¬A5 ll lo=d from λe=>K e.symm)];simp
     .rw[decide_eq_false (show ¬r<nx p (i+1) by omega)]
   .exfalso;subst a;rw[E] at w;unfold Hq at w;rw[if_neg G,dX (dU _)] at w;simp at w;exact K w.symm
def HP:nZ->Int
  | []=>0
  | l::ll=>if BJ l≠0 then BJ l else HP ll
def Gv (ll:nZ) (cs:nZ):Prop:=∃p,Dx ll.flatten p∧cs.length=(DD (p.map (A5 ll))).length∧∀(k:Nat) key c,(DD (p.map (A5 ll)))[k]?=some key->cs[k]?=some c->Dy c (λr=>decide (A5 ll r=key))
def KE (cs:nZ):Prop:=(∃c∈cs,16<c.length)∨16<cs.length
def Kx (ll out:nZ) (e:Int):Prop:=(HP ll≠0∧e=HP ll∧out=[])∨(HP ll=0∧∃cs,Gv ll cs∧((KE cs∧e=2∧out=[])∨(¬KE cs∧e=0∧out=cs)))
theorem Gv.uniq {ll cs a:nZ} (h:Gv ll cs) (n:Gv ll a):cs=a:=by
 obtain ⟨p,k,hl,m⟩:=h;obtain ⟨q,j,hl',e⟩:=n;obtain rfl:p=q:=NZ k.1 j.1 λx=>(k.2 x).trans (j.2 x).symm;apply JX qO;intro i hi;obtain ⟨c,f⟩:=AU (l:=cs) (i:=i) hi;obtain ⟨c',b⟩:=AU (l:=a) (i:=i) qO;obtain ⟨d,g⟩:=AU (l:=DD (p.map (A5 ll))) (i:=i) qO;rw[f,b,Dy.eq (m i d c g f) (e i d c' g b) λ_ _ _=>rfl]
theorem Kx.uniq {ll o o':nZ} {e f:Int} (h:Kx ll o e) (j:Kx ll o' f):e=f∧o=o':=by
 rcases h with ⟨c,rfl,rfl⟩|⟨c,cs,i,k⟩<;>rcases j with ⟨b,rfl,rfl⟩|⟨b,ds,hd,g⟩
 .exact ⟨O,O⟩
 .exact absurd b c
 .exact absurd c b
 .obtain rfl:=i.uniq hd;rcases k with ⟨a,rfl,rfl⟩|⟨a,rfl,rfl⟩<;>rcases g with ⟨d,rfl,rfl⟩|⟨d,rfl,rfl⟩
  .exact ⟨O,O⟩
  .exact absurd a d
  .exact absurd d a
  .exact ⟨O,O⟩
theorem GInv.done {ll:nZ} {p:oB} {q:List (List Bool)} {a cs:nZ} (h:GInv ll p p.length q a) (u:Dx ll.flatten p) (s:cs.length=a.length) (t:∀(k:Nat) o c,a[k]?=some o->cs[k]?=some c->Gz o c):Gv ll cs:=by
 have b:=h.keys;rw[eE] at b;refine ⟨p,u,by rw[<-b,s,h.len],λk d c g f=>?_⟩;rw[<-b] at g;obtain ⟨o,e⟩:=AU (l:=a) (i:=k) (by have:=AX f;omega);have m:=Dy.join (t k o c e f) (h.ok k o e).1;refine ⟨m.1.1,λr j n=>?_⟩;rw[m.1.2 r j n,h.mem k d o r g e j n];have:r<nx p p.length:=by unfold nx;rw[eR (dU _)];simp;omega
 rw[decide_eq_true this];simp
abbrev PF:Nat:=22
structure CSt (w:World) (base:Nat) (vo:Value) (vs:n_) (outs:nZ):Prop where
 o:w.ownsRow base PF 1 vo outs.length vs
 len:vs.length=outs.length
 inn:∀(i:Nat) v l,vs[i]?=some v->outs[i]?=some l->w.ownsRow base Mt 2 v l.length (l.map Ba).flatten
 ap:∀(i j:Nat) v u b,vs[i]?=some v->vs[j]?=some u->v.ownBlock=some b->u.ownBlock=some b->i=j
 apo:∀(i:Nat) v b,vs[i]?=some v->v.ownBlock=some b->vo.ownBlock≠some b
theorem CSt.start (w:World) (base:Nat):CSt w base (.slice none 0 0) [] []:=
 ⟨World.ownsRow_nil _ _ _ _,O,λi v l h=>by simp at h,λi j v u b h=>by simp at h,λi v b h=>by simp at h⟩
theorem CSt.some {w:World} {base:Nat} {vo:Value} {vs:n_} {a:nZ} (h:CSt w base vo vs a) {i:Nat} {v:Value} (b:vs[i]?=some v):∃l,a[i]?=some l:=
 AU (by have:=AX b;have:=h.len;omega)
theorem CSt.chg {M:oD} {w w':World} {base:Nat} {vo:Value} {vs:n_} {a:nZ} (h:CSt w base vo vs a) (c:Chg M w w') (g:∀b,base<=b->b<w.heap.size->¬M b):CSt w' base vo vs a:=
 ⟨CH h.o c λk d=>g k (h.o.lt k d).1 (h.o.lt k d).2,h.len,λi v l f e=>CH (h.inn i v l f e) c λk d=>g k ((h.inn i v l f e).lt k d).1 ((h.inn i v l f e).lt k d).2,h.ap,h.apo⟩
theorem CSt.ext {w w':World} {base:Nat} {vo:Value} {vs:n_} {a:nZ} (h:CSt w base vo vs a) (c:Ah w w'):CSt w' base vo vs a:=h.chg c λ_ _ _ f=>f
theorem CSt.push {w w':World} {base:Nat} {vo v':Value} {vs:n_} {e:nZ} (h:CSt w base vo vs e) (q:w'.ownsRow base PF 1 v' (e.length+1) (vs++[.slice none 0 0])) (n:Chg (λx=>vo.ownBlock=.some x) w w')
 (r:∀k,v'.ownBlock=.some k->vo.ownBlock=.some k∨w.heap.size<=k):CSt w' base v' (vs++[.slice none 0 0]) (e++[[]]):=by
 have c:∀(i:Nat) v,(vs++[.slice none 0 0])[i]?=.some v->vs[i]?=.some v∨(i=vs.length∧v=.slice none 0 0):=by
  intro i v d;rcases eI i vs.length with a|a
  .left;rwa [dQ a] at d
  .right;rw[dX a] at d;have m:=AX d;simp at m;obtain rfl:i=vs.length:=qO
   simp at d;exact ⟨O,d.symm⟩
 refine ⟨by simpa using q,by simp[h.len],?_,?_,?_⟩
 .intro i v l d g;rcases c i v d with a|⟨a,rfl⟩
  .rw[dQ (by have:=AX a;have:=h.len;omega)] at g;exact CH (h.inn i v l a g) n λk o=>h.apo i v k a o
  .rw[a,h.len] at g;simp at g;subst g;exact World.ownsRow_nil _ _ _ _
 .intro i j v u b d p hb f;rcases c i v d with a|⟨_,rfl⟩
  .rcases c j u p with m|⟨_,rfl⟩
   .exact h.ap i j v u b a m hb f
   .cases f
  .cases hb
 .intro i v b d hb f;rcases c i v d with a|⟨_,rfl⟩
  .rcases r b f with m|m
   .exact h.apo i v b a hb m
   .obtain ⟨l,g⟩:=h.some a;have:=((h.inn i v l a g).lt b hb).2;omega
  .cases hb
theorem CSt.grow {w w' K:World} {base g cap k n:Nat} {v v':Value} {vs:n_} {a:nZ} {l:oF} {x:Sp} {A:oG} (h:CSt w base (.slice (.some ⟨g,0,none⟩) n cap) vs a) (hn:n=a.length) (D:vs[k]?=.some v) (hl:a[k]?=.some l)
 (N:w'.ownsRow base Mt 2 v' (l.length+1) ((l++[x]).map Ba).flatten) (H:Chg (λx=>v.ownBlock=.some x) w w') (I:∀k,v'.ownBlock=.some k->v.ownBlock=.some k∨w.heap.size<=k)
 (P:BV w' g A PF) (E:Put w' K g (A.setIfInBounds k v') PF):CSt K base (.slice (.some ⟨g,0,none⟩) n cap) (vs.set k v') (a.set k (l++[x])):=by
 have hkl:=AX D;have B:v.ownBlock≠.some g:=λe=>h.apo k v g D e O;have hgl:=(h.o.lt g O).2;have s:v'.ownBlock≠.some g:=λe=>by rcases I g e with f|f;exact B f;omega
 have y:w'.ownsRow base PF 1 (.slice (.some ⟨g,0,none⟩) n cap) a.length vs:=CH h.o H λq r=>by cases r;exact B
 rw[<-hn] at y;have F:=IM y P (i:=k) (by have:=h.len;omega) E.blk;have d:∀(i:Nat) u,(vs.set k v')[i]?=.some u->(i=k∧u=v')∨(i≠k∧vs[i]?=.some u):=by
  intro i u c;rw[fG] at c;split at c
  .rename_i G
   exact .inl ⟨G.symm,(gQ c).symm⟩
  .rename_i G
   exact .inr ⟨λe=>G e.symm,c⟩
 have p:∀(i:Nat) u b,i≠k->vs[i]?=.some u->u.ownBlock=.some b->v.ownBlock≠.some b∧v'.ownBlock≠.some b∧b≠g:=by
  intro i u b hi c hb;have f:v.ownBlock≠.some b:=λe=>hi (h.ap i k u v b c D hb e);refine ⟨f,λe=>?_,λe=>h.apo i u b c hb (by rw[e];rfl)⟩;rcases I b e with m|m
  .exact f m
  .obtain ⟨q,r⟩:=h.some c;have:=((h.inn i u q c r).lt b hb).2;omega
 refine ⟨by rw[iO,<-hn];exact F,by simp[h.len],?_,?_,?_⟩
 .intro i u q c r;rcases d i u c with ⟨rfl,rfl⟩|⟨f,m⟩
  .rw[fG] at r;rw[if_pos O,if_pos (by have:=h.len;omega)] at r;have C:=gQ r;subst C;rw[dN];exact CH N E.chg λb hb e=>s (e▸hb)
  .rw[fG,if_neg (λe=>f e.symm)] at r;exact CH (CH (h.inn i u q m r) H λb hb=>(p i u b f m hb).1) E.chg λb hb e=>(p i u b f m hb).2.2 e
 .intro i j u z b c M hb t;rcases d i u c with ⟨rfl,rfl⟩|⟨f,m⟩<;>rcases d j z M with ⟨rfl,rfl⟩|⟨L,J⟩
  .rfl
  .exact absurd hb (p j z b L J t).2.1
  .exact absurd t (p i u b f m hb).2.1
  .exact h.ap i j u z b m J hb t
 .intro i u b c hb;rcases d i u c with ⟨rfl,rfl⟩|⟨f,m⟩
  .intro e;cases e;exact s hb
  .exact h.apo i u b m hb
def PB (b:Bool):Int:=if b then 1 else 0
def Hj (m:List Bool):ByteArray:=strOfNums (m.map PB)
theorem WK {m b:List Bool} (h:Hj m=Hj b):m=b:=by
 have c:=congrArg (λs=>s.data.toList) h;simp only[Hj,strOfNums_data,List.map_map] at c;exact (List.map_inj_right (λx y a=>by cases x<;>cases y<;>first|rfl|(simp[PB] at a;done)|(exact absurd a qD))).1 c
def Ec:List (List Bool)->Nat->List (ByteArray×Int)
  | [],_=>[]
  | m::ks,n=>(Hj m,((n:Nat):Int))::Ec ks (n+1)
theorem Lz:∀(a:List (List Bool)) (m:List Bool) (n:Nat),Ec (a++[m]) n=Ec a n++[(Hj m,(((n+a.length:Nat):Nat):Int))]
 | [],m,n=>rfl
 | x::a,m,n=>by
  show (Hj x,_)::Ec (a++[m]) (n+1)=(Hj x,_)::(Ec a (n+1)++_);rw[Lz a m (n+1),d_,show n+1+a.length=n+(a.length+1) by omega]
theorem Na:∀{a:List (List Bool)} {n:Nat} {q:ByteArray×Int},q∈Ec a n->∃(j:Nat) (m:List Bool),a[j]?=some m∧q=(Hj m,(((n+j:Nat):Nat):Int))
 | [],_,_,h=>by cases h
 | x::a,n,q,h=>by
  rcases dZ.1 h with h|h
  .exact ⟨0,x,O,h⟩
  .obtain ⟨j,m,b,c⟩:=Na h;exact ⟨j+1,m,b,by rw[c];congr 2;omega⟩
theorem Nb:∀{a:List (List Bool)} {n:Nat} {m:List Bool},m∈a->Hj m∈(Ec a n).map (·.1)
 | x::a,n,m,h=>by
  rcases dZ.1 h with rfl|h
  .exact eJ
  .exact eP _ (Nb (n:=n+1) h)
theorem UC {b:List (List Bool)} {m:List Bool} {v:Int} (h:C_ (Ec b 0) (Hj m)=some v):∃j:Nat,v=((j:Nat):Int)∧b[j]?=some m:=by
 obtain ⟨j,m',c,a⟩:=Na (Il h);simp only[nL,eO] at a;obtain rfl:=WK a.1;exact ⟨j,a.2,c⟩
theorem RW {a:List (List Bool)} {m:List Bool} (h:C_ (Ec a 0) (Hj m)=none):m∉a∧C4 (Ec a 0) (Hj m) ((a.length:Nat):Int)=Ec (a++[m]) 0:=by
 refine ⟨λb=>?_,?_⟩
 .have:=Gn.2 (Nb (n:=0) b);rw[h] at this;cases this
 .rw[E_ _ h,Lz,eO]
def Kv (l:oF):oB:=0::l.flatMap λs=>[s.1,s.2+1]
theorem Lk {l:oF} {k:Int}:k∈Kv l↔k=0∨∃s∈l,k=s.1∨k=s.2+1:=by
 unfold Kv;simp[lA]
theorem Ll (l:oF):(Kv l).length=1+2*l.length:=by
 unfold Kv;rw[d_];have:(l.flatMap λs=>[s.1,s.2+1]).length=2*l.length:=by
  induction l with
  | nil=>rfl
  | cons x l ih=>rw[iX,dN,ih];simp;omega
 omega
theorem WS {l:oF} {q:oB} (f:∀s∈l,EA s) (i:q.Pairwise (· < ·)) (c:∀x,x∈q↔x∈Kv l):∃p,Dx l p∧(q=p∨q=p++[1114112]):=by
 have hb:∀x∈q,0<=x∧x<=1114112:=λx j=>by
  rcases Lk.1 ((c x).1 j) with a|⟨s,hs,a⟩
  .omega
  .have:=f s hs;unfold EA at this;omega
 have e:∀k,k<=1114111->(k∈Kv l↔IC l k):=λk n=>by
  rw[Lk];unfold IC;constructor
  .rintro (a|⟨s,hs,a|a⟩)
   .exact .inl a
   .exact .inr ⟨s,hs,.inl a⟩
   .exact .inr ⟨s,hs,.inr ⟨qO,a⟩⟩
  .rintro (a|⟨s,hs,a|a⟩)
   .exact .inl a
   .exact .inr ⟨s,hs,.inl a⟩
   .exact .inr ⟨s,hs,.inr a.2⟩
 have d:∀k,IC l k->k<=1114111:=λk n=>by
  rcases n with a|⟨s,hs,a⟩
  .omega
  .have:=f s hs;unfold EA at this;omega
 rcases lF q with rfl|⟨m,x,rfl⟩
 .exact ⟨[],⟨i,λk=>⟨λh=>(e k (by cases h)).1 ((c k).1 h),λh=>(c k).2 ((e k (d k h)).2 h)⟩⟩,.inl O⟩
 .rw[m_] at *;have g:∀y∈m,y<x:=λy r=>(iN.1 i).2.2 y r x qP;have hxb:=hb x qP;by_cases j:x=1114112
  .subst j;refine ⟨m,⟨(iN.1 i).1,λk=>⟨λh=>?_,λh=>?_⟩⟩,.inr O⟩
   .have:=g k h;exact (e k qO).1 ((c k).1 (by simp[h]))
   .have a:=d k h;have o:=(c k).2 ((e k a).2 h);rcases eC.1 o with b|b
    .exact b
    .rw[dO] at b;omega
  .refine ⟨m++[x],⟨i,λk=>⟨λh=>?_,λh=>(c k).2 ((e k (d k h)).2 h)⟩⟩,.inl O⟩;have:k<=1114111:=by
    rcases eC.1 h with b|b
    .have:=g k b;omega
    .rw[dO] at b;omega
   exact (e k this).1 ((c k).1 h)
def Ys (base:Nat) (vo:Value) (w:World) (u:Value) (l:oF):Prop:=(∃a c,u=.slice a l.length c)∧B_ (λb=>base<=b∧vo.ownBlock≠some b) w 2 u (l.map Ba)
theorem Sr {w:World} {n0 base:Nat} {vo v:Value} {l:oF} (h:w.ownsRow base Mt 2 v l.length (l.map Ba).flatten) (hn:n0<=base) (hb:∀b,v.ownBlock=some b->vo.ownBlock≠some b):Ys n0 vo w v l:=by
 obtain ⟨a,c,rfl⟩:=BB h;refine ⟨⟨a,c,O⟩,?_⟩;rcases gO l.length with d|d
 .have:=eD d;subst this;exact B_.nil _ _ _ _ _
 .have f:Kz w base (.slice a l.length c) l:=⟨⟨a,c,O⟩,h⟩;have e:=f.at;obtain ⟨g,rfl,_,_⟩:=Co h d;exact B_.mk e ⟨dL hn (h.lt g O).1,hb g O⟩
def Ct (S:oD) (w:World) (v:Value) (ll:nZ):Prop:=∃vs:n_,B_ S w 1 v (vs.map λx=>[x])∧vs.length=ll.length∧∀(i:Nat) (u:Value) (l:oF),vs[i]?=some u->ll[i]?=some l->B_ S w 2 u (l.map Ba)
theorem Ct.at {S:oD} {w:World} {v:Value} {ll:nZ} (h:Ct S w v ll):C0 w v ll:=by
 obtain ⟨vs,a,d,b⟩:=h;exact ⟨vs,a.at,d,λi u l c e=>(b i u l c e).at⟩
theorem Ct.mono {S S':oD} {w:World} {v:Value} {ll:nZ} (h:Ct S w v ll) (hs:∀b,S b->S' b):Ct S' w v ll:=by
 obtain ⟨vs,a,e,c⟩:=h;exact ⟨vs,a.mono hs,e,λi u l d f=>(c i u l d f).mono hs⟩
theorem Hv {w:World} {base e k p n m c:Nat} {a:oE} {rows:List n_} {xs:n_} (d:BX w k (.slice a n c) rows) (h:w.ownsRow base e p (.slice a n c) m xs):B_ (λb=>base<=b) w k (.slice a n c) rows:=by
 obtain ⟨a',cap,i,q,j,f⟩:=d;refine ⟨a',cap,i,q,j,?_⟩;rcases f with f|⟨b,o,g,l⟩
 .exact .inl f
 .exact .inr ⟨b,o,(h.lt b (by rw[i,g];rfl)).1,g,l⟩
theorem D0 (S:oD) (w:World):Ct S w (.slice none 0 0) []:=⟨[],B_.nil _ _ _ _ _,O,λi u l h=>by simp at h⟩
structure JSt (w:World) (base:Nat) (vo:Value) (us:n_) (outs cs:nZ) (k:Nat):Prop where
 o:w.ownsRow base PF 1 vo outs.length us
 len:us.length=outs.length
 cl:cs.length=k
 don:∀(i:Nat) u c,i<k->us[i]?=some u->cs[i]?=some c->Ys base vo w u c
 rst:∀(i:Nat) u l,k<=i->us[i]?=some u->outs[i]?=some l->Ys base vo w u l
 jn:∀(i:Nat) q c,outs[i]?=some q->cs[i]?=some c->Gz q c
theorem CSt.join {w:World} {base:Nat} {vo:Value} {vs:n_} {a:nZ} (h:CSt w base vo vs a):JSt w base vo vs a [] 0:=
 ⟨h.o,h.len,O,λi u c hi=>absurd hi (fU _),λi u l _ d e=>Sr (h.inn i u l d e) (dU _) λb hb=>h.apo i u b d hb,λi q c _ f=>by simp at f⟩
theorem Ys.ext {base:Nat} {vo u:Value} {w w':World} {l:oF} (h:Ys base vo w u l) (e:Ah w w'):Ys base vo w' u l:=⟨h.1,h.2.chg e λ_ _ f=>f⟩
theorem JSt.ext {w w':World} {base k:Nat} {vo:Value} {d:n_} {a cs:nZ} (h:JSt w base vo d a cs k) (e:Ah w w'):JSt w' base vo d a cs k:=
 ⟨Az h.o e,h.len,h.cl,λi u c hi b g=>(h.don i u c hi b g).ext e,λi u l hi b f=>(h.rst i u l hi b f).ext e,h.jn⟩
theorem JSt.step {w A:World} {base n1 g cap k n:Nat} {p:Value} {x:n_} {a cs:nZ} {q c':oF} {t:oG} (h:JSt w base (.slice (oI g 0) n cap) x a cs k) (hn:n=a.length) (F:a[k]?=some q)
 (H:Kz w n1 p c') (hn1:g<n1) (L:Gz q c') (K:BV w g t PF) (D:Put w A g (t.setIfInBounds k p) PF):JSt A base (.slice (oI g 0) n cap) (x.set k p) a (cs++[c']) (k+1):=by
 have hkl:=AX F;have z:Ys base (.slice (oI g 0) n cap) w p c':=Sr H.2 (by have E:=h.o;rw[<-hn] at E;have:=(E.lt g O).1;omega) λb hb e=>by cases e;have:=(H.2.lt g hb).1;omega
 have f:∀u l,Ys base (.slice (oI g 0) n cap) w u l->Ys base (.slice (oI g 0) n cap) A u l:=λu l s=>⟨s.1,s.2.chg D.chg λb hb e=>hb.2 (by rw[e];rfl)⟩;have G:=h.o;rw[<-hn] at G;have B:=IM G K (i:=k) qO D.blk;have m:∀(i:Nat) u,(x.set k p)[i]?=some u->(i=k∧u=p)∨(i≠k∧x[i]?=some u):=by
  intro i u j;rw[fG] at j;split at j
  .rename_i C
   split at j
   .exact .inl ⟨C.symm,(gQ j).symm⟩
   .cases j
  .rename_i C
   exact .inr ⟨λe=>C e.symm,j⟩
 refine ⟨by rw[<-hn];exact B,by simp[h.len],by simp[h.cl],?_,?_,?_⟩
 .intro i u c hi j d;rcases m i u j with ⟨rfl,rfl⟩|⟨s,v⟩
  .rw[dX (by have:=h.cl;omega),h.cl,kI] at d;simp at d;subst d;exact f _ _ z
  .rw[dQ (by have:=h.cl;omega)] at d;exact f _ _ (h.don i u c qO v d)
 .intro i u l hi j J;rcases m i u j with ⟨rfl,rfl⟩|⟨s,v⟩
  .omega
  .exact f _ _ (h.rst i u l qO v J)
 .intro i r c y d;rcases eI i k with s|s
  .rw[dQ (by have:=h.cl;omega)] at d;exact h.jn i r c y d
  .rw[dX (by have:=h.cl;omega)] at d;have v:=AX d;simp at v;have I:=h.cl;obtain rfl:i=k:=qO
   rw[I,kI] at d;simp at d;subst d;rw[F] at y;cases y;exact L
theorem JSt.doneN {w:World} {base k:Nat} {vo:Value} {us:n_} {outs cs:nZ} (h:JSt w base vo us outs cs k) (hk:k=outs.length):Ct (λb=>base<=b) w vo cs:=by
 refine ⟨us,?_,by rw[h.len,h.cl,hk],λi u l hu hl=>(h.don i u l (by have:=AX hl;have:=h.cl;omega) hu hl).2.mono λ_ hb=>hb.1⟩;have ho:=h.o;obtain ⟨a,c,rfl⟩:=BB ho;have aa:BX w 1 (.slice a outs.length c) (us.map λx=>[x]):=by
  rw[show us=(us.map λx=>[x]).flatten by simp[jI,lD]] at ho;exact Di ho (by intro r hr;simp only[eU] at hr;obtain ⟨x,_,rfl⟩:=hr;rfl) (by simp[h.len]) qD
 rcases gO outs.length with h0|h0
 ·have h1:=h.len;rw[h0] at h1;rw[eD h1,h0];exact B_.nil _ _ _ _ _
 ·obtain ⟨g,rfl,_,_⟩:=Co ho h0;exact B_.mk aa (ho.lt g O).1
theorem YD (o:oF):∃c,Gz o c:=by
 let le:Sp->Sp->Bool:=λs t=>decide (s.1<=t.1)
 refine ⟨_,o.mergeSort le,kA o le,?_,O⟩;have:=jH (le:=le) (λa b c h1 h2=>by simp[le] at *;omega) (λa b=>by simp[le];omega) o;exact this.imp λh=>by simpa[le] using h
theorem QB:∀a:nZ,∃cs:nZ,cs.length=a.length∧∀(k:Nat) o c,a[k]?=some o->cs[k]?=some c->Gz o c
 | []=>⟨[],O,λk o c h=>by simp at h⟩
 | o::a=>by
  obtain ⟨c,f⟩:=YD o;obtain ⟨cs,e,g⟩:=QB a;refine ⟨c::cs,by simp[e],λk q r b d=>?_⟩;cases k with
  | zero=>simp at b d;subst b;subst d;exact f
  | succ k=>exact g k q r (by simpa using b) (by simpa using d)
theorem OP {ll:nZ} {p:oB} {g:List (List Bool)} {a:nZ} {o c:oF} {k:Nat} (h:GInv ll p p.length g a) (m:Dx ll.flatten p) (b:a[k]?=some o) (q:Gz o c) (j:16<c.length):∃cs,Gv ll cs∧KE cs:=by
 obtain ⟨cs,n,f⟩:=QB a;refine ⟨cs,h.done m n f,.inl ?_⟩;obtain ⟨d,hd⟩:=AU (l:=cs) (i:=k) (by have:=AX b;omega);refine ⟨d,dK hd,?_⟩;have e:=(h.ok k o b).1;rw[Dy.eq (Dy.join (f k o d b hd) e).1 (Dy.join q e).1 λ_ _ _=>rfl];exact j
def Hd (ll:nZ):Prop:=∀r,0<=r->r<=1114111->ll.countP (λl=>Ca l r)=1
def BH:oF->Int
  | []=>-1
  | s::_=>s.1
def Vq (ll:nZ):Nat->Int
  | 0=>-1
  | k+1=>BH (ll.getD k [])
def Ri (ll:nZ) (k:Nat):Prop:=ll.getD k []≠[]∧Vq ll k<BH (ll.getD k [])
def I_ (ll:nZ):Prop:=∀k,k<ll.length->Ri ll k
open Classical in
noncomputable def partE (ll:nZ):Int:=if 16<ll.length then 2 else if HP ll≠0 then HP ll else if I_ ll∧Hd ll then 0 else 3
theorem Pq {ll:nZ} (h:16<ll.length):partE ll=2:=by unfold partE;rw[if_pos h]
theorem Tu {ll:nZ} (h:¬16<ll.length) (hb:HP ll≠0):partE ll=HP ll:=by unfold partE;rw[if_neg h,if_pos hb]
theorem I0 {ll:nZ} (h:¬16<ll.length) (hb:HP ll=0) (a:¬(I_ ll∧Hd ll)):partE ll=3:=by unfold partE;rw[if_neg h,if_neg (by simp[hb]),if_neg a]
theorem Pp {ll:nZ} (h:¬16<ll.length) (hb:HP ll=0) (a:I_ ll∧Hd ll):partE ll=0:=by unfold partE;rw[if_neg h,if_neg (by simp[hb]),if_pos a]
theorem RJ {ll:nZ} (h:partE ll=0):¬16<ll.length∧HP ll=0∧I_ ll∧Hd ll:=by
 unfold partE at h;split at h
 .cases h
 .split at h
  .rename_i a h2;exact absurd h h2
  .split at h
   .rename_i a h2 h3;exact ⟨a,by simpa using h2,h3.1,h3.2⟩
   .cases h
theorem Qn:∀{ll:nZ},HP ll=0->∀l∈ll,BJ l=0
 | x::ll,h,l,hl=>by
  unfold HP at h;split at h
  .rename_i a;exact absurd h a
  .rename_i a
   rcases dZ.1 hl with rfl|b
   .simpa using a
   .exact Qn h l b
theorem KB {ll:nZ} {p:oB} (d:Dx ll.flatten p) (a:∀s∈ll.flatten,EA s):∀i,i<=p.length->∀r,0<=r->r<nx p i->∃k lo,p[k]?=some lo∧lo<=r∧r<nx p (k+1)∧A5 ll r=A5 ll lo
 | 0,_,r,h0,h1=>by rw[KA d a] at h1;omega
 | i+1,hi,r,h0,h1=>by
  obtain ⟨lo,b⟩:=AU (l:=p) (i:=i) qO;rcases Lx r lo with c|c
  .exact KB d a i qO r h0 (by rw[Pz b];exact c)
  .exact ⟨i,lo,b,c,h1,HX d a b c h1⟩
theorem Pm {ll:nZ} {p:oB} (d:Dx ll.flatten p) (a:∀s∈ll.flatten,EA s) {r:Int} (e:0<=r) (h1:r<=1114111):∃lo∈p,A5 ll r=A5 ll lo:=by
 obtain ⟨k,lo,c,_,_,b⟩:=KB d a p.length (dU _) r e (by unfold nx;rw[eR (dU _)];simp;omega);exact ⟨lo,dK c,b⟩
theorem MV (ll:nZ) (r:Int):ll.countP (λl=>Ca l r)=(A5 ll r).countP id:=by
 unfold A5;rw[List.countP_map];rfl
theorem VT {ll:nZ} {p:oB} (b:Dx ll.flatten p) (a:∀s∈ll.flatten,EA s):Hd ll↔∀r∈p,ll.countP (λl=>Ca l r)=1:=by
 constructor
 .intro h r f;have:=Cn b a f;exact h r this.1 this.2
 .intro h r g c;obtain ⟨lo,e,d⟩:=Pm b a g c;rw[MV,d,<-MV];exact h lo e
def Zg (ll:nZ):oB:=ll.map BH
end Go.Proofs
namespace Go.Eng
open Go
def ED (o:Option Nat):Value:=.pointer (o.map λb=>⟨b,0,none⟩)
section
variable {P : Program} {N : Nat} {σ : CZ} {w : World} {ty : TypeId} {pos : String} {af : Array Edge} {g : Option (Nat × Bool)} {t : TypeId} {x y : Operand} {M : Nat → Prop} {dst : Option Tmp}
theorem QU {u:Addr} {e n:TypeId} (d:Nat) (a:P.underlying t=some (.pointer e)) (hs:EI P e (n+1)):(Op.equalIn (d+1) t (.pointer (some u)) (.pointer (some u))).run P w=.ok true w:=by
 simp only[Op.equalIn,Sem.run_bind,run_underlying a,Result.andThen_ok,hs.run];simp[sameAddr]
theorem Hi {v:oE} {e:TypeId} (d:Nat) (a:P.underlying t=some (.pointer e)):(Op.equalIn (d+1) t (.pointer none) (.pointer v)).run P w=.ok v.isNone w:=by
 simp only[Op.equalIn,Sem.run_bind,run_underlying a,Result.andThen_ok];rfl
theorem Io {u:Addr} {e:TypeId} (d:Nat) (a:P.underlying t=some (.pointer e)):(Op.equalIn (d+1) t (.pointer (some u)) (.pointer none)).run P w=.ok false w:=by
 simp only[Op.equalIn,Sem.run_bind,run_underlying a,Result.andThen_ok];rfl
theorem VO {o:Option Nat} {e:TypeId} (a:P.underlying t=some (.pointer e)) (c:ev σ x=ED o) (b:ev σ y=.pointer none):(execOp (ev σ) ⟨dst,.binOp .neq t x y t,ty,pos,af,g⟩).run P w=.ok (.value (.bool o.isSome)) w:=by
 simp only[execOp,c,b,ED,eqGuard,binOp,Op.equal,Op.maxDepth];cases o with
 | none=>
  have h:=Hi (P:=P) (w:=w) (v:=none) 9999 a;simp only[mV] at *;simp[h]
 | some q=>
  have h:=Io (P:=P) (w:=w) (u:=⟨q,0,none⟩) 9999 a;simp only[iF] at *;simp[h]
theorem Xl {o:Option Nat} {s:Nat} {e n:TypeId} (d:o=none∨o=some s) (a:P.underlying t=some (.pointer e)) (hs:EI P e (n+1)) (c:ev σ x=ED o) (b:ev σ y=P6 s 0):(execOp (ev σ) ⟨dst,.binOp .eql t x y t,ty,pos,af,g⟩).run P w=.ok (.value (.bool o.isSome)) w:=by
 simp only[execOp,c,b,ED,eqGuard,binOp,Op.equal,Op.maxDepth];rcases d with rfl|rfl
 .have h:=Hi (P:=P) (w:=w) (v:=oI s 0) 9999 a;simp only[mV] at *;simp[h]
 .have h:=QU (P:=P) (w:=w) (u:=⟨s,0,none⟩) 9999 a hs;simp only[iF] at *;simp[h]
def Oq {κ ν:Type} (ek:κ->Value) (eV:ν->Value) (ns:List (κ×ν)) (hs:Nat):G0:=λv w=>∃b,v=.map (some b)∧Bl w b ek eV ns∧hs<=b
theorem P5 {κ ν:Type} (ek:κ->Value) (eV:ν->Value) (ns:List (κ×ν)) (hs:Nat):FK (Oq ek eV ns hs):=by
 rintro v w w' e ⟨b,rfl,a,c⟩;exact ⟨b,O,e.keepM a,c⟩
theorem M7 {κ ν:Type} {d hs:Nat} (ek:κ->Value) (eV:ν->Value) (a:hs<=w.heap.size):Dn M P N ⟨some d,.makeMap t none,ty,pos,af,g⟩ (Oq ek eV [] hs) σ w:=by
 have hn:=NewO.mk' w (.map #[] 0);refine BZ (v:=.map (some w.heap.size)) (w':={w with heap:=w.heap.push (.map #[] 0)}) ?_ (Ah.chg hn.ext) ⟨_,O,hn.at',a⟩;simp[execOp,Instr.makeMap]
def R_ (us:n_) (ns:List (Int×ByteArray)) (hs:Nat):G0:=λv w=>∃nb,v=.agg (us++[Value.map (some nb)]).toArray∧Bl w nb Eh EK ns∧hs<=nb
theorem Qm (c:n_) (ns:List (Int×ByteArray)) (hs:Nat):FK (R_ c ns hs):=by
 rintro v w w' e ⟨b,rfl,a,d⟩;exact ⟨b,O,e.keepM a,d⟩
def Qk (us:n_) (ns:List (Int×ByteArray)) (T:TypeId) (hs:Nat):G0:=λv w=>∃b nb,v=P6 b 0∧BV w b (us++[Value.map (some nb)]).toArray T∧hs<=b∧Bl w nb Eh EK ns∧hs<=nb
theorem Qj (d:n_) (ns:List (Int×ByteArray)) (T:TypeId) (hs:Nat):FK (Qk d ns T hs):=by
 rintro v w w' e ⟨b,g,rfl,a,f,c,h⟩;exact ⟨b,g,O,e.keep a,f,e.keepM c,h⟩
theorem Mp {d hs a:Nat} {b:n_} {ns:List (Int×ByteArray)} (e:ev σ x=.agg (b++[Value.map (some a)]).toArray) (i:(Value.agg (b++[Value.map (some a)]).toArray).cells=(b++[Value.map (some a)]).toArray) (f:Bl w a Eh EK ns) (hn:hs<=a) (h:hs<=w.heap.size):Dn M P N ⟨some d,.box t x,ty,pos,af,g⟩ (Qk b ns t hs) σ w:=by
 have c:=New.mk' w (b++[Value.map (some a)]).toArray t;refine BZ (v:=P6 w.heap.size 0) (w':={w with heap:=w.heap.push (.cells (b++[Value.map (some a)]).toArray t (0,0))}) ?_ (Ah.chg c.ext) ⟨_,a,O,c.blk,h,c.keepM f,hn⟩;simp[execOp,e,Instr.box,newVar,newRow,i]
end
def Fy (w:World) (b:Nat):Prop:=∃c T f,w.heap[b]?=some (.cells c T f)
theorem NY {w:World} {b o:Nat} {v:Value} (h:w.cell? ⟨b,o,none⟩=some v):Fy w b:=by
 unfold World.cell? at h;cases hh:w.heap[b]? with
 | none=>simp[hh] at h
 | some q=>
  cases q with
  | cells c T f=>exact ⟨c,T,f,hh⟩
  | _=>simp[hh] at h
theorem DT {w:World} {b:Nat} {c:oG} {T:TypeId} (h:BV w b c T):Fy w b:=⟨_,_,_,h⟩
theorem Bl.no {κ ν:Type} {ek:κ->Value} {eV:ν->Value} {es:List (κ×ν)} {w:World} {b:Nat} (h:Bl w b ek eV es):¬Fy w b:=by
 rintro ⟨c,T,f,hn⟩;unfold Bl at h;rw[hn] at h;cases h
theorem Cj.no {w:World} {it b n:Nat} {seen:oC} (h:Cj w it b n seen):¬Fy w it:=by
 rintro ⟨c,T,f,hn⟩;unfold Cj at h;rw[hn] at h;cases h
theorem Kl {κ ν:Type} {ek:κ->Value} {eV:ν->Value} {es:List (κ×ν)} {w:World} {m it b n:Nat} {seen:oC} (h:Bl w m ek eV es) (hi:Cj w it b n seen):m≠it:=by
 rintro rfl;unfold Bl at h;unfold Cj at hi;rw[hi] at h;cases h
theorem D9 {κ ν:Type} {ek:κ->Value} {eV:ν->Value} {es:List (κ×ν)} {w:World} {b m:Nat} {c:oG} {T:TypeId} (h:BV w b c T) (a:Bl w m ek eV es):b≠m:=by
 rintro rfl;exact a.no (DT h)
theorem B_.nm {S:oD} {w:World} {k:Nat} {v:Value} {rows:List n_} (h:B_ S w k v rows) (g:∀r∈rows,r≠[]):B_ (λb=>S b∧Fy w b) w k v rows:=by
 obtain ⟨a,cap,j,f,d,l⟩:=h;refine ⟨a,cap,j,f,d,?_⟩;rcases l with h|⟨b,o,hb,i,c⟩
 .exact .inl h
 .cases rows with
  | nil=>exact .inl O
  | cons r rs=>
   cases r with
   | nil=>exact absurd O (g [] eJ)
   | cons u e=>
    have:=c 0 (u::e) O 0 _ O;exact .inr ⟨b,o,⟨hb,NY this⟩,i,c⟩
mutual
theorem AR.nm {S:oD} {w:World}:∀(t:Re) {vs:n_},AR S w t vs->AR (λb=>S b∧Fy w b) w t vs
 | .mk k set args mn mx ng,vs,h=>by
  simp only[AR] at h⊢;obtain ⟨sa,sc,aa,ac,i,hs,d,j⟩:=h;refine ⟨sa,sc,aa,ac,i,B_.nm hs (λr e=>by obtain ⟨p,_,rfl⟩:=eU.1 e;simp[Ba]),d,?_⟩;rcases j with h|⟨b,o,hb,g,a⟩
  .exact .inl h
  .match args,a with
   | [],_=>exact .inl O
   | t::ts,a=>
    have c:=a;simp only[BM] at c;obtain ⟨⟨us,l,f⟩,_⟩:=c;obtain ⟨_,_,_,_,rfl,_⟩:=f.form;have:=l 0 _ O;exact .inr ⟨b,o,⟨hb,NY this⟩,g,BM.nm (t::ts) a⟩
theorem BM.nm {S:oD} {w:World} {b:Nat}:∀(ts:List Re) {o:Nat},BM S w b o ts->BM (λb=>S b∧Fy w b) w b o ts
 | [],_,_=>by simp only[BM]
 | t::ts,o,h=>by
  simp only[BM] at h⊢;obtain ⟨⟨vs,a,d⟩,c⟩:=h;exact ⟨⟨vs,a,AR.nm t d⟩,BM.nm ts c⟩
end
theorem AR.chgM {S M:oD} {w w':World} (c:Chg M w w') (a:∀b,S b->Fy w b->¬M b) {t:Re} {vs:n_} (h:AR S w t vs):AR S w' t vs:=
 AR.mono (λ_ hb=>hb.1) t (AR.chg c (λb hb=>a b hb.1 hb.2) t (AR.nm t h))
end Go.Eng
namespace Go.Proofs
open Go Go.Eng Go.Sort
set_option maxRecDepth 100000
section
variable {S S' M : Nat → Prop} {w w' : World} {v : Value} {ll : List (List Sp)}
theorem Ct.nm (h:Ct S w v ll):Ct (λb=>S b∧Fy w b) w v ll:=by
 obtain ⟨vs,f,d,c⟩:=h;exact ⟨vs,f.nm (λr a=>by obtain ⟨p,_,rfl⟩:=eU.1 a;simp),d,λi u l g e=>(c i u l g e).nm λr a=>by obtain ⟨p,_,rfl⟩:=eU.1 a;simp[Ba]⟩
theorem Ct.chgM (h:Ct S w v ll) (c:Chg M w w') (a:∀b,S b->Fy w b->¬M b):Ct S w' v ll:=by
 have k:=h.nm;obtain ⟨vs,d,g,e⟩:=k;exact ⟨vs,(d.chg c λb hb=>a b hb.1 hb.2).mono λ_ hb=>hb.1,g,λi u l f j=>((e i u l f j).chg c λb hb=>a b hb.1 hb.2).mono λ_ hb=>hb.1⟩
end
structure Cel where
 t:Re
 vs:List Value
 sb:Nat
 nb:Nat
 ns:List (Int×ByteArray)
abbrev SE:TypeId:=120
abbrev Ky:TypeId:=65
def EU (cs:nZ) (t:Re) (c:Int):Re:=A_ (BH (cs.getD c.toNat [])) t
structure CelAt (S:oD) (D:Re->Int->Re) (w:World) (x:Cel):Prop where
 blk:BV w x.sb (x.vs++[Value.map (some x.nb)]).toArray SE
 sb:S x.sb
 re:AR S w x.t x.vs
 nx:Bl w x.nb Eh EK x.ns
 nk:Ge x.ns
 ok:Au x.t
 sz:x.t.size<=300
 kv:∀p∈x.ns,p.2=Er (D x.t p.1)
def FF (x:Cel):ByteArray×Option Nat:=(Er x.t,some x.sb)
structure HeldAt (S:oD) (D:Re->Int->Re) (w:World) (mb:Nat) (L:List Cel):Prop where
 map:Bl w mb EK ED (L.map FF)
 cel:∀x∈L,CelAt S D w x
 nd:(L.map (·.t)).Nodup
 ap:(mb::L.map (·.nb)).Nodup
structure RepA (L:List Cel) (a:LzA Re):Prop where
 dom:∀t,a.dom t↔∃x∈L,x.t=t
 kn:∀t c,a.kn t c↔∃x∈L,x.t=t∧(C_ x.ns c).isSome=true
 n:a.n=L.length
section
variable {S S' M : Nat → Prop} {D : Re → Int → Re} {w w' : World} {x : Cel} {mb : Nat} {L : List Cel} {a : LzA Re}
theorem CelAt.mono (h:CelAt S D w x) (hs:∀b,S b->S' b):CelAt S' D w x:=⟨h.blk,hs _ h.sb,AR.mono hs _ h.re,h.nx,h.nk,h.ok,h.sz,h.kv⟩
theorem CelAt.chg (h:CelAt S D w x) (c:Chg M w w') (a:∀b,S b->Fy w b->¬M b) (hn:¬M x.nb):CelAt S D w' x:=
 ⟨c.keep (a _ h.sb (DT h.blk)) h.blk,h.sb,AR.chgM c a h.re,c.keepM hn h.nx,h.nk,h.ok,h.sz,h.kv⟩
theorem HeldAt.mono (h:HeldAt S D w mb L) (hs:∀b,S b->S' b):HeldAt S' D w mb L:=⟨h.map,λx a=>(h.cel x a).mono hs,h.nd,h.ap⟩
theorem HeldAt.chg (h:HeldAt S D w mb L) (c:Chg M w w') (e:∀b,S b->Fy w b->¬M b) (d:¬M mb) (f:∀x∈L,¬M x.nb):HeldAt S D w' mb L:=
 ⟨c.keepM d h.map,λx a=>(h.cel x a).chg c e (f x a),h.nd,h.ap⟩
theorem HeldAt.ext (h:HeldAt S D w mb L) (c:Ah w w'):HeldAt S D w' mb L:=h.chg c (λ_ _ _ f=>f) (λf=>f) λ_ _ f=>f
theorem HeldAt.inj (h:HeldAt S D w mb L) {y z:Cel} (b:y∈L) (d:z∈L) (e:y.t=z.t):y=z:=by
 obtain ⟨i,hi⟩:=eS.1 b;obtain ⟨j,a⟩:=eS.1 d;have c:(L.map (·.t))[i]?=(L.map (·.t))[j]?:=by rw[eN,eN,hi,a];simp only[iF,fI];exact e
 have:=(iZ (by rw[dW];exact AX hi) h.nd).1 c;subst this;rw[hi] at a;exact gQ a
theorem HeldAt.get (h:HeldAt S D w mb L) {t:Re} (f:Au t):(∃x∈L,x.t=t∧C_ (L.map FF) (Er t)=some (some x.sb))∨((∀x∈L,x.t≠t)∧C_ (L.map FF) (Er t)=none):=by
 have d:∀x∈L,Au x.t:=λx a=>(h.cel x a).ok;clear h
 induction L with
 | nil=>exact .inr ⟨qP,O⟩
 | cons y L ih=>
  rw[gK];unfold C_;by_cases e:Er y.t=Er t
  .rw[if_pos (show (FF y).1=Er t from e)];exact .inl ⟨y,eJ,YB (d y eJ) f e,O⟩
  .rw[if_neg (show ¬(FF y).1=Er t from e)];rcases ih λx a=>d x (eP _ a) with ⟨x,a,b,c⟩|⟨b,c⟩
   .exact .inl ⟨x,eP _ a,b,c⟩
   .refine .inr ⟨λx a=>?_,c⟩;rcases dZ.1 a with rfl|a
    .exact λg=>e (by rw[g])
    .exact b x a
theorem HeldAt.add (h:HeldAt S D w mb L) (hs:∀b,S b->S' b) (c:Chg (λq=>q=mb) w w') (l:Bl w' mb EK ED (C4 (L.map FF) (Er x.t) (some x.sb))) (m:CelAt S' D w' x) (i:∀y∈L,y.t≠x.t) (o:x.nb≠mb) (n:∀y∈L,y.nb≠x.nb):HeldAt S' D w' mb (L++[x]):=by
 have f:C_ (L.map FF) (Er x.t)=none:=by
  rcases h.get m.ok with ⟨y,a,e,_⟩|⟨_,e⟩
  .exact absurd e (i y a)
  .exact e
 have d:=h.ap;rw[kD] at d;refine ⟨?_,λy a=>?_,?_,?_⟩
 .rw[E_ _ f] at l;rw[eT];exact l
 .rcases eC.1 a with a|a
  .exact ((h.cel y a).chg c (λq _ hn e=>by subst e;exact h.map.no hn) λe=>d.1 (eU.2 ⟨y,a,e⟩)).mono hs
  .rw[dO.1 a];exact m
 .rw[eT,gN];refine ⟨h.nd,qP,λu k v j e=>?_⟩;obtain ⟨y,a,rfl⟩:=eU.1 k;simp at j;exact i y a (e.trans j)
 .rw[eT,kD];refine ⟨λg=>?_,?_⟩
  .rcases eC.1 g with g|g
   .exact d.1 g
   .simp at g;exact o g.symm
  .rw[gN];refine ⟨d.2,qP,λu k v j e=>?_⟩;obtain ⟨y,a,rfl⟩:=eU.1 k;simp at j;exact n y a (e.trans j)
theorem RepA.none (b a:Int):RepA [] ⟨λ_=>False,λ_ _=>False,0,b,a⟩:=⟨qP,qP,O⟩
theorem RepA.add (h:RepA L a) (f:x.ns=[]):RepA (L++[x]) ⟨λy=>a.dom y∨y=x.t,a.kn,a.n+1,a.made,a.drops⟩:=by
 refine ⟨λt=>?_,λt c=>?_,by rw[dN,<-h.n];rfl⟩
 .show a.dom t∨t=x.t↔_;rw[h.dom t];constructor
  .rintro (⟨y,b,d⟩|rfl)
   .exact ⟨y,iE _ b,d⟩
   .exact ⟨x,lI _ (dO.2 O),O⟩
  .rintro ⟨y,b,d⟩;rcases eC.1 b with b|b
   .exact .inl ⟨y,b,d⟩
   .rw[dO.1 b] at d;exact .inr d.symm
 .show a.kn t c↔_;rw[h.kn t c];constructor
  .rintro ⟨y,b,d⟩;exact ⟨y,iE _ b,d⟩
  .rintro ⟨y,b,d,e⟩;rcases eC.1 b with b|b
   .exact ⟨y,b,d,e⟩
   .rw[dO.1 b,f] at e;cases e
theorem RepA.one (hx:x.ns=[]) (made drops:Int):RepA [x] ⟨λy=>y=x.t,λ_ _=>False,1,made,drops⟩:=by
 refine ⟨λt=>?_,λt c=>?_,O⟩
 ·constructor
  ·rintro rfl;exact ⟨x,dO.2 O,O⟩
  ·rintro ⟨y,h1,h2⟩;rw[dO.1 h1] at h2;exact h2.symm
 ·constructor
  ·intro f;exact f.elim
  ·rintro ⟨y,h1,h2,h3⟩;rw[dO.1 h1,hx] at h3;cases h3
end
end Go.Proofs
namespace Go.Eng
open Go
theorem TZ {P:Program} {N:Nat} {Q:EF} {σ:CZ} {w:World} {x:Code} {K:CZ->World->Prop} (J:CZ->World->Prop) (h:Wp P N x (NE J Q) σ w) (k:∀σ' w',J σ' w'->K σ' w'):Wp P N x (NE K Q) σ w:=
 TX h λe σ' w' q=>by cases e<;>first|exact k _ _ q|exact q
end Go.Eng
namespace Go.Proofs
open Go Go.Eng Go.Sort
set_option maxRecDepth 100000
def Is (most:Nat) (a:LzA Re) (t:Re) (L:List Cel) (mb n0:Nat) (L':List Cel) (mb':Nat):Prop:=
 (a.dom t∧L'=L∧mb'=mb)∨(¬a.dom t∧∃c:Cel,c.t=t∧c.ns=[]∧n0<=c.nb∧((a.n=most∧L'=[c]∧n0<=mb')∨(a.n≠most∧L'=L++[c]∧mb'=mb)))
theorem Is.rep {most:Nat} {a:LzA Re} {t:Re} {L L':List Cel} {mb n0 mb':Nat} (h:Is most a t L mb n0 L' mb') (r:RepA L a):RepA L' (holdA most a t):=by
 rcases h with ⟨hd,rfl,_⟩|⟨hd,c,rfl,hn,_,⟨b,rfl,_⟩|⟨b,rfl,_⟩⟩
 .rw[GD hd];exact r
 .rw[FB hd b];exact RepA.one hn _ _
 .rw[FY hd b];exact RepA.add r hn
theorem Is.of {most:Nat} {a:LzA Re} {t:Re} {L f:List Cel} {mb n0 b:Nat} {d:Int} (hd:¬a.dom t) (k:(a.n=most∧f=[]∧n0<=b∧d=Et a.drops)∨(a.n≠most∧f=L∧b=mb∧d=a.drops)) {X:Cel} (j:X.t=t) (i:X.ns=[]) (h:n0<=X.nb):Is most a t L mb n0 (f++[X]) b∧(holdA most a t).drops=d:=by
 rcases k with ⟨c,rfl,e,g⟩|⟨c,rfl,e,g⟩
 .exact ⟨.inr ⟨hd,X,j,i,h,.inl ⟨c,O,e⟩⟩,by rw[FB hd c,g]⟩
 .exact ⟨.inr ⟨hd,X,j,i,h,.inr ⟨c,O,e⟩⟩,by rw[FY hd c,g]⟩
theorem V6 (S:Nat→Prop) (D:Re→Int→Re) (w0:World) (b mb most:Nat) (t:Re) (vs:n_) (x0 x1 x2 x3 x4 x5 vc:Value) (L:List Cel) (a:LzA Re)
  (hB:BV w0 b #[x0,x1,x2,x3,x4,x5,I6 ((most:Nat):Int),vc,.map (some mb),I6 a.made,I6 a.drops] Ky)
  (hH:HeldAt S D w0 mb L) (hR:RepA L a) (hb:¬S b) (ht:AR S w0 t vs) (hs:Au t) (hz:t.size≤300) (hm:1≤most∧most≤100) (hn:a.n≤most) :
  Bj prog 90 #[P6 b 0,.string (Er t),.agg vs.toArray] w0 λ_ w=>∃mb' L',Is most a t L mb w0.heap.size L' mb'∧
   BV w b #[x0,x1,x2,x3,x4,x5,I6 ((most:Nat):Int),vc,.map (some mb'),I6 (holdA most a t).made,I6 (holdA most a t).drops] Ky∧
   HeldAt (λy=>S y∨w0.heap.size≤y) D w mb' L'∧Chg (λq=>q=b∨q=mb) w0 w:=by
 have be:=ht;obtain ⟨sa,sc,aa,ac,rfl,bq,bu,a8⟩:=ht.form;have af:=hH.map;have bj:=hH;have a7:=hR.n;obtain ⟨o,ho⟩:∃o,o=(C_ (L.map FF) (Er t)).getD none:=⟨_,rfl⟩;have a4:o.isSome=true↔a.dom t:=by
  rw[hR.dom t,ho];rcases hH.get hs with ⟨x,hx,h1,h2⟩|⟨h1,h2⟩
  ·rw[h2];exact ⟨λ_=>⟨x,hx,h1⟩,λ_=>rfl⟩
  ·rw[h2];exact ⟨λh=>(Bool.noConfusion h),λ⟨x,hx,h⟩=>absurd h (h1 x hx)⟩
 refine Ew func90 rfl ntmps90 (RV rfl) ?_;have E:Chg (λq=>q=b∨q=mb) w0 w0:=Chg.refl _ _;refine AA (BC (v:=(.agg (R6 t sa sc aa ac))) (c:=(R6 t sa sc aa ac)) qD rfl rfl ?_);intro br wr Nr;have Fr:=Nr.ge E;have Or_b:=Nr.lt hB;have Or_mb:=Nr.ltM af;have hB:=Nr.keep hB;have af:=Nr.keepM af;have hH:=hH.ext Nr.ext;have E:=E.ext Nr.ext;have Br:=Nr.blk;refine AB (AH (AA (qM _ rfl (qV (Ay rfl) (qF b 0 8 rfl fS rfl G7 rfl (qV (AJ rfl Hh (hB.cell rfl)) (qM _ rfl (CM (v:=(ED o)) rfl rfl qD (Eq.trans (JL (eV:=ED) (k:=(Er t)) (z:=none) iT (H0 hY) Oa af rfl rfl) (by rw[←ho])) (qV (VO underlying117 rfl rfl) (AB (A4 rfl (λak=>?_) (λak=>?_))))))))))))
 ·have a0:=ak;have hd:=a4.1 ak;refine AO (AK (IW results90 ?_));exact ⟨mb,L,.inl ⟨hd,rfl,rfl⟩,by rw[GD hd];exact hB,hH.mono λ_ h=>.inl h,E⟩
 ·have a0:=ak;have hd:¬a.dom t:=λh=>by rw[a4.2 h] at ak;exact Bool.noConfusion ak
  refine AM (AC (AH ?_));have bo:w0.heap.size≤wr.heap.size:=E.size;have ax:b<wr.heap.size:=hB.lt;have ar:mb<wr.heap.size:=af.lt;have aq:br<wr.heap.size:=Br.lt;refine AH ?_;obtain ⟨bb,ae⟩:∃Fs:List CW,Fs=[(eF (P6 b 0)),(eF (P6 b 0)),(eF (P6 b 8)),(eF (.map (some mb))),(eF (I6 (((L.map FF).length:Nat):Int))),(eF (P6 b 0)),(eF (P6 b 0)),(eF (P6 b 6)),(eF (I6 (most:Int))),(eF undef)]:=⟨_,rfl⟩;refine EE (M6 []) [true,true,true,true,true,true,true,true,true,false] [9] [13,14,15,16,17,18,19,20,21,52] [[],[0],[1],[2],[3],[],[5],[6],[7],[]] [[],[0],[1,0],[2,1,0],[3,2,1,0],[],[5],[6,5],[7,6,5],[]] bb ae qK mixed qK qK qK qK ?_ ?_
  ·intro wd X0;refine qZ (λS s' w' hi hN X U V H=>?_) ?_
   ·have X:=Cq X;exact Ab (Am (U 0 rfl)) rfl
   refine qZ (λS s' w' hi hN X U V H=>?_) ?_
   ·have X:=Cq X;have a9:=(H 0 rfl).2 13 _ rfl (by rw[ae];rfl);exact Ab (Ay a9) rfl
   refine qZ (λS s' w' hi hN X U V H=>?_) ?_
   ·have X:=Cq X;have bn:=(H 1 rfl).2 14 _ rfl (by rw[ae];rfl);exact Ab (AQ bn fS rfl G7 rfl) rfl
   refine qZ (λS s' w' hi hN X U V H=>?_) ?_
   ·have X:=Cq X;have b7:=(H 2 rfl).2 15 _ rfl (by rw[ae];rfl);exact Ab (AJ b7 Hh (((X0.trans X).keep hB).cell rfl)) rfl
   refine qZ (λS s' w' hi hN X U V H=>?_) ?_
   ·have X:=Cq X;have bp:=(H 3 rfl).2 16 _ rfl (by rw[ae];rfl);exact Ab (Pf iT ((Ah.trans X0 X).keepM af) bp) rfl
   refine qZ (λS s' w' hi hN X U V H=>?_) ?_
   ·have X:=Cq X;exact Ab (Am (U 0 rfl)) rfl
   refine qZ (λS s' w' hi hN X U V H=>?_) ?_
   ·have X:=Cq X;have bc:=(H 5 rfl).2 18 _ rfl (by rw[ae];rfl);exact Ab (Ay bc) rfl
   refine qZ (λS s' w' hi hN X U V H=>?_) ?_
   ·have X:=Cq X;have bg:=(H 6 rfl).2 19 _ rfl (by rw[ae];rfl);exact Ab (AQ bg fS rfl Al rfl) rfl
   refine qZ (λS s' w' hi hN X U V H=>?_) ?_
   ·have X:=Cq X;have bt:=(H 7 rfl).2 20 _ rfl (by rw[ae];rfl);exact Ab (AJ bt Ag (((X0.trans X).keep hB).cell rfl)) rfl
   refine DagStepsS.tail ?_;exact DagStepsS.nil
  ·intro s' wd2 w2 X0 X2 U H;have X2:=X2.mono (M':=Aj) (λy _ h=>by
     obtain ⟨j,hj,h⟩:=h;exact h.elim)
   have b8:=H 4 rfl 17 _ rfl (by rw[ae];rfl);have b3:=H 8 rfl 21 _ rfl (by rw[ae];rfl);obtain ⟨j2,rfl⟩:=Ak.out (σ:=s') (l:=[(0,(P6 b 0)),(1,(.string (Er t))),(5,(P6 br 0)),(17,(I6 (((L.map FF).length:Nat):Int))),(21,(I6 ((most:Nat):Int)))]) ⟨U 0 rfl,U 1 rfl,U 5 rfl,b8,b3,trivial⟩;clear U H;have hB:=(X0.trans X2).keep hB;have af:=(X0.trans X2).keepM af;have Br:=(X0.trans X2).keep Br;have hH:=hH.ext (X0.trans X2);have X2:=X0.trans X2;have E:=E.ext X2;refine qV (Ai rfl rfl) (AB (AC (TZ (λσ W3=>∃(ag:Nat) (L1:List Cel) (dr:Int),(∃jj_,σ=BW jj_ [(0,(P6 b 0)),(1,(.string (Er t))),(5,(P6 br 0))])∧Chg (λq=>q=b∨q=mb) w0 W3∧BV W3 b (#[x0,x1,x2,x3,x4,x5,I6 (most:Int),vc,.map (some ag),I6 a.made,I6 dr]) Ky∧BV W3 br (R6 t sa sc aa ac) 25∧(HeldAt S D W3 ag L1)∧((a.n=most∧L1=[]∧w0.heap.size≤ag∧dr=Et a.drops)∨(a.n≠most∧L1=L∧ag=mb∧dr=a.drops))) ?_ ?_)))
   ·skip
    refine qC rfl (λah=>?_) (λah=>?_)
    ·refine AA (qM _ rfl (G9 EK ED qD ?_));intro bm wm Nm;have Fm:=Nm.ge E;have Om_b:=Nm.lt hB;have Om_br:=Nm.lt Br;have hB:=Nm.keep hB;have Br:=Nm.keep Br;have E:=E.ext Nm.ext;intro Mm;refine qV (Ay rfl) (qF b 0 8 rfl fS rfl G7 rfl (CB (b:=b) (o:=8) (c':=#[x0,x1,x2,x3,x4,x5,(I6 (most:Int)),vc,(.map (some bm)),(I6 a.made),(I6 a.drops)]) (v:=(.map (some bm))) rfl rfl rfl G7 hB qP rfl ?_));intro w5 S5;have Br:=S5.keep qO Br;have Mm:=S5.keepM qO Mm;have E:=S5.step E (by first|exact dH qO|assumption|exact dG rfl|exact dG (by assumption)|exact dG qP|exact dG qO|exact dG (by dsimp only;omega));have hB:=S5.blk;refine AB (AN (qM _ rfl (qV (Ay rfl) (qF b 0 10 rfl fS rfl Al rfl (qV (AJ rfl Ag (hB.cell rfl)) (qV (A0 (c:=Et a.drops) rfl rfl (rfl)) (qV (Ay rfl) (qF b 0 10 rfl fS rfl Al rfl (CB (b:=b) (o:=10) (c':=#[x0,x1,x2,x3,x4,x5,(I6 (most:Int)),vc,(.map (some bm)),(I6 a.made),(I6 (Et a.drops))]) (v:=(I6 (Et a.drops))) rfl rfl rfl Al hB qP rfl ?_)))))))));intro w6 S6;have Br:=S6.keep qO Br;have Mm:=S6.keepM qO Mm;have E:=S6.step E (by first|exact dH qO|assumption|exact dG rfl|exact dG (by assumption)|exact dG qP|exact dG qO|exact dG (by dsimp only;omega));have hB:=S6.blk;refine AB (AC ?_);exact ⟨bm,[],Et a.drops,oH,E,hB,Br,⟨Mm,qP,g_,qP⟩,.inl ⟨by have h9:=ah;rw[dW,←a7] at h9;omega,rfl,qO,rfl⟩⟩
    ·refine AM (AC ?_);exact ⟨mb,L,a.drops,oH,E,hB,Br,hH,.inr ⟨by have h9:=ah;rw[dW,←a7] at h9;omega,rfl,rfl,rfl⟩⟩
   ·clear E hB Br;rintro _ W3 ⟨ag,L1,dr,⟨j3,rfl⟩,E,hB,Br,aj,az⟩;have ab:=aj.map;obtain ⟨z0,aw⟩:∃z0,z0=(W3).heap.size:=⟨_,rfl⟩;have hbm:b≠ag:=D9 hB ab;have hbr:br≠ag:=D9 Br ab;have a1:w0.heap.size≤ag∨(ag=b∨ag=mb):=by rcases az with h|h;exact .inl h.2.2.1;exact .inr (.inr h.2.2.1)
    have hml:ag<z0:=by rw[aw];exact ab.lt
    have b5:∀y∈L1,y.nb<z0:=λy hy=>by rw[aw];exact (aj.cel y hy).nx.lt
    have hwz:w0.heap.size≤z0:=by rw[aw];exact E.size
    have bw:w0.heap.size≤W3.heap.size:=E.size;have ay:b<W3.heap.size:=hB.lt;have ap:br<W3.heap.size:=Br.lt;have al:ag<W3.heap.size:=ab.lt;obtain ⟨bs,ad⟩:∃Fs:List CW,Fs=[(eF (P6 b 0)),(eF (P6 b 0)),(eF (P6 b 8)),(eF (.map (some ag))),(eF (.string (Er t))),(eF (.agg (R6 t sa sc aa ac))),(λ_ _=>Oq Eh EK ([]:List (Int×ByteArray)) z0),(λ_ _=>R_ (oJ t sa sc aa ac) [] z0),(λ_ _=>Qk (oJ t sa sc aa ac) [] SE z0),(eF undef)]:=⟨_,rfl⟩;refine EE (M6 []) [true,true,true,true,true,true,true,true,true,false] [9] [34,35,36,37,38,39,40,41,42,52] [[],[0],[1],[2],[],[],[],[5,6],[7],[]] [[],[0],[1,0],[2,1,0],[],[],[],[5,6],[7,5,6],[]] bs ad qK mixed qK qK qK qK ?_ ?_
    ·intro wd X0;refine qZ (λS s' w' hi hN X U V H=>?_) ?_
     ·have X:=Cq X;exact Ab (Am (U 0 rfl)) rfl
     refine qZ (λS s' w' hi hN X U V H=>?_) ?_
     ·have X:=Cq X;have b9:=(H 0 rfl).2 34 _ rfl (by rw[ad];rfl);exact Ab (Ay b9) rfl
     refine qZ (λS s' w' hi hN X U V H=>?_) ?_
     ·have X:=Cq X;have bx:=(H 1 rfl).2 35 _ rfl (by rw[ad];rfl);exact Ab (AQ bx fS rfl G7 rfl) rfl
     refine qZ (λS s' w' hi hN X U V H=>?_) ?_
     ·have X:=Cq X;have b6:=(H 2 rfl).2 36 _ rfl (by rw[ad];rfl);exact Ab (AJ b6 Hh (((X0.trans X).keep hB).cell rfl)) rfl
     refine qZ (λS s' w' hi hN X U V H=>?_) ?_
     ·have X:=Cq X;exact Ab (Am (U 1 rfl)) rfl
     refine qZ (λS s' w' hi hN X U V H=>?_) ?_
     ·have X:=Cq X;exact Ab (AI (U 5 rfl) Ad AG rfl (((X0.trans X).keep Br).cells rfl)) rfl
     refine DagStepsS.cons (Dl.chg (U:=Aj) (P5 _ _ _ _) (λp y hp hw h=>by
        exact h.elim)) (Hr.const) (λS s' w' hi hN X U V H=>dH ⟨AE rfl,?_⟩) ?_
     ·have X:=Cq X;exact M7 Eh EK (by have:=X0.size;have:=X.size;omega)
     refine DagStepsS.cons (Dl.chg (U:=Aj) (Qm _ _ _) (λp y hp hw h=>by
        exact h.elim)) (Hr.const) (λS s' w' hi hN X U V H=>dH ⟨AE rfl,?_⟩) ?_
     ·have X:=Cq X;have bz:=(H 5 rfl).2 39 _ rfl (by rw[ad];rfl);obtain ⟨av,ba,b2,bk⟩:=(show ((λ_ _=>Oq Eh EK ([]:List (Int×ByteArray)) z0):CW) S s' (s' 40) w' from (H 6 rfl).2 40 (λ_ _=>Oq Eh EK ([]:List (Int×ByteArray)) z0) rfl (by rw[ad];rfl));exact Ab (B0 (ps:=[(0,.agg (R6 t sa sc aa ac)),(1,.map (some av))]) (v:=.agg #[I6 t.kind,.slice sa t.set.length sc,.slice aa t.args.length ac,I6 t.mn,I6 t.mx,.bool t.neg,.map (some av)]) (bB bz ba) qK) ⟨av,rfl,b2,bk⟩
     refine DagStepsS.cons (Dl.chg (U:=Aj) (Qj _ _ _ _) (λp y hp hw h=>by
        exact h.elim)) (Hr.const) (λS s' w' hi hN X U V H=>dH ⟨AE rfl,?_⟩) ?_
     ·have X:=Cq X;obtain ⟨b41,bf,bd,bv⟩:=(show ((λ_ _=>R_ (oJ t sa sc aa ac) [] z0):CW) S s' (s' 41) w' from (H 7 rfl).2 41 (λ_ _=>R_ (oJ t sa sc aa ac) [] z0) rfl (by rw[ad];rfl));exact Mp bf rfl bd bv (by have:=X0.size;have:=X.size;omega)
     refine DagStepsS.tail ?_;exact DagStepsS.nil
    ·intro s' wd7 w7 X0 X7 U H;have X7:=X7.mono (M':=Aj) (λy _ h=>by
       obtain ⟨j,hj,h⟩:=h;exact h.elim)
     have b4:=H 3 rfl 37 _ rfl (by rw[ad];rfl);have b1:=H 4 rfl 38 _ rfl (by rw[ad];rfl);obtain ⟨ao,a5,b0,a6,g42,bi,h42⟩:=(show ((λ_ _=>Qk (oJ t sa sc aa ac) [] SE z0):CW) (Me [true,true,true,true,true,true,true,true,true,false]) s' (s' 42) w7 from H 8 rfl 42 (λ_ _=>Qk (oJ t sa sc aa ac) [] SE z0) rfl (by rw[ad];rfl));obtain ⟨j7,rfl⟩:=Ak.out (σ:=s') (l:=[(37,(.map (some ag))),(38,(.string (Er t))),(42,(P6 ao 0))]) ⟨b4,b1,b0,trivial⟩;clear U H;have hB:=(X0.trans X7).keep hB;have Br:=(X0.trans X7).keep Br;have ab:=(X0.trans X7).keepM ab;have aj:=aj.ext (X0.trans X7);have X7:=X0.trans X7;have E:=E.ext X7;have bh:∀y∈L1,y.t≠t:=λy hy e=>hd ((hR.dom t).2 (by rcases az with h|h;rw[h.2.1] at hy;cases hy;exact ⟨y,h.2.1▸hy,e⟩));obtain ⟨X,ai,a2,au,am,an⟩:∃X:Cel,X.t=t∧X.vs=(oJ t sa sc aa ac)∧X.sb=ao∧X.nb=a5∧X.ns=[]:=⟨⟨t,_,ao,a5,[]⟩,rfl,rfl,rfl,rfl,rfl⟩;have a3:=Is.of hd az ai an (by rw[am];omega);refine Ea (eV:=ED) (k:=(Er t)) (v:=(some ao)) iT (H0 hY) ab rfl rfl rfl ?_;intro w8 S8 H8;have hB:=S8.keep qO hB;have Br:=S8.keep qO Br;have E:=S8.step E (a1);have ab:=H8;refine AB (GU results90 ?_);exact ⟨ag,L1++[X],a3.1,by rw[IU,a3.2];exact hB,aj.add (λ_ h=>.inl h) S8.chg (by rw[ai,au];exact ab) ⟨by rw[a2,au,am];exact S8.keep (D9 a6 aj.map) a6,by rw[au];exact .inr qO,by rw[ai,a2];exact AR.mono (λ_ h=>.inl h) _ (AR.chgM E (λy hy hn e=>by rcases e with rfl|rfl;exact hb hy;exact bj.map.no hn) be),by rw[am,an];exact S8.keepM qO bi,by rw[an];exact Ge.nil,by rw[ai];exact hs,by rw[ai];exact hz,λ_ h=>by rw[an] at h;cases h⟩ (by rw[ai];exact bh) (by rw[am];omega) (λy hy=>by have:=b5 y hy;rw[am];omega),E⟩
end Go.Proofs
namespace Go.Eng
open Go
theorem B_.ltg {S:oD} {w:World} {k:Nat} {v:Value} {rows:List n_} (h:B_ S w k v rows) (g:∀r∈rows,r≠[]):B_ (λb=>S b∧b<w.heap.size) w k v rows:=by
 obtain ⟨a,cap,j,f,d,l⟩:=h;refine ⟨a,cap,j,f,d,?_⟩;rcases l with h|⟨b,o,hb,i,c⟩
 .exact .inl h
 .cases rows with
  | nil=>exact .inl O
  | cons r rs=>
   cases r with
   | nil=>exact absurd O (g [] eJ)
   | cons u e=>
    have:=c 0 (u::e) O 0 _ O;exact .inr ⟨b,o,⟨hb,World.block_lt_of_cell? w _ this⟩,i,c⟩
end Go.Eng
namespace Go.Proofs
open Go Go.Eng Go.Sort
set_option maxRecDepth 100000
theorem Ct.lt {S:oD} {w:World} {v:Value} {ll:nZ} (h:Ct S w v ll):Ct (λb=>S b∧b<w.heap.size) w v ll:=by
 obtain ⟨vs,f,d,c⟩:=h;exact ⟨vs,f.ltg (λr a=>by obtain ⟨p,_,rfl⟩:=eU.1 a;simp),d,λi u l g e=>(c i u l g e).ltg λr a=>by obtain ⟨p,_,rfl⟩:=eU.1 a;simp[Ba]⟩
structure LzF (S:oD) (cs:nZ) (w:World) (f:Re) (fv:n_) (vc:Value) (mb:Nat) (L:List Cel):Prop where
 hf:AR S w f fv
 sp:Ct S w vc cs
 hd:HeldAt S (EU cs) w mb L
section
variable {S S' M : Nat → Prop} {cs : List (List Sp)} {w w' : World} {f : Re} {fv : List Value} {vc : Value} {mb : Nat} {L : List Cel}
theorem LzF.mono (h:LzF S cs w f fv vc mb L) (hs:∀b,S b->S' b):LzF S' cs w f fv vc mb L:=⟨AR.mono hs _ h.hf,h.sp.mono hs,h.hd.mono hs⟩
theorem LzF.chg (h:LzF S cs w f fv vc mb L) (c:Chg M w w') (a:∀b,S b->Fy w b->¬M b) (d:¬M mb) (e:∀x∈L,¬M x.nb):LzF S cs w' f fv vc mb L:=
 ⟨AR.chgM c a h.hf,h.sp.chgM c a,h.hd.chg c a d e⟩
theorem LzF.ext (h:LzF S cs w f fv vc mb L) (c:Ah w w'):LzF S cs w' f fv vc mb L:=h.chg c (λ_ _ _ f=>f) (λf=>f) λ_ _ f=>f
theorem LzF.cells (h:LzF S cs w f fv vc mb L) {q:Nat} (c:Chg (λy=>y=q) w w') (d:¬S q) (hn:Fy w q):LzF S cs w' f fv vc mb L:=
 h.chg c (λb hb _ e=>d (e▸hb)) (λe=>h.hd.map.no (e▸hn)) λx a e=>(h.hd.cel x a).nx.no (e▸hn)
theorem CelAt.lt {D:Re->Int->Re} {x:Cel} (h:CelAt S D w x):CelAt (λb=>S b∧b<w.heap.size) D w x:=⟨h.blk,⟨h.sb,h.blk.lt⟩,AR.lt _ h.re,h.nx,h.nk,h.ok,h.sz,h.kv⟩
theorem LzF.lt (h:LzF S cs w f fv vc mb L):LzF (λb=>S b∧b<w.heap.size) cs w f fv vc mb L:=⟨AR.lt _ h.hf,h.sp.lt,h.hd.map,λx a=>(h.hd.cel x a).lt,h.hd.nd,h.hd.ap⟩
end
section
variable {S : Nat → Prop} {D : Re → Int → Re} {w w' : World} {x : Cel} {mb i : Nat} {L : List Cel} {a : LzA Re} {n : Int} {q : ByteArray}
def UA (x:Cel) (n:Int) (q:ByteArray):Cel:=⟨x.t,x.vs,x.sb,x.nb,C4 x.ns n q⟩
theorem J1 {y:Cel} (c:L[i]?=some x) (b:y∈L.set i (UA x n q)):y=UA x n q∨∃j,j≠i∧L[j]?=some y:=by
 obtain ⟨j,a⟩:=eS.1 b;rw[fG] at a;by_cases e:i=j
 .rw[if_pos e,if_pos (AX c)] at a;cases a;exact .inl O
 .rw[if_neg e] at a;exact .inr ⟨j,λh=>e h.symm,a⟩
theorem PY (a:L[i]?=some x):UA x n q∈L.set i (UA x n q):=dK (i:=i) (by rw[fG,if_pos O,if_pos (AX a)])
theorem Tk {y:Cel} {j:Nat} (b:L[j]?=some y) (a:j≠i):y∈L.set i (UA x n q):=dK (i:=j) (by rw[fG,if_neg (λh=>a h.symm)];exact b)
theorem Pg:∀{es:List (Int×ByteArray)} {k:Int} {b:ByteArray},∀p∈C4 es k b,p∈es∨p=(k,b)
 | [],k,b,p,h=>by
  unfold C4 at h;exact .inr (dO.1 h)
 | e::es,k,b,p,h=>by
  unfold C4 at h;split at h
  .rcases dZ.1 h with h|h
   .exact .inr h
   .exact .inl (eP _ h)
  .rcases dZ.1 h with h|h
   .exact .inl (by rw[h];exact eJ)
   .rcases Pg p h with h|h
    .exact .inl (eP _ h)
    .exact .inr h
theorem map_set {β:Type} (g:Cel->β) (a:L[i]?=some x) (b:g (UA x n q)=g x):(L.set i (UA x n q)).map g=L.map g:=by
 apply fW;intro j;rw[eN,fG,eN];by_cases e:i=j
 .subst e;rw[if_pos O,if_pos (AX a),a];simp[b]
 .rw[if_neg e]
theorem HeldAt.know (h:HeldAt S D w mb L) (g:L[i]?=some x) (c:Chg (λy=>y=x.nb) w w') (u:Bl w' x.nb Eh EK (C4 x.ns n q)) (z:q=Er (D x.t n)):HeldAt S D w' mb (L.set i (UA x n q)):=by
 have d:=h.ap;rw[kD] at d;have k:=dK g;have a:=h.cel x k;have f:∀b,S b->Fy w b->¬b=x.nb:=λb _ hn e=>a.nx.no (e▸hn);refine ⟨?_,λy v=>?_,?_,?_⟩
 .rw[map_set FF g rfl];exact c.keepM (λe=>d.1 (eU.2 ⟨x,k,e.symm⟩)) h.map
 .rcases J1 g v with rfl|⟨j,l,o⟩
  .exact ⟨c.keep (f _ a.sb (DT a.blk)) a.blk,a.sb,AR.chgM c f a.re,u,a.nk.put _ _,a.ok,a.sz,λp r=>by
    rcases Pg p r with m|m
    .exact a.kv p m
    .rw[m];exact z⟩
  .refine (h.cel y (dK o)).chg c f λe=>?_;have s:(L.map (·.nb))[j]?=(L.map (·.nb))[i]?:=by rw[eN,eN,o,g];simp only[iF,fI];exact e
   exact l ((iZ (by rw[dW];exact AX o) d.2).1 s)
 .rw[map_set (·.t) g rfl];exact h.nd
 .rw[map_set (·.nb) g rfl];exact h.ap
theorem RepA.know (h:RepA L a) (hx:L[i]?=some x):RepA (L.set i (UA x n q)) (knowA a x.t n):=by
 have aa:=dK hx;rw[Gk ((h.dom x.t).2 ⟨x,aa,O⟩)];have mm:∀(l:List Cel) (t:Re),(∃y∈l,y.t=t)↔t∈l.map (·.t):=λl t=>by rw[eU]
 refine ⟨λt=>?_,λt c=>?_,by rw[iO];exact h.n⟩
 ·show a.dom t↔_;rw[h.dom t,mm,mm,map_set (·.t) hx rfl]
 ·show a.kn t c∨(t=x.t∧c=n)↔_;rw[h.kn t c];constructor
  ·rintro (⟨y,hy,h1,h2⟩|⟨rfl,rfl⟩)
   ·obtain ⟨j,hj⟩:=eS.1 hy;by_cases e:j=i
    ·subst e;rw[hx] at hj;cases hj;refine ⟨_,PY hx,h1,?_⟩;show (C_ (C4 x.ns n q) c).isSome=true;rw[JY];split
     ·rfl
     ·exact h2
    ·exact ⟨y,Tk hj e,h1,h2⟩
   ·refine ⟨_,PY hx,O,?_⟩;show (C_ (C4 x.ns c q) c).isSome=true;rw[JY,if_pos rfl];rfl
  ·rintro ⟨y,hy,h1,h2⟩;rcases J1 hx hy with rfl|⟨j,_,hj⟩
   ·have h3:(C_ (C4 x.ns n q) c).isSome=true:=h2;rw[JY] at h3;by_cases e:n=c
    ·exact .inr ⟨h1.symm,e.symm⟩
    ·rw[if_neg e] at h3;exact .inl ⟨x,aa,h1,h3⟩
   ·exact .inl ⟨y,dK hj,h1,h2⟩
end
mutual
def Cu (P:List (Int×Int)->Prop):Re->Prop
  | .mk k s a _ _ _=>(k=2->P s)∧IF P a
def IF (P:List (Int×Int)->Prop):List Re->Prop
  | []=>True
  | t::ts=>Cu P t∧IF P ts
end
section
variable {P : List (Int × Int) → Prop}
theorem HR {ts:List Re}:IF P ts↔∀t∈ts,Cu P t:=by
 induction ts with
 | nil=>simp[IF]
 | cons t ts ih=>simp only[IF,ih,dZ,forall_eq_or_imp]
theorem Cu.s {t:Re} (h:Cu P t):t.kind=2->P t.set:=by cases t;exact h.1
theorem Cu.a {t:Re} (h:Cu P t):∀x∈t.args,Cu P x:=by cases t;exact HR.1 h.2
theorem Jm {k m x:Int} {a:List Re} {g:Bool} {s:List (Int×Int)} (b:k=2->P s) (h:∀x∈a,Cu P x):Cu P (.mk k s a m x g):=⟨b,HR.2 h⟩
theorem FJ:Cu P BO:=Jm (λh=>absurd h qD) qP
theorem GZ:Cu P BT:=Jm (λh=>absurd h qD) qP
theorem Wq:Cu P Ei:=Jm (λh=>absurd h qD) (λx a=>by rw[dO.1 a];exact FJ)
theorem OV {k:Int} {l:List Re} (h:∀x∈l,Cu P x):∀x∈BS k l,Cu P x:=by
 intro x d;obtain ⟨y,b,⟨_,c⟩|⟨_,rfl⟩⟩:=D7.1 d
 .exact (h y b).a x c
 .exact h x b
theorem KW {k:Int} {z:Re} {l:List Re} (a:k≠2) (b:Cu P z) (h:∀x∈l,Cu P x):Cu P (CT k z l):=by
 match l,h with
 | [],_=>exact b
 | [x],h=>exact h x qP
 | x::y::l,h=>exact Jm (λe=>absurd e a) h
theorem Jn {l:List Re} (h:∀x∈l,Cu P x):Cu P (De l):=by
 unfold De;split
 .exact FJ
 .exact KW qD GZ λx a=>OV h x (Hk.1 a).1
theorem Qr {k:Int} {l:List Re} {b c:Re->Bool} {z:Re} (d:k≠2) (e:Cu P z) (h:∀x∈l,Cu P x):Cu P (Gw k l b c z):=by
 unfold Gw;split
 .rename_i x a
  exact h x (jA a)
 .exact KW d e λx a=>OV h x (Hk.1 (G5.1 (IX.1 a))).1
theorem If {a:List Re} (h:∀x∈a,Cu P x):Cu P (a.headD BO):=by
 cases a with
 | nil=>exact FJ
 | cons x a=>exact h x qP
theorem Ie {k m x:Int} {a:List Re} {g:Bool} {s:List (Int×Int)} (d:k=2->P s) (h:∀x∈a,Cu P x):Cu P (C5 k s a m x g):=by
 have c:=If h;have b:Cu P (.mk k s a m x g):=Jm d h;unfold C5;dsimp only;split
 .exact Jn h
 split
 .exact Qr qD FJ h
 split
 .exact Qr qD Wq h
 split
 .split
  .exact GZ
  split
  .exact c
  .exact b
 split
 .split
  .exact GZ
  split
  .exact c
  .exact b
 split
 .split
  .exact If c.a
  .exact b
 .exact b
end
mutual
theorem Qp {P:List (Int×Int)->Prop}:∀{t:Re},Cu P t->Cu P (CR t)
 | .mk k s a m x g,h=>by
  simp only[CR];exact Ie h.1 (OT h.2)
theorem OT {P:List (Int×Int)->Prop}:∀{ts:List Re},IF P ts->∀x∈DF ts,Cu P x
 | [],_,x,a=>by simp[DF] at a
 | t::ts,h,x,a=>by
  simp only[DF,dZ] at a;rcases a with rfl|a
  .exact Qp h.1
  .exact OT h.2 x a
end
mutual
theorem KX {P:List (Int×Int)->Prop} (c:Int):∀{t:Re},Cu P t->Cu P (A_ c t)
 | .mk k s a m x g,h=>by
  have ih:=Mc c h.2;have f:=HR.1 h.2;have d:=If ih;have i:=If f;simp only[A_];split
  .split
   .exact GZ
   .exact FJ
  split
  .exact Md c h.2
  split
  .rename_i hk
   exact Ie (λe=>qO) ih
  split
  .exact Jn λy b=>by
    simp only[dZ,eY,or_false] at b;rcases b with rfl|rfl
    .exact d
    .exact h
  split
  .exact Jn λy b=>by
    simp only[dZ,eY,or_false] at b;rcases b with rfl|rfl
    .exact d
    .exact Ie (λe=>qO) λz j=>by rw[dO.1 j];exact i
  .exact FJ
theorem Mc {P:List (Int×Int)->Prop} (c:Int):∀{ts:List Re},IF P ts->∀x∈CO c ts,Cu P x
 | [],_,x,a=>by simp[CO] at a
 | t::ts,h,x,a=>by
  simp only[CO,dZ] at a;rcases a with rfl|a
  .exact KX c h.1
  .exact Mc c h.2 x a
theorem Md {P:List (Int×Int)->Prop} (c:Int):∀{ts:List Re},IF P ts->Cu P (Ek c ts)
 | [],_=>FJ
 | t::ts,h=>by
  have b:=KX c h.1;have g:=Md c h.2;have f:Cu P (CT 3 BT ts):=KW qD GZ (HR.1 h.2);simp only[Ek];split
  .exact b
  have d:Cu P (De [A_ c t,CT 3 BT ts]):=Jn λy a=>by
   simp only[dZ,eY,or_false] at a;rcases a with rfl|rfl
   .exact b
   .exact f
  split
  .exact Ie (λe=>qO) λy a=>by
    simp only[dZ,eY,or_false] at a;rcases a with rfl|rfl
    .exact d
    .exact g
  .exact d
end
end Go.Proofs
