/- Contracts and plain lemmas, part 4. -/
import Derived.Test.YtfbglkkidenifaaGreatDl3
open Go.Proofs.Tryz
set_option maxHeartbeats 16000000
set_option linter.unusedVariables false
namespace Go.Proofs
open Go Go.Eng Go.Sort
set_option maxRecDepth 100000
/-- A value that is an expression within some blocks. -/
def reG (S:Nat→Prop) (x:Re):Fct:=fun v w=>∃sa sc aa ac,v=.agg #[.int .i64 x.kind,.slice sa x.set.length sc,.slice aa x.args.length ac,.int .i64 x.mn,.int .i64 x.mx,.bool x.neg]∧zAe S w x [.int .i64 x.kind,.slice sa x.set.length sc,.slice aa x.args.length ac,.int .i64 x.mn,.int .i64 x.mx,.bool x.neg]
theorem zBF (S:Nat→Prop) (x:Re):zGq (reG S x):=by
 rintro v w w' e ⟨sa,sc,aa,ac,h1,h2⟩;exact ⟨sa,sc,aa,ac,h1,zAe.ext e x h2⟩
theorem zBk {S S':Nat→Prop} {x:Re} {v:Value} {w:World} (hS:∀b,S' b→S b) (h:∃us:List Value,v=.agg us.toArray∧zAe S' w x us):reG S x v w:=by
 obtain ⟨us,rfl,h⟩:=h;have h2:=zAe.mono hS x h;obtain ⟨sa,sc,aa,ac,rfl,_⟩:=h2.form;exact ⟨sa,sc,aa,ac,rfl,h2⟩
theorem zFx {S:Nat→Prop} {w:World} {t:Re} {sa aa:Option Addr} {k m x:Int} {n sc n' ac:Nat} {ng:Bool} (h:zAe S w t [.int .i64 k,.slice sa n sc,.slice aa n' ac,.int .i64 m,.int .i64 x,.bool ng]):zCU S w (.slice aa n' ac) t.args:=by
 obtain ⟨sa',sc',aa',ac',h1,_,h2,h3⟩:=h.form;simp only[List.cons.injEq,Value.slice.injEq,and_true] at h1;obtain ⟨_,_,⟨rfl,rfl,rfl⟩,_⟩:=h1;exact ⟨_,_,rfl,h2,h3⟩
theorem zHC {S S':Nat→Prop} {w:World} {v:Value} {ts:List Re} (hs:∀b,S b→S' b) (h:zCU S w v ts):zCU S' w v ts:=by
 obtain ⟨aa,ac,h1,h2,h3⟩:=h;refine ⟨aa,ac,h1,h2,?_⟩;rcases h3 with h|⟨b,o,h4,h5,h6⟩
 ·exact .inl h
 ·exact .inr ⟨b,o,hs b h4,h5,zBX.mono hs ts h6⟩
theorem zVP (w0:World):Ret prog 163 #[] w0 fun v w=>reG (fun b=>w0.heap.size≤b) zGK v w∧Ext w0 w:=by
 refine qR func163 rfl ntmps163 rfl (fun E=>(zAA (zBJ (c:=#[(I6 0),(.slice none 0 0),(.slice none 0 0),(I6 0),(I6 0),(.bool false)]) qD zAu rfl ?_)));intro bo wo No;have Fo:=No.ge E;replace E:=E.ext No.ext;have Bo:=No.blk;refine zAB (zAA (qE rfl (zAV func120 zQP zRY rfl) (zId _) ?_));rintro _ w9 ⟨rfl,X9⟩;replace Bo:=X9.keep Bo;replace E:=E.ext X9;refine zAh (ps:=[(0,(.agg #[(I6 0),(.slice none 0 0),(.slice none 0 0),(I6 0),(I6 0),(.bool false)]))]) (c:=#[(I6 0),(.slice none 0 0),(.slice none 0 0),(I6 0),(I6 0),(.bool false)]) qD rfl underlying23 zAO zAu qD qD qK ?_;intro bp wp Np;have Fp:=Np.ge E;have Op_bo:=Np.lt Bo;replace Bo:=Np.keep Bo;replace E:=E.ext Np.ext;have Bp:=Np.blk;refine qV (zBd (ps:=[(0,(I6 8)),(2,(.slice (some ⟨bp,0,none⟩) 1 1))]) (v:=(.agg #[(I6 8),(.slice none 0 0),(.slice (some ⟨bp,0,none⟩) 1 1),(I6 0),(I6 0),(.bool false)])) rfl qK) (zAY (b:=bo) (o:=0) (c':=#[(I6 8),(.slice none 0 0),(.slice (some ⟨bp,0,none⟩) 1 1),(I6 0),(I6 0),(.bool false)]) rfl rfl qS zAO rfl Bo qL rfl ?_);intro w1 S1;replace Bp:=S1.keep qO Bp;replace E:=S1.step E qQ;replace Bo:=S1.blk;refine zAB (zAR (zAr results163 (vs:=[(.int .i64 8),(.slice none 0 0),(.slice (some ⟨bp,0,none⟩) 1 1),(.int .i64 0),(.int .i64 0),(.bool false)]) (b:=bo) rfl zAc zAO rfl (Bo.cells rfl) ?_));exact ⟨⟨_,_,_,_,rfl,zAe.of (set:=[]) (args:=[zBa]) (zDK.nil _ _ _ _ _) qP (.inr ⟨bp,0,by show w0.heap.size≤bp;omega,rfl,zBX.one (Bp.cells rfl) (zBg _ _ 0)⟩)⟩,E⟩
theorem zJf {k:Int} {l:List Re} (h:∀x∈l,zAz x):∀x∈zBY k l,zEn x=true:=fun x hx=>by
 obtain ⟨y,hy,⟨_,h4⟩|⟨_,rfl⟩⟩:=zDE.1 hx
 ·exact zEZ ((h y hy).a x h4)
 ·exact zEZ (h x hy)
theorem zCA {x:Re} (h:zAz x):(x.kind=3∨x.kind=4∨x.kind=7→x.args≠[])∧(x.kind=8→x.args≠[]):=by
 refine ⟨fun hk e=>?_,fun hk e=>?_⟩
 ·have hn:=h.n;rcases hk with hk|hk|hk
  ·have:=(hn.k3 hk).1;rw[e] at this;simp at this
  ·have:=(hn.k4 hk).1;rw[e] at this;simp at this
  ·have:=(hn.k7 hk).1;rw[e] at this;simp at this
 ·obtain ⟨y,hy,_⟩:=h.n.k8 hk;rw[e] at hy;cases hy
theorem zNp {k:Int} {l:List Re} (h:∀x∈l,zAz x):∀x∈zBY k l,zAz x:=fun x hx=>by
 obtain ⟨y,hy,⟨_,h4⟩|⟨_,rfl⟩⟩:=zDE.1 hx
 ·exact (h y hy).a x h4
 ·exact h x hy
theorem zEK (t:Re):zDN t=zCr t.kind t.set t.args t.mn t.mx t.neg:=by cases t;rfl
section
variable {t : Re}
theorem ns3 (h:t.kind=3):zDN t=zEz t.args:=by rw[zEK];unfold zCr;simp[h]
theorem ns4 (h:t.kind=4):zDN t=zJG t.kind t.args zCw zBc zBa:=by rw[zEK];unfold zCr;simp[h]
theorem ns7 (h:t.kind=7):zDN t=zJG t.kind t.args zBc zCw zGK:=by rw[zEK];unfold zCr;simp[h]
theorem ns5 {x:Re} (h:t.kind=5) (hx:t.args.headD zBa=x):zDN t=if x.kind=0∨x.kind=1 then zBT else if x.kind=5 then x else t:=by rw[zEK];unfold zCr;rw[hx];simp[h];cases t;simp[Re.kind] at h;subst h;rfl
theorem ns6 {x:Re} (h:t.kind=6) (hx:t.args.headD zBa=x):zDN t=if t.mx=0∨x.kind=1∨(x.kind=0∧t.mn=0) then zBT else if x.kind=0∨(t.mn=1∧t.mx=1) then x else t:=by rw[zEK];unfold zCr;rw[hx];simp[h];cases t;simp[Re.kind] at h;subst h;rfl
theorem ns8 {x:Re} (h:t.kind=8) (hx:t.args.headD zBa=x):zDN t=if x.kind=8 then x.args.headD zBa else t:=by rw[zEK];unfold zCr;rw[hx];simp[h];cases t;simp[Re.kind] at h;subst h;rfl
theorem nsn (h:t.kind≠3∧t.kind≠4∧t.kind≠5∧t.kind≠6∧t.kind≠7∧t.kind≠8):zDN t=t:=by rw[zEK];unfold zCr;simp[h];cases t;rfl
end
theorem zKX (w0:World) (S:Nat→Prop) (t:Re) (vs:List Value) (ht:zAe S w0 t vs) (hS:∀x,S x→x<w0.heap.size) (hp:PreN t.kind t.set t.args t.mn t.mx t.neg) (ha:∀y∈t.args,zAz y) (hsz:Re.sizes t.args≤1000000) :
  Ret prog 115 #[.agg vs.toArray] w0 fun r w=>(∃us,r=.agg us.toArray∧zAe (fun b=>S b∨w0.heap.size≤b) w (zDN t) us)∧Ext w0 w:=by
 have a9:=ht;obtain ⟨sa,sc,aa,ac,rfl,da,ct,an⟩:=ht.form;have b7:zCU S w0 (.slice aa t.args.length ac) t.args:=zFx a9;obtain ⟨N,hN⟩:∃N,N=zDN t:=⟨_,rfl⟩;rw[←hN];refine qR func115 rfl ntmps115 rfl (fun E=>(zAA (zBL (v:=(.agg (R6 t sa sc aa ac))) (c:=(R6 t sa sc aa ac)) qD rfl rfl ?_)));intro br wr Nr;have Fr:=Nr.ge E;replace E:=E.ext Nr.ext;have Br:=Nr.blk;refine zBJ (c:=#[(I6 0),(.slice none 0 0),(.slice none 0 0),(I6 0),(I6 0),(.bool false)]) qD zAu rfl ?_;intro bo wo No;have Fo:=No.ge E;have Oo_br:=No.lt Br;replace Br:=No.keep Br;replace E:=E.ext No.ext;have Bo:=No.blk;refine zAB (zAK (zAA (qF br 0 0 rfl underlying25 rfl zAv rfl (qV (zAL rfl zAf (Br.cell rfl)) (zAB (zAT (zAA (qV (zAk rfl rfl) (qA _ rfl (zAB ?_))))))))));obtain ⟨n1,b8⟩:∃n1,n1=wo.heap.size:=⟨_,rfl⟩;have hob:br<n1∧bo<n1∧w0.heap.size≤bo∧w0.heap.size≤n1:=⟨by rw[b8];exact Br.lt,by rw[b8];exact Bo.lt,qO,by rw[b8];exact E.size⟩;refine qC rfl (fun h3=>?_) (fun h3=>?_)
 ·have cz:N=zEz t.args:=hN.trans (ns3 h3);refine zAA (qF br 0 2 rfl underlying25 rfl zBS rfl (qV (zAL rfl zBE (Br.cell rfl)) (qE rfl (zAV func118 zQQ zRZ rfl) ((zLj _ S _ t.args (b7.ext E) (fun x hx=>by have:=hS x hx;have:=E.size;omega) (fun x hm hk=>(zCA (ha x hm)).1 (.inl hk)) hsz).mono (R':=fun r w=>reG (fun b=>S b∨n1≤b) N r w∧Ext wo w) (fun r w h=>⟨zBk (S':=fun b=>S b∨wo.heap.size≤b) (fun b hb=>by rcases hb with h1|h1;exact .inl h1;exact .inr qO) (by rw[cz];exact h.1),h.2⟩)) ?_)));rintro _ w9 ⟨⟨xa,xc,ya,yc,rfl,hR⟩,X9⟩;replace Br:=X9.keep Br;replace Bo:=X9.keep Bo;replace E:=E.ext X9;refine zAY (b:=bo) (o:=0) (c':=(R6 N xa xc ya yc)) rfl rfl qS zAO rfl Bo qL rfl ?_;intro w2 S2;replace hR:=zAe.chg S2.chg (fun y hy h=>by have h2:y=bo:=h;rcases hy with h1|h1;have:=hS y h1;omega;omega) _ hR;replace Br:=S2.keep qO Br;replace E:=S2.step E qQ;replace Bo:=S2.blk;refine zAB (zAR (zAZ (zAI (zAr results115 (vs:=[(.int .i64 N.kind),(.slice xa N.set.length xc),(.slice ya N.args.length yc),(.int .i64 N.mn),(.int .i64 N.mx),(.bool N.neg)]) (b:=bo) rfl zAc zAO rfl (Bo.cells rfl) ?_))));exact ⟨⟨_,rfl,zAe.mono (fun y hy=>by rcases hy with h1|h1;exact .inl h1;exact .inr qO) _ hR⟩,E⟩
 ·refine zAA (qV (zAk rfl rfl) (qA _ rfl (zAB (qC rfl (fun h4=>?_) (fun h4=>?_)))))
  ·have cr:N=zJG t.kind t.args zCw zBc zBa:=hN.trans (ns4 h4);have c2:w0.heap.size≤wo.heap.size:=E.size;have b5:br<wo.heap.size:=Br.lt;have b2:bo<wo.heap.size:=Bo.lt;refine zAK ?_;obtain ⟨cu,al⟩:∃Fs:List Fact,Fs=[.eq (P6 br 0),.eq (I6 t.kind),.eq (P6 br 2),.eq (.slice aa t.args.length ac),.eq (.agg #[(I6 0),(.slice none 0 0),(.slice none 0 0),(I6 0),(I6 0),(.bool false)]),.gen (reG (fun b=>S b∨n1≤b) N) (zBF _ _),.eq undef]:=⟨_,rfl⟩;refine zEU [true,true,true,true,true,true,false] [6] [15,16,17,18,19,20,105] [[],[0],[],[2],[],[1,3,4],[]] cu al mixed qK qK qK qK ?_ ?_
   ·intro wd X0;refine DagStepsP.cons (fun s' w' X U H=>Or.inl ⟨?_,?_⟩) ?_
    ·exact zAD rfl
    ·exact zAJ (zAQ (U 1 rfl) underlying25 rfl zAv rfl) (Ext.refl _) rfl
    refine DagStepsP.cons (fun s' w' X U H=>Or.inl ⟨?_,?_⟩) ?_
    ·exact zAD rfl
    ·have cm:s' 15=(.pointer (some ⟨br,0,none⟩)):=H 0 rfl 15 (.eq (.pointer (some ⟨br,0,none⟩))) rfl (by rw[al];rfl);exact zAJ (zAL cm zAf (((X0.trans X).keep Br).cell rfl)) (Ext.refl _) rfl
    refine DagStepsP.cons (fun s' w' X U H=>Or.inl ⟨?_,?_⟩) ?_
    ·exact zAD rfl
    ·exact zAJ (zAQ (U 1 rfl) underlying25 rfl zBS rfl) (Ext.refl _) rfl
    refine DagStepsP.cons (fun s' w' X U H=>Or.inl ⟨?_,?_⟩) ?_
    ·exact zAD rfl
    ·have c9:s' 17=(.pointer (some ⟨br,2,none⟩)):=H 2 rfl 17 (.eq (.pointer (some ⟨br,2,none⟩))) rfl (by rw[al];rfl);exact zAJ (zAL c9 zBE (((X0.trans X).keep Br).cell rfl)) (Ext.refl _) rfl
    refine DagStepsP.cons (fun s' w' X U H=>Or.inl ⟨?_,?_⟩) ?_
    ·exact zAD rfl
    ·exact zAs (zAV func120 zQP zRY rfl) (zId _)
    refine DagStepsP.cons (fun s' w' X U H=>Or.inl ⟨?_,?_⟩) ?_
    ·exact zAD rfl
    ·have cy:s' 16=(.int .i64 t.kind):=H 1 rfl 16 (.eq (.int .i64 t.kind)) rfl (by rw[al];rfl);have cp:s' 18=(.slice aa t.args.length ac):=H 3 rfl 18 (.eq (.slice aa t.args.length ac)) rfl (by rw[al];rfl);have c1:s' 19=(.agg #[(.int .i64 0),(.slice none 0 0),(.slice none 0 0),(.int .i64 0),(.int .i64 0),(.bool false)]):=H 4 rfl 19 (.eq (.agg #[(.int .i64 0),(.slice none 0 0),(.slice none 0 0),(.int .i64 0),(.int .i64 0),(.bool false)])) rfl (by rw[al];rfl);exact zAs (zAV func161 zWk zXU (zab cy cp rfl rfl c1)) ((zOE _ S t.kind _ _ _ t.args zCw zBc zBa _ (b7.ext (Ext.trans E (X0.trans X))) (zBg _ _ _) (fun x hx=>by have:=hS x hx;have:=E.size;have:=X0.size;have:=X.size;omega) (fun x hm hk=>(zCA (ha x hm)).1 qO) hsz (zJf ha) (fun w x vs hm hx=>zCD.mk (first:=#[]) (cap:=#[]) func162 zWj zXT rfl (zNw w x vs hx (zCA (ha x hm)).2)) (fun w x vs hm hx=>zCD.mk (first:=#[]) (cap:=#[]) func136 zSR zTM rfl (zGf w x vs hx))).mono (fun r w h=>⟨zBk (S':=fun b=>S b∨w'.heap.size≤b) (fun b hb=>by rcases hb with h1|h1;exact .inl h1;exact .inr (by have:=X0.size;have:=X.size;omega)) (by rw[cr];exact h.1),h.2⟩))
    refine DagStepsP.tail ?_;exact DagStepsP.nil
   ·intro s' w4 X4 U H;obtain ⟨a6,ax,a5,aw,c4,ca⟩:=H 5 rfl 20 (.gen (reG (fun b=>S b∨n1≤b) N) (zBF _ _)) rfl (by rw[al];rfl);obtain ⟨j4,rfl⟩:=zBA.out (σ:=s') (l:=[(2,(.pointer (some ⟨bo,0,none⟩))),(20,(.agg #[(.int .i64 N.kind),(.slice a6 N.set.length ax),(.slice a5 N.args.length aw),(.int .i64 N.mn),(.int .i64 N.mx),(.bool N.neg)]))]) ⟨U 2 rfl,c4,trivial⟩;clear U H;replace Br:=X4.keep Br;replace Bo:=X4.keep Bo;replace E:=E.ext X4;refine zAY (b:=bo) (o:=0) (c':=(R6 N a6 ax a5 aw)) rfl rfl qS zAO rfl Bo qL rfl ?_;intro w5 S5;replace ca:=zAe.chg S5.chg (fun y hy h=>by have h2:y=bo:=h;rcases hy with h1|h1;have:=hS y h1;omega;omega) _ ca;replace Br:=S5.keep qO Br;replace E:=S5.step E qQ;replace Bo:=S5.blk;refine zAB (zAC (zAR (zAZ (zAI (zAr results115 (vs:=[(.int .i64 N.kind),(.slice a6 N.set.length ax),(.slice a5 N.args.length aw),(.int .i64 N.mn),(.int .i64 N.mx),(.bool N.neg)]) (b:=bo) rfl zAc zAO rfl (Bo.cells rfl) ?_)))));exact ⟨⟨_,rfl,zAe.mono (fun y hy=>by rcases hy with h1|h1;exact .inl h1;exact .inr qO) _ ca⟩,E⟩
  ·refine zAA (qV (zAk rfl rfl) (qA _ rfl (zAB (qC rfl (fun h7=>?_) (fun h7=>?_)))))
   ·have cj:N=zJG t.kind t.args zBc zCw zGK:=hN.trans (ns7 h7);have cx:w0.heap.size≤wo.heap.size:=E.size;have bz:br<wo.heap.size:=Br.lt;have bs:bo<wo.heap.size:=Bo.lt;refine zAK ?_;obtain ⟨co,aj⟩:∃Fs:List Fact,Fs=[.eq (P6 br 0),.eq (I6 t.kind),.eq (P6 br 2),.eq (.slice aa t.args.length ac),.gen (reG (fun b=>S b∨n1≤b) zGK) (zBF _ _),.gen (reG (fun b=>S b∨n1≤b) N) (zBF _ _),.eq undef]:=⟨_,rfl⟩;refine zEU [true,true,true,true,true,true,false] [6] [23,24,25,26,27,28,105] [[],[0],[],[2],[],[1,3,4],[]] co aj mixed qK qK qK qK ?_ ?_
    ·intro wd X0;refine DagStepsP.cons (fun s' w' X U H=>Or.inl ⟨?_,?_⟩) ?_
     ·exact zAD rfl
     ·exact zAJ (zAQ (U 1 rfl) underlying25 rfl zAv rfl) (Ext.refl _) rfl
     refine DagStepsP.cons (fun s' w' X U H=>Or.inl ⟨?_,?_⟩) ?_
     ·exact zAD rfl
     ·have c3:s' 23=(.pointer (some ⟨br,0,none⟩)):=H 0 rfl 23 (.eq (.pointer (some ⟨br,0,none⟩))) rfl (by rw[aj];rfl);exact zAJ (zAL c3 zAf (((X0.trans X).keep Br).cell rfl)) (Ext.refl _) rfl
     refine DagStepsP.cons (fun s' w' X U H=>Or.inl ⟨?_,?_⟩) ?_
     ·exact zAD rfl
     ·exact zAJ (zAQ (U 1 rfl) underlying25 rfl zBS rfl) (Ext.refl _) rfl
     refine DagStepsP.cons (fun s' w' X U H=>Or.inl ⟨?_,?_⟩) ?_
     ·exact zAD rfl
     ·have c5:s' 25=(.pointer (some ⟨br,2,none⟩)):=H 2 rfl 25 (.eq (.pointer (some ⟨br,2,none⟩))) rfl (by rw[aj];rfl);exact zAJ (zAL c5 zBE (((X0.trans X).keep Br).cell rfl)) (Ext.refl _) rfl
     refine DagStepsP.cons (fun s' w' X U H=>Or.inl ⟨?_,?_⟩) ?_
     ·exact zAD rfl
     ·exact zAs (zAV func163 zYg zZm rfl) ((zVP _).mono (fun r w h=>⟨(by obtain ⟨⟨a1,a2,a3,a4,h1,h2⟩,_⟩:=h;exact ⟨a1,a2,a3,a4,h1,zAe.mono (fun b hb=>.inr (by have:=X0.size;have:=X.size;have hb':_≤b:=hb;omega)) _ h2⟩:reG (fun b=>S b∨n1≤b) zGK r w),h.2⟩))
     refine DagStepsP.cons (fun s' w' X U H=>Or.inl ⟨?_,?_⟩) ?_
     ·exact zAD rfl
     ·have cq:s' 24=(.int .i64 t.kind):=H 1 rfl 24 (.eq (.int .i64 t.kind)) rfl (by rw[aj];rfl);have cl:s' 26=(.slice aa t.args.length ac):=H 3 rfl 26 (.eq (.slice aa t.args.length ac)) rfl (by rw[aj];rfl);obtain ⟨c8,c7,c6,db,cs,cv⟩:=H 4 rfl 27 (.gen (reG (fun b=>S b∨n1≤b) zGK) (zBF _ _)) rfl (by rw[aj];rfl);exact zAs (zAV func161 zWk zXU (zab cq cl rfl rfl cs)) ((zOE _ (fun b=>(S b∨n1≤b)∧b<w'.heap.size) t.kind _ _ _ t.args zBc zCw zGK _ (zCU.lt (zHC (fun b hb=>.inl hb) (b7.ext (Ext.trans E (X0.trans X))))) (zAe.lt _ cv) (fun x hx=>hx.2) (fun x hm hk=>(zCA (ha x hm)).1 qO) hsz (zJf ha) (fun w x vs hm hx=>zCD.mk (first:=#[]) (cap:=#[]) func136 zSR zTM rfl (zGf w x vs hx)) (fun w x vs hm hx=>zCD.mk (first:=#[]) (cap:=#[]) func162 zWj zXT rfl (zNw w x vs hx (zCA (zNp ha x hm)).2))).mono (fun r w h=>⟨zBk (S':=fun b=>((S b∨n1≤b)∧b<w'.heap.size)∨w'.heap.size≤b) (fun b hb=>by rcases hb with h1|h1;exact h1.1;exact .inr (by have:=X0.size;have:=X.size;omega)) (by rw[cj];exact h.1),h.2⟩))
     refine DagStepsP.tail ?_;exact DagStepsP.nil
    ·intro s' w7 X7 U H;obtain ⟨av,ay,a0,az,c0,b6⟩:=H 5 rfl 28 (.gen (reG (fun b=>S b∨n1≤b) N) (zBF _ _)) rfl (by rw[aj];rfl);obtain ⟨j7,rfl⟩:=zBA.out (σ:=s') (l:=[(2,(.pointer (some ⟨bo,0,none⟩))),(28,(.agg #[(.int .i64 N.kind),(.slice av N.set.length ay),(.slice a0 N.args.length az),(.int .i64 N.mn),(.int .i64 N.mx),(.bool N.neg)]))]) ⟨U 2 rfl,c0,trivial⟩;clear U H;replace Br:=X7.keep Br;replace Bo:=X7.keep Bo;replace E:=E.ext X7;refine zAY (b:=bo) (o:=0) (c':=(R6 N av ay a0 az)) rfl rfl qS zAO rfl Bo qL rfl ?_;intro w8 S8;replace b6:=zAe.chg S8.chg (fun y hy h=>by have h2:y=bo:=h;rcases hy with h1|h1;have:=hS y h1;omega;omega) _ b6;replace Br:=S8.keep qO Br;replace E:=S8.step E qQ;replace Bo:=S8.blk;refine zAB (zAC (zAR (zAZ (zAI (zAr results115 (vs:=[(.int .i64 N.kind),(.slice av N.set.length ay),(.slice a0 N.args.length az),(.int .i64 N.mn),(.int .i64 N.mx),(.bool N.neg)]) (b:=bo) rfl zAc zAO rfl (Bo.cells rfl) ?_)))));exact ⟨⟨_,rfl,zAe.mono (fun y hy=>by rcases hy with h1|h1;exact .inl h1;exact .inr qO) _ b6⟩,E⟩
   ·refine zAA (qV (zAk rfl rfl) (qA _ rfl (zAB (qC rfl (fun h5=>?_) (fun h5=>?_)))))
    ·have bk:=hp.one qO;obtain ⟨x,hx⟩:=zAU (l:=t.args) (i:=0) qO;have bn:=List.mem_of_getElem? hx;have bu:=ha x bn;have bf:t.args.headD zBa=x:=zCX hx;obtain ⟨ab,ao,cb,rfl,ap⟩:=an.resolve_left (fun h=>by rw[h] at hx;cases hx);obtain ⟨us,bg,aq⟩:=ap.get hx;have am:=aq;obtain ⟨ah,ai,ag,af,rfl,_,ar,ak⟩:=aq.form;refine zAA (qF br 0 2 rfl underlying25 rfl zBS rfl (qV (zAL rfl zBE (Br.cell rfl)) (qV (zAH (b:=ab) (o:=ao) (len:=t.args.length) (cap:=ac) (i:=0) (o':=ao+0*6) rfl rfl rfl underlying23 zAO qO qO) (qV (zAG rfl zAc zAO rfl (bg.ext E)) ?_))));have bw:=hN.trans (ns5 h5 bf);refine zAg (v:=(.agg (R6 x ah ai ag af))) (c:=(R6 x ah ai ag af)) (n:=6) qD zAu rfl zAO rfl rfl rfl qS ?_;intro bx wx Nx;have Fx:=Nx.ge E;have Ox_br:=Nx.lt Br;have Ox_bo:=Nx.lt Bo;replace Br:=Nx.keep Br;replace Bo:=Nx.keep Bo;replace E:=E.ext Nx.ext;have Bx:=Nx.blk;refine zAB (zAA (qF bx 0 0 rfl underlying25 rfl zAv rfl (qV (zAL rfl zAf (Bx.cell rfl)) (zAB (zAT (zAK (zAA (qV (zAk rfl rfl) (qA _ rfl (zAB (qC rfl (fun k0=>?_) (fun k0=>?_))))))))))))
     ·have ch:=decide_eq_true k0;have ad:N=zBT:=by rw[bw,if_pos (.inl k0)]
      refine zAP (zAC (zAl (cbk ch) (zAA (qE rfl (zAV func117 zMY zMt rfl) (zEt _) ?_))));rintro _ bd ⟨rfl,ae⟩;replace Br:=ae.keep Br;replace Bo:=ae.keep Bo;replace Bx:=ae.keep Bx;replace E:=E.ext ae;refine zAY (b:=bo) (o:=0) (c':=#[(I6 1),(.slice none 0 0),(.slice none 0 0),(I6 0),(I6 0),(.bool false)]) rfl rfl qS zAO rfl Bo qL rfl ?_;intro w11 b4;replace Br:=b4.keep qO Br;replace Bx:=b4.keep qO Bx;replace E:=b4.step E qQ;replace Bo:=b4.blk;refine zAB (zAR (zAZ (zAZ (zAI (zAr results115 (vs:=[(.int .i64 1),(.slice none 0 0),(.slice none 0 0),(.int .i64 0),(.int .i64 0),(.bool false)]) (b:=bo) rfl zAc zAO rfl (Bo.cells rfl) ?_)))));exact ⟨⟨_,rfl,by rw[ad];exact zBg _ _ _⟩,E⟩
     ·have ch:=decide_eq_false k0;refine zAN (qV (zAk rfl rfl) (qA _ rfl (zAB (zAC (qC rfl (fun k1=>?_) (fun k1=>?_))))))
      ·have ad:N=zBT:=by rw[bw,if_pos (.inr k1)]
       refine zAA (qE rfl (zAV func117 zMY zMt rfl) (zEt _) ?_);rintro _ bd ⟨rfl,ae⟩;replace Br:=ae.keep Br;replace Bo:=ae.keep Bo;replace Bx:=ae.keep Bx;replace E:=E.ext ae;refine zAY (b:=bo) (o:=0) (c':=#[(I6 1),(.slice none 0 0),(.slice none 0 0),(I6 0),(I6 0),(.bool false)]) rfl rfl qS zAO rfl Bo qL rfl ?_;intro w13 b3;replace Br:=b3.keep qO Br;replace Bx:=b3.keep qO Bx;replace E:=b3.step E qQ;replace Bo:=b3.blk;refine zAB (zAR (zAZ (zAZ (zAI (zAr results115 (vs:=[(.int .i64 1),(.slice none 0 0),(.slice none 0 0),(.int .i64 0),(.int .i64 0),(.bool false)]) (b:=bo) rfl zAc zAO rfl (Bo.cells rfl) ?_)))));exact ⟨⟨_,rfl,by rw[ad];exact zBg _ _ _⟩,E⟩
      ·refine zAA (qV (zAk rfl rfl) (qA _ rfl (zAB (qC rfl (fun k5=>?_) (fun k5=>?_)))))
       ·have ad:N=x:=by rw[bw,if_neg qO,if_pos k5]
        have hR:zAe S (wx) x _:=zAe.ext E x am;refine zAA (qV (zAG (vs:=[(I6 x.kind),(.slice ah x.set.length ai),(.slice ag x.args.length af),(I6 x.mn),(I6 x.mx),(.bool x.neg)]) rfl zAc zAO rfl (Bx.cells rfl)) (zAY (b:=bo) (o:=0) (c':=(R6 x ah ai ag af)) rfl rfl qS zAO rfl Bo qL rfl ?_));intro w15 bc;replace hR:=zAe.chg bc.chg (fun y hy h=>by have h2:y=bo:=h;have:=hS y hy;omega) x hR;replace Br:=bc.keep qO Br;replace Bx:=bc.keep qO Bx;replace E:=bc.step E qQ;replace Bo:=bc.blk;refine zAB (zAR (zAZ (zAZ (zAI (zAr results115 (vs:=[(.int .i64 x.kind),(.slice ah x.set.length ai),(.slice ag x.args.length af),(.int .i64 x.mn),(.int .i64 x.mx),(.bool x.neg)]) (b:=bo) rfl zAc zAO rfl (Bo.cells rfl) ?_)))));exact ⟨⟨_,rfl,by rw[ad];exact zAe.mono (fun y hy=>.inl hy) x hR⟩,E⟩
       ·have ad:N=t:=by rw[bw,if_neg qO,if_neg k5]
        have hR:zAe S (wx) t _:=zAe.ext E t a9;refine zAP (zAS (zAS (zAC (zAA (qV (zAG (vs:=[(I6 t.kind),(.slice sa t.set.length sc),(.slice (some ⟨ab,ao,none⟩) t.args.length ac),(I6 t.mn),(I6 t.mx),(.bool t.neg)]) rfl zAc zAO rfl (Br.cells rfl)) (zAY (b:=bo) (o:=0) (c':=(R6 t sa sc (some ⟨ab,ao,none⟩) ac)) rfl rfl qS zAO rfl Bo qL rfl ?_))))));intro w16 bp;replace hR:=zAe.chg bp.chg (fun y hy h=>by have h2:y=bo:=h;have:=hS y hy;omega) t hR;replace Br:=bp.keep qO Br;replace Bx:=bp.keep qO Bx;replace E:=bp.step E qQ;replace Bo:=bp.blk;refine zAB (zAR (zAr results115 (vs:=[(.int .i64 t.kind),(.slice sa t.set.length sc),(.slice (some ⟨ab,ao,none⟩) t.args.length ac),(.int .i64 t.mn),(.int .i64 t.mx),(.bool t.neg)]) (b:=bo) rfl zAc zAO rfl (Bo.cells rfl) ?_));exact ⟨⟨_,rfl,by rw[ad];exact zAe.mono (fun y hy=>.inl hy) t hR⟩,E⟩
    ·refine zAA (qV (zAk rfl rfl) (qA _ rfl (zAB (qC rfl (fun h6=>?_) (fun h6=>?_)))))
     ·have bk:=hp.one qO;obtain ⟨x,hx⟩:=zAU (l:=t.args) (i:=0) qO;have bn:=List.mem_of_getElem? hx;have bu:=ha x bn;have bf:t.args.headD zBa=x:=zCX hx;obtain ⟨ab,ao,cb,rfl,ap⟩:=an.resolve_left (fun h=>by rw[h] at hx;cases hx);obtain ⟨us,bg,aq⟩:=ap.get hx;have am:=aq;obtain ⟨ah,ai,ag,af,rfl,_,ar,ak⟩:=aq.form;refine zAA (qF br 0 2 rfl underlying25 rfl zBS rfl (qV (zAL rfl zBE (Br.cell rfl)) (qV (zAH (b:=ab) (o:=ao) (len:=t.args.length) (cap:=ac) (i:=0) (o':=ao+0*6) rfl rfl rfl underlying23 zAO qO qO) (qV (zAG rfl zAc zAO rfl (bg.ext E)) ?_))));have au:=hN.trans (ns6 h6 bf);refine zAg (v:=(.agg (R6 x ah ai ag af))) (c:=(R6 x ah ai ag af)) (n:=6) qD zAu rfl zAO rfl rfl rfl qS ?_;intro bx wx Nx;have Fx:=Nx.ge E;have Ox_br:=Nx.lt Br;have Ox_bo:=Nx.lt Bo;replace Br:=Nx.keep Br;replace Bo:=Nx.keep Bo;replace E:=E.ext Nx.ext;have Bx:=Nx.blk;refine zAB (zAT (zAA (qF br 0 4 rfl underlying25 rfl zAv rfl (qV (zAL rfl zAf (Br.cell rfl)) (qV (zAk rfl rfl) (qM _ rfl ?_))))));rcases Bool.eq_false_or_eq_true (decide ((t.mx:Int)=0)) with gm|gm
      ·have a8:=gm;replace a8:=of_decide_eq_true a8;have ad:N=zBT:=by rw[au,if_pos (.inl a8)]
       refine zAE rfl rfl qD (v:=.bool true) (cbk gm) (Or.inl rfl) (zAE rfl rfl qD (v:=.bool true) (cbk gm) (Or.inl rfl) (zAE rfl rfl qD (v:=.bool true) (cbk gm) (Or.inl rfl) (qV (zAd (v:=(.bool true)) rfl (by rw[gm];rfl)) (qM _ rfl (zAE rfl rfl qD (v:=.bool true) rfl (Or.inl rfl) (zAE rfl rfl qD (v:=.bool true) rfl (Or.inl rfl) (zAE rfl rfl qD (v:=.bool true) rfl (Or.inl rfl) (zAE rfl rfl qD (v:=.bool true) rfl (Or.inl rfl) (zAE rfl rfl qD (v:=undef) rfl (Or.inr rfl) (zAE rfl rfl qD (v:=undef) rfl (Or.inr rfl) (zAE rfl rfl qD (v:=undef) rfl (Or.inr rfl) (zAE rfl rfl qD (v:=.bool true) rfl (Or.inl rfl) (qV (zAd rfl rfl) (qA _ rfl ?_))))))))))))));refine zAB (zAl rfl (zAA (qE rfl (zAV func117 zMY zMt rfl) (zEt _) ?_)));rintro _ bd ⟨rfl,ae⟩;replace Br:=ae.keep Br;replace Bo:=ae.keep Bo;replace Bx:=ae.keep Bx;replace E:=E.ext ae;refine zAY (b:=bo) (o:=0) (c':=#[(I6 1),(.slice none 0 0),(.slice none 0 0),(I6 0),(I6 0),(.bool false)]) rfl rfl qS zAO rfl Bo qL rfl ?_;intro w19 b1;replace Br:=b1.keep qO Br;replace Bx:=b1.keep qO Bx;replace E:=b1.step E qQ;replace Bo:=b1.blk;refine zAB (zAR (zAZ (zAZ (zAI (zAr results115 (vs:=[(.int .i64 1),(.slice none 0 0),(.slice none 0 0),(.int .i64 0),(.int .i64 0),(.bool false)]) (b:=bo) rfl zAc zAO rfl (Bo.cells rfl) ?_)))));exact ⟨⟨_,rfl,by rw[ad];exact zBg _ _ _⟩,E⟩
      ·have a8:=gm;replace a8:=of_decide_eq_false a8;refine zAF rfl rfl qD (cbk gm) (qF bx 0 0 rfl underlying25 rfl zAv rfl (zAF rfl rfl qD (cbk gm) (qV (zAL rfl zAf (Bx.cell rfl)) (zAF rfl rfl qD (cbk gm) (qV (zAk rfl rfl) (qV (zAd (v:=(.bool (decide ((x.kind:Int)=1)))) rfl (by rw[gm];rfl)) (qM _ rfl ?_)))))));rcases Bool.eq_false_or_eq_true (decide ((x.kind:Int)=1)) with g1|g1
       ·have ba:=g1;replace ba:=of_decide_eq_true ba;have ad:N=zBT:=by rw[au,if_pos (.inr (.inl ba))]
        refine zAE rfl rfl qD (v:=.bool true) (cbk g1) (Or.inl rfl) (zAE rfl rfl qD (v:=.bool true) (cbk g1) (Or.inl rfl) (zAE rfl rfl qD (v:=.bool true) (cbk g1) (Or.inl rfl) (zAE rfl rfl qD (v:=.bool true) (cbk g1) (Or.inl rfl) (zAE rfl rfl qD (v:=undef) rfl (Or.inr rfl) (zAE rfl rfl qD (v:=undef) rfl (Or.inr rfl) (zAE rfl rfl qD (v:=undef) rfl (Or.inr rfl) (zAE rfl rfl qD (v:=.bool true) (cbk g1) (Or.inl rfl) (qV (zAd (v:=(.bool true)) rfl (by rw[g1];rfl)) (qA _ rfl (zAB (zAl rfl (zAA (qE rfl (zAV func117 zMY zMt rfl) (zEt _) ?_)))))))))))));rintro _ bd ⟨rfl,ae⟩;replace Br:=ae.keep Br;replace Bo:=ae.keep Bo;replace Bx:=ae.keep Bx;replace E:=E.ext ae;refine zAY (b:=bo) (o:=0) (c':=#[(I6 1),(.slice none 0 0),(.slice none 0 0),(I6 0),(I6 0),(.bool false)]) rfl rfl qS zAO rfl Bo qL rfl ?_;intro w21 bv;replace Br:=bv.keep qO Br;replace Bx:=bv.keep qO Bx;replace E:=bv.step E qQ;replace Bo:=bv.blk;refine zAB (zAR (zAZ (zAZ (zAI (zAr results115 (vs:=[(.int .i64 1),(.slice none 0 0),(.slice none 0 0),(.int .i64 0),(.int .i64 0),(.bool false)]) (b:=bo) rfl zAc zAO rfl (Bo.cells rfl) ?_)))));exact ⟨⟨_,rfl,by rw[ad];exact zBg _ _ _⟩,E⟩
       ·have ba:=g1;replace ba:=of_decide_eq_false ba;refine zAF rfl rfl qD (cbk g1) (qF bx 0 0 rfl underlying25 rfl zAv rfl (zAF rfl rfl qD (cbk g1) (qV (zAL rfl zAf (Bx.cell rfl)) (zAF rfl rfl qD (cbk g1) (qV (zAk rfl rfl) (zAF rfl rfl qD (cbk g1) (qM _ rfl ?_)))))));rcases Bool.eq_false_or_eq_true (decide ((x.kind:Int)=0)) with g0|g0
        ·have a7:=g0;replace a7:=of_decide_eq_true a7;refine zAF rfl rfl qD (cbk g0) (qF br 0 3 rfl underlying25 rfl zAv rfl (zAF rfl rfl qD (cbk g0) (qV (zAL rfl zAf (Br.cell rfl)) (zAF rfl rfl qD (cbk g0) (qV (zAk rfl rfl) (zAF rfl rfl qD (cbk g1) (qV (zAd (v:=(.bool (decide ((t.mn:Int)=0)))) rfl (by rw[g0];rfl)) (qV (zAd (v:=(.bool (decide ((t.mn:Int)=0)))) rfl (by rw[g1];rfl)) (qA _ rfl (zAB (qC rfl (fun gz=>?_) (fun gz=>?_))))))))))))
         ·have ad:N=zBT:=by rw[au,if_pos (.inr (.inr ⟨a7,gz⟩))]
          refine zAA (qE rfl (zAV func117 zMY zMt rfl) (zEt _) ?_);rintro _ bd ⟨rfl,ae⟩;replace Br:=ae.keep Br;replace Bo:=ae.keep Bo;replace Bx:=ae.keep Bx;replace E:=E.ext ae;refine zAY (b:=bo) (o:=0) (c':=#[(I6 1),(.slice none 0 0),(.slice none 0 0),(I6 0),(I6 0),(.bool false)]) rfl rfl qS zAO rfl Bo qL rfl ?_;intro w24 b0;replace Br:=b0.keep qO Br;replace Bx:=b0.keep qO Bx;replace E:=b0.step E qQ;replace Bo:=b0.blk;refine zAB (zAR (zAZ (zAZ (zAI (zAr results115 (vs:=[(.int .i64 1),(.slice none 0 0),(.slice none 0 0),(.int .i64 0),(.int .i64 0),(.bool false)]) (b:=bo) rfl zAc zAO rfl (Bo.cells rfl) ?_)))));exact ⟨⟨_,rfl,by rw[ad];exact zBg _ _ _⟩,E⟩
         ·refine zAA (qF bx 0 0 rfl underlying25 rfl zAv rfl (qV (zAL rfl zAf (Bx.cell rfl)) (qV (zAk rfl rfl) (qM _ rfl (zAE rfl rfl qD (v:=.bool true) (cbk g0) (Or.inl rfl) (zAE rfl rfl qD (v:=.bool true) (cbk g0) (Or.inl rfl) (zAE rfl rfl qD (v:=.bool true) (cbk g0) (Or.inl rfl) (zAE rfl rfl qD (v:=.bool true) (cbk g0) (Or.inl rfl) (zAE rfl rfl qD (v:=undef) rfl (Or.inr rfl) (zAE rfl rfl qD (v:=undef) rfl (Or.inr rfl) (zAE rfl rfl qD (v:=undef) rfl (Or.inr rfl) (zAE rfl rfl qD (v:=.bool true) (cbk g0) (Or.inl rfl) (qV (zAd (v:=(.bool true)) rfl (by rw[g0];rfl)) (qA _ rfl ?_))))))))))))));refine zAB (zAl rfl (zAA (qV (zAG (vs:=[(I6 x.kind),(.slice ah x.set.length ai),(.slice ag x.args.length af),(I6 x.mn),(I6 x.mx),(.bool x.neg)]) rfl zAc zAO rfl (Bx.cells rfl)) (zAY (b:=bo) (o:=0) (c':=(R6 x ah ai ag af)) rfl rfl qS zAO rfl Bo qL rfl ?_))));intro ck bt;replace Br:=bt.keep qO Br;replace Bx:=bt.keep qO Bx;replace E:=bt.step E qQ;replace Bo:=bt.blk;refine zAB (zAR (zAZ (zAZ (zAI (zAr results115 (vs:=[(.int .i64 x.kind),(.slice ah x.set.length ai),(.slice ag x.args.length af),(.int .i64 x.mn),(.int .i64 x.mx),(.bool x.neg)]) (b:=bo) rfl zAc zAO rfl (Bo.cells rfl) ?_)))));have ad:N=x:=by rw[au,if_neg qO,if_pos (.inl a7)]
          have hR:zAe S (ck) x _:=zAe.ext E x am;exact ⟨⟨_,rfl,by rw[ad];exact zAe.mono (fun y hy=>.inl hy) x hR⟩,E⟩
        ·have a7:=g0;replace a7:=of_decide_eq_false a7;refine zAE rfl rfl qD (v:=.bool false) (cbk g0) (Or.inl rfl) (zAE rfl rfl qD (v:=.bool false) (cbk g0) (Or.inl rfl) (zAE rfl rfl qD (v:=.bool false) (cbk g0) (Or.inl rfl) (zAF rfl rfl qD (cbk g1) (qV (zAd (v:=(.bool false)) rfl (by rw[g0];rfl)) (qV (zAd (v:=(.bool false)) rfl (by rw[g1];rfl)) (qA _ rfl (zAB (zAb rfl (zAA (qF bx 0 0 rfl underlying25 rfl zAv rfl (qV (zAL rfl zAf (Bx.cell rfl)) (qV (zAk rfl rfl) (qM _ rfl (zAF rfl rfl qD (cbk g0) ?_))))))))))))));refine qF br 0 3 rfl underlying25 rfl zAv rfl (zAF rfl rfl qD (cbk g0) (qV (zAL rfl zAf (Br.cell rfl)) (zAF rfl rfl qD (cbk g0) (qV (zAk rfl rfl) (zAF rfl rfl qD (cbk g0) (qM _ rfl ?_))))));rcases Bool.eq_false_or_eq_true (decide ((t.mn:Int)=1)) with g2|g2
         ·have bb:=g2;replace bb:=of_decide_eq_true bb;refine zAF rfl rfl qD (cbk g2) (qF br 0 4 rfl underlying25 rfl zAv rfl (zAF rfl rfl qD (cbk g2) (qV (zAL rfl zAf (Br.cell rfl)) (zAF rfl rfl qD (cbk g2) (qV (zAk rfl rfl) (zAF rfl rfl qD (cbk g0) (qV (zAd (v:=(.bool (decide ((t.mx:Int)=1)))) rfl (by rw[g2];rfl)) (qV (zAd (v:=(.bool (decide ((t.mx:Int)=1)))) rfl (by rw[g0];rfl)) (qA _ rfl (zAB (qC rfl (fun g3=>?_) (fun g3=>?_))))))))))))
          ·have ad:N=x:=by rw[au,if_neg qO,if_pos (.inr ⟨bb,g3⟩)]
           have hR:zAe S (wx) x _:=zAe.ext E x am;refine zAA (qV (zAG (vs:=[(I6 x.kind),(.slice ah x.set.length ai),(.slice ag x.args.length af),(I6 x.mn),(I6 x.mx),(.bool x.neg)]) rfl zAc zAO rfl (Bx.cells rfl)) (zAY (b:=bo) (o:=0) (c':=(R6 x ah ai ag af)) rfl rfl qS zAO rfl Bo qL rfl ?_));intro w28 bl;replace hR:=zAe.chg bl.chg (fun y hy h=>by have h2:y=bo:=h;have:=hS y hy;omega) x hR;replace Br:=bl.keep qO Br;replace Bx:=bl.keep qO Bx;replace E:=bl.step E qQ;replace Bo:=bl.blk;refine zAB (zAR (zAZ (zAZ (zAI (zAr results115 (vs:=[(.int .i64 x.kind),(.slice ah x.set.length ai),(.slice ag x.args.length af),(.int .i64 x.mn),(.int .i64 x.mx),(.bool x.neg)]) (b:=bo) rfl zAc zAO rfl (Bo.cells rfl) ?_)))));exact ⟨⟨_,rfl,by rw[ad];exact zAe.mono (fun y hy=>.inl hy) x hR⟩,E⟩
          ·have ad:N=t:=by rw[au,if_neg qO,if_neg qO]
           have hR:zAe S (wx) t _:=zAe.ext E t a9;refine zAP (zAS (zAS (zAC (zAA (qV (zAG (vs:=[(I6 t.kind),(.slice sa t.set.length sc),(.slice (some ⟨ab,ao,none⟩) t.args.length ac),(I6 t.mn),(I6 t.mx),(.bool t.neg)]) rfl zAc zAO rfl (Br.cells rfl)) (zAY (b:=bo) (o:=0) (c':=(R6 t sa sc (some ⟨ab,ao,none⟩) ac)) rfl rfl qS zAO rfl Bo qL rfl ?_))))));intro bd bm;replace hR:=zAe.chg bm.chg (fun y hy h=>by have h2:y=bo:=h;have:=hS y hy;omega) t hR;replace Br:=bm.keep qO Br;replace Bx:=bm.keep qO Bx;replace E:=bm.step E qQ;replace Bo:=bm.blk;refine zAB (zAR (zAr results115 (vs:=[(.int .i64 t.kind),(.slice sa t.set.length sc),(.slice (some ⟨ab,ao,none⟩) t.args.length ac),(.int .i64 t.mn),(.int .i64 t.mx),(.bool t.neg)]) (b:=bo) rfl zAc zAO rfl (Bo.cells rfl) ?_));exact ⟨⟨_,rfl,by rw[ad];exact zAe.mono (fun y hy=>.inl hy) t hR⟩,E⟩
         ·have bb:=g2;replace bb:=of_decide_eq_false bb;have ad:N=t:=by rw[au,if_neg qO,if_neg qO]
          have hR:zAe S (wx) t _:=zAe.ext E t a9;refine zAE rfl rfl qD (v:=.bool false) (cbk g2) (Or.inl rfl) (zAE rfl rfl qD (v:=.bool false) (cbk g2) (Or.inl rfl) (zAE rfl rfl qD (v:=.bool false) (cbk g2) (Or.inl rfl) (zAF rfl rfl qD (cbk g0) (qV (zAd (v:=(.bool false)) rfl (by rw[g2];rfl)) (qV (zAd (v:=(.bool false)) rfl (by rw[g0];rfl)) (qA _ rfl (zAB (zAb rfl (zAP (zAS (zAS (zAC (zAA (qV (zAG (vs:=[(I6 t.kind),(.slice sa t.set.length sc),(.slice (some ⟨ab,ao,none⟩) t.args.length ac),(I6 t.mn),(I6 t.mx),(.bool t.neg)]) rfl zAc zAO rfl (Br.cells rfl)) (zAY (b:=bo) (o:=0) (c':=(R6 t sa sc (some ⟨ab,ao,none⟩) ac)) rfl rfl qS zAO rfl Bo qL rfl ?_)))))))))))))));intro w30 be;replace hR:=zAe.chg be.chg (fun y hy h=>by have h2:y=bo:=h;have:=hS y hy;omega) t hR;replace Br:=be.keep qO Br;replace Bx:=be.keep qO Bx;replace E:=be.step E qQ;replace Bo:=be.blk;refine zAB (zAR (zAr results115 (vs:=[(.int .i64 t.kind),(.slice sa t.set.length sc),(.slice (some ⟨ab,ao,none⟩) t.args.length ac),(.int .i64 t.mn),(.int .i64 t.mx),(.bool t.neg)]) (b:=bo) rfl zAc zAO rfl (Bo.cells rfl) ?_));exact ⟨⟨_,rfl,by rw[ad];exact zAe.mono (fun y hy=>.inl hy) t hR⟩,E⟩
     ·refine zAA (qV (zAk rfl rfl) (qA _ rfl (zAB (qC rfl (fun h8=>?_) (fun h8=>?_)))))
      ·have bk:=hp.one qO;obtain ⟨x,hx⟩:=zAU (l:=t.args) (i:=0) qO;have bn:=List.mem_of_getElem? hx;have bu:=ha x bn;have bf:t.args.headD zBa=x:=zCX hx;obtain ⟨ab,ao,cb,rfl,ap⟩:=an.resolve_left (fun h=>by rw[h] at hx;cases hx);obtain ⟨us,bg,aq⟩:=ap.get hx;have am:=aq;obtain ⟨ah,ai,ag,af,rfl,_,ar,ak⟩:=aq.form;refine zAA (qF br 0 2 rfl underlying25 rfl zBS rfl (qV (zAL rfl zBE (Br.cell rfl)) (qV (zAH (b:=ab) (o:=ao) (len:=t.args.length) (cap:=ac) (i:=0) (o':=ao+0*6) rfl rfl rfl underlying23 zAO qO qO) (qV (zAG rfl zAc zAO rfl (bg.ext E)) ?_))));have cd:=hN.trans (ns8 h8 bf);refine zAg (v:=(.agg (R6 x ah ai ag af))) (c:=(R6 x ah ai ag af)) (n:=6) qD zAu rfl zAO rfl rfl rfl qS ?_;intro bx wx Nx;have Fx:=Nx.ge E;have Ox_br:=Nx.lt Br;have Ox_bo:=Nx.lt Bo;replace Br:=Nx.keep Br;replace Bo:=Nx.keep Bo;replace E:=E.ext Nx.ext;have Bx:=Nx.blk;refine zAB (zAA (qF bx 0 0 rfl underlying25 rfl zAv rfl (qV (zAL rfl zAf (Bx.cell rfl)) (qV (zAk rfl rfl) (zAB (qC rfl (fun k8=>?_) (fun k8=>?_)))))))
       ·obtain ⟨y,hy⟩:=zAU (l:=x.args) (i:=0) (List.length_pos_iff.2 ((zCA bu).2 k8));obtain ⟨yb,yo,hyb,rfl,bh⟩:=ak.resolve_left ((zCA bu).2 k8);have cn:=zAa hy;obtain ⟨ys,cw,cc⟩:=bh.get hy;have b9:=cc;obtain ⟨cg,ce,ci,cf,rfl,_,_,_⟩:=cc.form;refine zAA (qF bx 0 2 rfl underlying25 rfl zBS rfl (qV (zAL rfl zBE (Bx.cell rfl)) (qV (zAH (b:=yb) (o:=yo) (len:=x.args.length) (cap:=af) (i:=0) (o':=yo+0*6) rfl rfl rfl underlying23 zAO qO qO) (qV (zAG rfl zAc zAO rfl (cw.ext E)) ?_))));have ad:N=y:=by rw[cd,if_pos k8,zCX hy]
        have hR:zAe S (wx) y _:=zAe.ext E y b9;refine zAY (b:=bo) (o:=0) (c':=(R6 y cg ce ci cf)) rfl rfl qS zAO rfl Bo qL rfl ?_;intro w33 bj;replace hR:=zAe.chg bj.chg (fun y hy h=>by have h2:y=bo:=h;have:=hS y hy;omega) y hR;replace Br:=bj.keep qO Br;replace Bx:=bj.keep qO Bx;replace E:=bj.step E qQ;replace Bo:=bj.blk;refine zAB (zAR (zAZ (zAI (zAr results115 (vs:=[(.int .i64 y.kind),(.slice cg y.set.length ce),(.slice ci y.args.length cf),(.int .i64 y.mn),(.int .i64 y.mx),(.bool y.neg)]) (b:=bo) rfl zAc zAO rfl (Bo.cells rfl) ?_))));exact ⟨⟨_,rfl,by rw[ad];exact zAe.mono (fun y hy=>.inl hy) y hR⟩,E⟩
       ·have ad:N=t:=by rw[cd,if_neg k8]
        have hR:zAe S (wx) t _:=zAe.ext E t a9;refine zAP (zAS (zAC (zAA (qV (zAG (vs:=[(I6 t.kind),(.slice sa t.set.length sc),(.slice (some ⟨ab,ao,none⟩) t.args.length ac),(I6 t.mn),(I6 t.mx),(.bool t.neg)]) rfl zAc zAO rfl (Br.cells rfl)) (zAY (b:=bo) (o:=0) (c':=(R6 t sa sc (some ⟨ab,ao,none⟩) ac)) rfl rfl qS zAO rfl Bo qL rfl ?_)))));intro w34 bi;replace hR:=zAe.chg bi.chg (fun y hy h=>by have h2:y=bo:=h;have:=hS y hy;omega) t hR;replace Br:=bi.keep qO Br;replace Bx:=bi.keep qO Bx;replace E:=bi.step E qQ;replace Bo:=bi.blk;refine zAB (zAR (zAr results115 (vs:=[(.int .i64 t.kind),(.slice sa t.set.length sc),(.slice (some ⟨ab,ao,none⟩) t.args.length ac),(.int .i64 t.mn),(.int .i64 t.mx),(.bool t.neg)]) (b:=bo) rfl zAc zAO rfl (Bo.cells rfl) ?_));exact ⟨⟨_,rfl,by rw[ad];exact zAe.mono (fun y hy=>.inl hy) t hR⟩,E⟩
      ·have ad:N=t:=hN.trans (nsn ⟨h3,h4,h5,h6,h7,h8⟩);have hR:zAe S (wo) t _:=zAe.ext E t a9;refine zAP (zAS (zAC (zAA (qV (zAG (vs:=[(I6 t.kind),(.slice sa t.set.length sc),(.slice aa t.args.length ac),(I6 t.mn),(I6 t.mx),(.bool t.neg)]) rfl zAc zAO rfl (Br.cells rfl)) (zAY (b:=bo) (o:=0) (c':=(R6 t sa sc aa ac)) rfl rfl qS zAO rfl Bo qL rfl ?_)))));intro w35 bq;replace hR:=zAe.chg bq.chg (fun y hy h=>by have h2:y=bo:=h;have:=hS y hy;omega) t hR;replace Br:=bq.keep qO Br;replace E:=bq.step E qQ;replace Bo:=bq.blk;refine zAB (zAR (zAr results115 (vs:=[(.int .i64 t.kind),(.slice sa t.set.length sc),(.slice aa t.args.length ac),(.int .i64 t.mn),(.int .i64 t.mx),(.bool t.neg)]) (b:=bo) rfl zAc zAO rfl (Bo.cells rfl) ?_));exact ⟨⟨_,rfl,by rw[ad];exact zAe.mono (fun y hy=>.inl hy) t hR⟩,E⟩
end Go.Proofs
namespace Go.Proofs
open Go Go.Eng Go.Sort
set_option maxRecDepth 100000
theorem zPi (t:Re):zCz t=zDN (.mk t.kind t.set (t.args.map zCz) t.mn t.mx t.neg):=zPj t
/-- Rows that grow: expressions within some blocks. -/
theorem zIF {S:Nat→Prop} {w:World} {ts:List Re} {rows:List (List Value)} {x:Re} {r:List Value} (h:zAm S w ts rows) (hx:zAe S w x r):zAm S w (ts++[x]) (rows++[r]):=zAm.append (zAm.single hx) h
theorem zWF {T A:Nat→Prop} {w w':World} {b:Nat} {c:Array Value} {e:TypeId} (h:∀y,T y→A y∧y<w.heap.size) (x:Put w w' b c e):∀y,T y→A y∧y<w'.heap.size:=fun y hy=>⟨(h y hy).1,Nat.lt_of_lt_of_le (h y hy).2 x.chg.size⟩
theorem zJM {T A:Nat→Prop} {w w':World} (h:∀y,T y→A y∧y<w.heap.size) (x:Ext w w'):∀y,T y→A y∧y<w'.heap.size:=fun y hy=>⟨(h y hy).1,Nat.lt_of_lt_of_le (h y hy).2 x.size⟩
theorem zJK {ks:List Int}:∀{ts:List Re} {i:Nat} {x:Re},zCt ks ts=false→ts[i]?=some x→zDI ks x=false
  | [],i,x,_,h=>by simp at h
  | t::ts,0,x,h,hx=>by simp at hx;subst hx;simp only[zCt,Bool.or_eq_false_iff] at h;exact h.1
  | t::ts,i+1,x,h,hx=>by simp only[zCt,Bool.or_eq_false_iff] at h;exact zJK h.2 (by simpa using hx)
theorem zQy:∀(n:Nat) (t:Re) (w0:World) (S:Nat→Prop) (vs:List Value),t.size≤n→n≤1000000→zEB t→zDI [9,10] t=false→zAe S w0 t vs→(∀x,S x→x<w0.heap.size)→
    Ret prog 58 #[.agg vs.toArray] w0 fun r w=>(∃us,r=.agg us.toArray∧zAe (fun b=>S b∨w0.heap.size≤b) w (zCz t) us)∧Ext w0 w:=by
  intro n
  induction n with
  | zero=>intro t w0 S vs h;have:=t.size_pos;omega
  | succ n ih=>
  intro t w0 S vs hn hnb ai hu ht hS;have ht0:=ht;obtain ⟨sa,sc,aa,ac,rfl,a6,be,ah⟩:=ht.form;have hal:=zCB t;have ba:zCt [9,10] t.args=false:=by cases t;exact (zFD hu).2
  have bd:t.kind≠9∧t.kind≠10:=by cases t with|mk k s a m x g=>have h1:=(zFD hu).1;constructor<;>intro e<;>simp only[Re.kind] at e<;>subst e<;>simp at h1
  have au:=zGz (zCR ai);rw[zCh] at au;have hsz:=t.size_eq;rw[zPi];refine qR func58 rfl ntmps58 rfl (fun E=>(zAA (zBL (v:=(.agg (R6 t sa sc aa ac))) (c:=(R6 t sa sc aa ac)) qD rfl rfl ?_)));intro br wr Nr;have Fr:=Nr.ge E;replace E:=E.ext Nr.ext;have Br:=Nr.blk;refine zBJ (c:=#[(I6 0),(.slice none 0 0),(.slice none 0 0),(I6 0),(I6 0),(.bool false)]) qD zAu rfl ?_;intro bo wo No;have Fo:=No.ge E;have Oo_br:=No.lt Br;replace Br:=No.keep Br;replace E:=E.ext No.ext;have Bo:=No.blk;refine zAB (zAA (qF br 0 2 rfl underlying25 rfl zBS rfl (qV (zAL rfl zBE (Br.cell rfl)) (qV (zAM underlying23 rfl) ?_))));obtain ⟨n1,ap⟩:∃n1,n1=wo.heap.size:=⟨_,rfl⟩;have hob:br<n1∧bo<n1∧w0.heap.size≤bo∧w0.heap.size≤br∧w0.heap.size≤n1:=⟨by rw[ap];exact Br.lt,by rw[ap];exact Bo.lt,qO,qO,by rw[ap];exact E.size⟩;have af:n1≤wo.heap.size:=qO
  refine zPp (n:=t.args.length) (base:=n1) (size:=6) (bytes:=80) qD underlying23 zAO zEu zAu rfl rfl qO qO (af) ?_;intro w1 X1 bg;replace Br:=X1.keep Br;replace Bo:=X1.keep Bo;replace af:=Nat.le_trans af X1.size;replace E:=E.ext X1;refine qA _ rfl (zAB (zAK (zAA (qF br 0 2 rfl underlying25 rfl zBS rfl (qV (zAL rfl zBE (Br.cell rfl)) (qV (zAM underlying23 rfl) (qM _ rfl (zAB (zAT (zAq (fun nn_ σ W2=>∃(i:Nat) (la:Option Addr) (lc:Nat) (ad:List (List Value)) (T:Nat→Prop),(∃jj_,σ=zCH jj_ [(1,(P6 br 0)),(2,(P6 bo 0)),(11,(.slice aa t.args.length ac)),(12,(I6 (t.args.length:Int))),(13,(I6 (i:Int))),(3,(.slice la i lc))])∧Chg zAo w0 W2∧Blk W2 br (R6 t sa sc aa ac) 25∧Blk W2 bo #[(I6 0),(.slice none 0 0),(.slice none 0 0),(I6 0),(I6 0),(.bool false)] 25∧(i≤t.args.length)∧(W2.ownsRow n1 TRe 6 (.slice la i lc) i ad.flatten)∧(zAm T W2 ((t.args.take i).map zCz) ad)∧(n1≤W2.heap.size)∧(∀y,T y→(S y∨n1≤y)∧y<W2.heap.size)∧(∀b,(Value.slice la i lc).ownBlock=some b→¬T b)∧nn_=t.args.length - i) (n:=t.args.length - 0) ?_ ?_))))))))))
  · exact ⟨0,some ⟨wo.heap.size,0,none⟩,t.args.length,[],(fun _=>False),zBA.out ⟨rfl,rfl,rfl,rfl,rfl,rfl,trivial⟩,E,Br,Bo,Nat.zero_le _,bg,rfl,af,(fun y h=>h.elim),(fun b _ h=>h),rfl⟩
  · clear E Br Bo;rintro _ _ W2 ⟨i,la,lc,ad,T,⟨j2,rfl⟩,E,Br,Bo,hi,hO,hR,ae,hT,ax,rfl⟩;refine zAA (qV (zBH rfl rfl) (zAB (zAK (qC rfl (fun bv=>?_) (fun bv=>?_)))))
    · obtain ⟨x,hx⟩:=zAU (l:=t.args) (i:=i) qO;have bp:=zCo (zCR ai) hx;have bs:zDI [9,10] x=false:=zJK ba hx;have hxz:=Re.size_arg hx;obtain ⟨ab,ao,hab,rfl,a4⟩:=ah.resolve_left (fun h=>by rw[h] at hx;cases hx);obtain ⟨us,bj,a8⟩:=a4.get hx;have a3:=a8;obtain ⟨aq,a1,an,a5,rfl,_,_,_⟩:=a8.form;obtain ⟨M,hM⟩:∃M,M=zCz x:=⟨_,rfl⟩;refine zAP (zAC (zAK (zAT (zAA (qV (zAH (b:=ab) (o:=ao) (len:=t.args.length) (cap:=ac) (i:=i) (o':=ao+i*6) rfl rfl rfl underlying23 zAO qO qO) (qV (zAG rfl zAc zAO rfl (bj.ext E)) (zAg (v:=(.agg (R6 x aq a1 an a5))) (c:=(R6 x aq a1 an a5)) (n:=6) qD zAu rfl zAO rfl rfl rfl qS ?_)))))));intro bu wu Nu;have Fu:=Nu.ge E;have Ou_br:=Nu.lt Br;have Ou_bo:=Nu.lt Bo;replace Br:=Nu.keep Br;replace Bo:=Nu.keep Bo;replace hO:=zAn hO Nu.ext;replace hR:=zAm.ext Nu.ext hR;replace ae:=Nat.le_trans ae Nu.ext.size;replace hT:=zJM hT Nu.ext;replace E:=E.ext Nu.ext;have Bu:=Nu.blk;refine zAB (zAN (qM _ rfl (qV (zAG (vs:=[(I6 x.kind),(.slice aq x.set.length a1),(.slice an x.args.length a5),(I6 x.mn),(I6 x.mx),(.bool x.neg)]) rfl zAc zAO rfl (Bu.cells rfl)) ?_)));obtain ⟨n2,ar⟩:∃n2,n2=(wu).heap.size:=⟨_,rfl⟩;have bn:n1≤n2:=by rw[ar];exact ae
      have bm:∀b,(Value.slice la i lc).ownBlock=some b→n1≤b∧b<n2:=fun b hb=>⟨(hO.lt b hb).1,by rw[ar];exact (hO.lt b hb).2⟩;refine qE rfl (zAV func58 zXi zXn rfl) ((ih x _ S _ qO qO bp bs (zAe.ext E x a3) (fun y hy=>by have:=hS y hy;have:=E.size;omega)).mono (R':=fun r w=>reG (fun b=>S b∨n2≤b) M r w∧Ext wu w) (fun r w h=>⟨zBk (S':=fun b=>S b∨_≤b) (fun b hb=>by rcases hb with h1|h1;exact .inl h1;exact .inr (by rw[ar];exact h1)) (by rw[hM];exact h.1),h.2⟩)) ?_;rintro _ w9 ⟨⟨ma,mc,pa,pc,rfl,hX⟩,X9⟩;replace Br:=X9.keep Br;replace Bo:=X9.keep Bo;replace Bu:=X9.keep Bu;replace hO:=zAn hO X9;replace hR:=zAm.ext X9 hR;replace ae:=Nat.le_trans ae X9.size;replace hT:=zJM hT X9;replace E:=E.ext X9;have am:=zAe.lt M hX;refine zAh (ps:=[(0,(.agg (R6 M ma mc pa pc)))]) (c:=(R6 M ma mc pa pc)) qD rfl underlying23 zAO zAu qD qD qK ?_;intro bz wz Nz;have Fz:=Nz.ge E;have Oz_br:=Nz.lt Br;have Oz_bo:=Nz.lt Bo;have Oz_bu:=Nz.lt Bu;replace Br:=Nz.keep Br;replace Bo:=Nz.keep Bo;replace Bu:=Nz.keep Bu;replace hO:=zAn hO Nz.ext;replace hR:=zAm.ext Nz.ext hR;replace ae:=Nat.le_trans ae Nz.ext.size;replace hT:=zJM hT Nz.ext;replace am:=zAe.ext Nz.ext M am;replace E:=E.ext Nz.ext;have Bz:=Nz.blk;have hQ9:True:=trivial;refine zBC (base:=n1) (n:=i) (m:=1) (xs:=ad.flatten) (news:=[(I6 M.kind),(.slice ma M.set.length mc),(.slice pa M.args.length pc),(I6 M.mn),(I6 M.mx),(.bool M.neg)]) (size:=6) (bytes:=80) (v:=(.slice la i lc)) qD underlying23 zAO zEu zAu rfl qD rfl hO rfl (rfl) (Bz.cells rfl) qS (by unfold maxLen;omega) qO (ae) ?_;intro v9 bb a9 ag bq;replace Br:=ag.keep (fun h=>by have:=(hO.lt _ h).1;omega) Br;replace Bo:=ag.keep (fun h=>by have:=(hO.lt _ h).1;omega) Bo;replace E:=E.step ag (fun x hx h=>absurd (hO.lt x h).1 qO);obtain ⟨bf,bi,rfl⟩:=zAw a9;have aj:∀y,(T y∨((S y∨n2≤y)∧y<w9.heap.size))→(S y∨n1≤y)∧y<(bb).heap.size∧(Value.slice la i lc).ownBlock≠some y:=by
        intro y hy;have bk:=Nz.ext.size;have hz2:=ag.size;rcases hy with hy|⟨hy,hy2⟩
        · exact ⟨(hT y hy).1,by have:=(hT y hy).2;omega,fun hb=>ax y hb hy⟩
        · refine ⟨hy.imp id (fun h=>by have:=X9.size;omega),qO,fun hb=>?_⟩;have h9:=bm y hb;rcases hy with h1|h1
          · have:=hS y h1;omega
          · omega
      have bh:zAm (fun y=>T y∨((S y∨n2≤y)∧y<w9.heap.size)) (bb) ((t.args.take (i+1)).map zCz) (ad++[[.int .i64 M.kind,.slice ma M.set.length mc,.slice pa M.args.length pc,.int .i64 M.mn,.int .i64 M.mx,.bool M.neg]]):=by
        rw[List.take_add_one,hx,Option.toList_some,List.map_append,List.map_cons,List.map_nil,←hM];exact zIF (zAm.mono (fun y hy=>.inl hy) (zAm.chg ag (fun y hy hm=>ax y hm hy) hR)) (zAe.mono (fun y hy=>.inr hy) M (zAe.chg ag (fun y hy hm=>(aj y (.inr hy)).2.2 hm) M am))
      refine qA _ rfl (zAB (zAS (zAC (zAN (qV (zAy rfl rfl (zBV qO)) (qM _ rfl (zAB (zAC ?_))))))));exact ⟨t.args.length - (i+1),qO,i+1,bf,bi,ad++[[.int .i64 M.kind,.slice ma M.set.length mc,.slice pa M.args.length pc,.int .i64 M.mn,.int .i64 M.mx,.bool M.neg]],(fun y=>T y∨((S y∨n2≤y)∧y<w9.heap.size)),zBA.out ⟨rfl,rfl,rfl,rfl,rfl,rfl,trivial⟩,E,Br,Bo,qO,(by simpa using a9),bh,Nat.le_trans ae ag.size,(fun y hy=>⟨(aj y hy).1,(aj y hy).2.1⟩),(fun b hb hy=>by rcases bq b hb with h|h;exact (aj b hy).2.2 h;have bk:=Nz.ext.size;rcases hy with hy|hy;have:=(hT b hy).2;omega;have:=hy.2;omega),rfl⟩
    · have bc:i=t.args.length:=qO
      rw[bc] at hO hR ax;rw[bc];rw[List.take_length] at hR;refine zAp (zAX (zAX (zAj (zAC (zAA (qM _ rfl (qF br 0 2 rfl underlying25 rfl zBS rfl (zBr (b:=br) (o:=2) (c':=(R6 t sa sc la lc)) (v:=(.slice la t.args.length lc)) rfl rfl rfl zBS Br qP rfl ?_))))))));intro w4 S4;replace hO:=zBi hO S4.chg (fun y hy h=>by have h2:y=br:=h;have:=(hO.lt y hy).1;omega);replace hR:=zAm.chg S4.chg (fun y hy h=>by have h2:y=br:=h;rcases (hT y hy).1 with h1|h1;have:=hS y h1;omega;omega) hR;replace hT:=zWF hT S4;replace ae:=Nat.le_trans ae S4.chg.size;replace Bo:=S4.keep qO Bo;replace E:=S4.step E qQ;replace Br:=S4.blk;refine zAB (zAA (qV (zAG (vs:=[(I6 t.kind),(.slice sa t.set.length sc),(.slice la t.args.length lc),(I6 t.mn),(I6 t.mx),(.bool t.neg)]) rfl zAc zAO rfl (Br.cells rfl)) ?_));have ak:(t.args.map zCz).length=t.args.length:=List.length_map _;obtain ⟨bt,a7⟩:=zDs hO hR ak;have bl:zAe (fun y=>(S y∨n1≤y)∧y<(w4).heap.size) (w4) (.mk t.kind t.set (t.args.map zCz) t.mn t.mx t.neg) [.int .i64 t.kind,.slice sa t.set.length sc,.slice la t.args.length lc,.int .i64 t.mn,.int .i64 t.mx,.bool t.neg]:=by
        have h9:=zAe.of (S:=fun y=>(S y∨n1≤y)∧y<(w4).heap.size) (w:=w4) (k:=t.kind) (set:=t.set) (args:=t.args.map zCz) (mn:=t.mn) (mx:=t.mx) (ng:=t.neg) (sa:=sa) (sc:=sc) (aa:=la) (ac:=lc) (zDK.mono (zDK.chg a6 E (fun _ _ f=>f)) fun y hy=>⟨.inl hy,by have:=hS y hy;have:=E.size;omega⟩) (by rw[ak];exact bt) (by
          rcases a7 with h|⟨ob,a2,az,ay,aw⟩
          · exact .inl h
          · exact .inr ⟨ob,0,⟨.inr a2,az⟩,ay,zDB fun i t ht=>by obtain ⟨vs,h6,h7⟩:=aw i t ht;exact ⟨vs,h6,zAe.mono (fun y hy=>hT y hy) t h7⟩⟩)
        rw[ak] at h9;exact h9
      obtain ⟨N,hN⟩:∃N,N=zDN (.mk t.kind t.set (t.args.map zCz) t.mn t.mx t.neg):=⟨_,rfl⟩;have av:n1≤(w4).heap.size:=ae;refine qE rfl (zAV func115 zSS zTN rfl) ((zKX _ _ _ _ bl (fun y hy=>hy.2) (zNU ai bd.1 bd.2 ak) (fun y hy=>zJz (zCR ai) ba y (by rw[zCh];exact hy)) (by show Re.sizes (t.args.map zCz)≤1000000;omega)).mono (R':=fun r w=>reG (fun b=>S b∨n1≤b) N r w∧Ext _ w) (fun r w h=>⟨zBk (S':=fun b=>((S b∨n1≤b)∧b<_)∨_≤b) (fun b hb=>by rcases hb with h1|h1;exact h1.1;exact .inr (Nat.le_trans av h1)) (by rw[hN];exact h.1),h.2⟩)) ?_;rintro _ w49 ⟨⟨xa,xc,ya,yc,rfl,a0⟩,al⟩;replace Br:=al.keep Br;replace Bo:=al.keep Bo;replace E:=E.ext al;refine zAY (b:=bo) (o:=0) (c':=(R6 N xa xc ya yc)) rfl rfl qS zAO rfl Bo qL rfl ?_;intro w5 S5;replace a0:=zAe.chg S5.chg (fun y hy h=>by have h2:y=bo:=h;rcases hy with h1|h1;have:=hS y h1;omega;omega) _ a0;replace Br:=S5.keep qO Br;replace E:=S5.step E qQ;replace Bo:=S5.blk;refine zAB (zAR (zAr results58 (vs:=[(.int .i64 N.kind),(.slice xa N.set.length xc),(.slice ya N.args.length yc),(.int .i64 N.mn),(.int .i64 N.mx),(.bool N.neg)]) (b:=bo) rfl zAc zAO rfl (Bo.cells rfl) ?_));exact ⟨⟨_,rfl,by rw[←hN];exact zAe.mono (fun y hy=>by rcases hy with h1|h1;exact .inl h1;exact .inr qO) _ a0⟩,E⟩
end Go.Proofs
namespace Go.Proofs
open Go Go.Eng Go.Sort
set_option maxRecDepth 100000
def rsG (S:Nat→Prop) (l:List Re):Fct:=fun v w=>∃b,v=.slice (some ⟨b,0,none⟩) l.length l.length∧zCU S w (.slice (some ⟨b,0,none⟩) l.length l.length) l
theorem zCa (S:Nat→Prop) (l:List Re):zGq (rsG S l):=by
 rintro v w w' e ⟨b,h1,h2⟩;exact ⟨b,h1,zCU.ext h2 e⟩
section
variable {N : Nat} {σ : Env} {w : World} {dst : Option Tmp} {ty : TypeId} {pos : String} {af : Array Edge} {g : Option (Nat × Bool)} {S : Nat → Prop} {X Y : Re} {x y z : Operand} {sa aa sa' aa' : Option Addr} {sc ac sc' ac' : Nat}
theorem zEQ (hx:ev σ x=.agg #[.int .i64 X.kind,.slice sa X.set.length sc,.slice aa X.args.length ac,.int .i64 X.mn,.int .i64 X.mx,.bool X.neg]) (hy:ev σ y=.agg #[.int .i64 Y.kind,.slice sa' Y.set.length sc',.slice aa' Y.args.length ac',.int .i64 Y.mn,.int .i64 Y.mx,.bool Y.neg]) (h1:zAe S w X [.int .i64 X.kind,.slice sa X.set.length sc,.slice aa X.args.length ac,.int .i64 X.mn,.int .i64 X.mx,.bool X.neg]) (h2:zAe S w Y [.int .i64 Y.kind,.slice sa' Y.set.length sc',.slice aa' Y.args.length ac',.int .i64 Y.mn,.int .i64 Y.mx,.bool Y.neg]) (hS:∀b,w.heap.size≤b→S b) :
  zPK prog N ⟨dst,.buildSlice 23 2 #[(0,x),(1,y)],ty,pos,af,g⟩ (rsG S [X,Y]) σ w:=by
 have hn:=New.mk' w (#[.int .i64 X.kind,.slice sa X.set.length sc,.slice aa X.args.length ac,.int .i64 X.mn,.int .i64 X.mx,.bool X.neg,.int .i64 Y.kind,.slice sa' Y.set.length sc',.slice aa' Y.args.length ac',.int .i64 Y.mn,.int .i64 Y.mx,.bool Y.neg]) TRe;refine zAJ (zCM (parts:=[(0,x),(1,y)]) (ps:=[(0,.agg #[.int .i64 X.kind,.slice sa X.set.length sc,.slice aa X.args.length ac,.int .i64 X.mn,.int .i64 X.mx,.bool X.neg]),(1,.agg #[.int .i64 Y.kind,.slice sa' Y.set.length sc',.slice aa' Y.args.length ac',.int .i64 Y.mn,.int .i64 Y.mx,.bool Y.neg])]) (by simp only[List.map,hx,hy]) underlying23 zAO zAu qD qD qK) hn.ext ⟨_,rfl,?_⟩;exact ⟨_,_,rfl,qP,.inr ⟨_,0,hS _ (Nat.le_refl _),rfl,zBX.two (hn.blk.cells (by rfl)) (zAe.ext hn.ext _ h1) (hn.blk.cells (by rfl)) (zAe.ext hn.ext _ h2)⟩⟩
theorem zRe (hx:ev σ x=.agg #[.int .i64 X.kind,.slice sa X.set.length sc,.slice aa X.args.length ac,.int .i64 X.mn,.int .i64 X.mx,.bool X.neg]) (h1:zAe S w X [.int .i64 X.kind,.slice sa X.set.length sc,.slice aa X.args.length ac,.int .i64 X.mn,.int .i64 X.mx,.bool X.neg]) (hS:∀b,w.heap.size≤b→S b) :
  zPK prog N ⟨dst,.buildSlice 23 1 #[(0,x)],ty,pos,af,g⟩ (rsG S [X]) σ w:=by
 have hn:=New.mk' w #[.int .i64 X.kind,.slice sa X.set.length sc,.slice aa X.args.length ac,.int .i64 X.mn,.int .i64 X.mx,.bool X.neg] TRe;refine zAJ (zCM (parts:=[(0,x)]) (ps:=[(0,.agg #[.int .i64 X.kind,.slice sa X.set.length sc,.slice aa X.args.length ac,.int .i64 X.mn,.int .i64 X.mx,.bool X.neg])]) (by simp only[List.map,hx]) underlying23 zAO zAu qD qD qK) hn.ext ⟨_,rfl,?_⟩;exact ⟨_,_,rfl,qP,.inr ⟨_,0,hS _ (Nat.le_refl _),rfl,zBX.one (hn.blk.cells (by rfl)) (zAe.ext hn.ext _ h1)⟩⟩
theorem zUg {b n:Nat} {l:List Re} {k m x:Int} (h:zCU S w (.slice (some ⟨b,0,none⟩) n n) l) (hn:l.length=n):zAe S w (.mk k [] l m x false) [.int .i64 k,.slice none 0 0,.slice (some ⟨b,0,none⟩) l.length l.length,.int .i64 m,.int .i64 x,.bool false]:=by
 subst hn;obtain ⟨aa,ac,h1,h2,h3⟩:=h;simp only[Value.slice.injEq,true_and] at h1;obtain ⟨rfl,rfl⟩:=h1;exact zAe.of (set:=[]) (zDK.nil _ _ _ _ _) h2 h3
theorem zPH {b n:Nat} {l:List Re} (hx:ev σ x=.slice (some ⟨b,0,none⟩) n n) (h:zCU S w (.slice (some ⟨b,0,none⟩) n n) l) (hn:l.length=n) :
  zPK prog N ⟨dst,.build 25 #[(0,.const (.int .i64 4)),(2,x)],ty,pos,af,g⟩ (reG S (.mk 4 [] l 0 0 false)) σ w:=by
 subst hn;exact zAJ (zBd (parts:=[(0,.const (I6 4)),(2,x)]) (ps:=[(0,.int .i64 4),(2,.slice (some ⟨b,0,none⟩) l.length l.length)]) (v:=.agg #[.int .i64 4,.slice none 0 0,.slice (some ⟨b,0,none⟩) l.length l.length,.int .i64 0,.int .i64 0,.bool false]) (by simp only[List.map,hx];rfl) qK) (Ext.refl _) ⟨none,0,some ⟨b,0,none⟩,l.length,rfl,zUg h rfl⟩
theorem zPG {b n:Nat} {l:List Re} {m u:Int} (hx:ev σ x=.slice (some ⟨b,0,none⟩) n n) (hy:ev σ y=.int .i64 m) (hz:ev σ z=.int .i64 u) (h:zCU S w (.slice (some ⟨b,0,none⟩) n n) l) (hn:l.length=n) :
  zPK prog N ⟨dst,.build 25 #[(0,.const (.int .i64 6)),(2,x),(3,y),(4,z)],ty,pos,af,g⟩ (reG S (.mk 6 [] l m u false)) σ w:=by
 subst hn;exact zAJ (zBd (parts:=[(0,.const (I6 6)),(2,x),(3,y),(4,z)]) (ps:=[(0,.int .i64 6),(2,.slice (some ⟨b,0,none⟩) l.length l.length),(3,.int .i64 m),(4,.int .i64 u)]) (v:=.agg #[.int .i64 6,.slice none 0 0,.slice (some ⟨b,0,none⟩) l.length l.length,.int .i64 m,.int .i64 u,.bool false]) (by simp only[List.map,hx,hy,hz];rfl) qK) (Ext.refl _) ⟨none,0,some ⟨b,0,none⟩,l.length,rfl,zUg h rfl⟩
end
theorem zRM (w0:World) (S:Nat→Prop) (v:Value) (ts:List Re) (h:zCU S w0 v ts) (hne:ts≠[]) (hl:ts.length≤1000000) :
  Ret prog 119 #[v] w0 fun r w=>(∃a c,r=.slice a ts.length c∧zCU (fun b=>S b∨w0.heap.size≤b) w r ts)∧Ext w0 w:=by
 obtain ⟨aa,c,rfl,am,h3⟩:=h;obtain ⟨b,o,hSb,rfl,ah⟩:=h3.resolve_left hne;have ak:=List.length_pos_iff.2 hne;obtain ⟨rows,ab,ac⟩:=zBX.rows ah;obtain ⟨base,aj⟩:∃base,base=w0.heap.size:=⟨_,rfl⟩;refine qR func119 rfl ntmps119 rfl (fun E=>(zAA (qA _ rfl (zAB (zAK (zAA (qM _ rfl (zCJ (v:=(.bool false)) rfl rfl qD (zKH (a:=some ⟨b,o,none⟩) underlying23 rfl rfl) (zAB (zAb rfl (zAP (zAC (zAA (zGM qD underlying23 zAO ?_))))))))))))));intro bq wq Nq;have Fq:=Nq.ge E;replace E:=E.ext Nq.ext;have Bq:=Nq.blk;refine qM _ rfl ?_;have ad:=zGS (base:=base) (size:=6) Bq qO;have ap:base≤wq.heap.size:=by have:=Nq.ext.size;omega
 refine zBC (base:=base) (n:=0) (m:=ts.length) (xs:=[]) (news:=rows.flatten) (size:=6) (bytes:=80) (v:=(.slice (some ⟨bq,0,none⟩) 0 0)) qD underlying23 zAO zEu zAu rfl qD rfl ad rfl (by rw[zCE ab.six,ab.len]) (ac.ext Nq.ext) (ab.one) (by unfold maxLen;omega) qO (ap) ?_;intro v9 w29 ag al Dv9;replace E:=E.step al (fun x hx h=>absurd (ad.lt x h).1 qO);obtain ⟨la,lc,rfl⟩:=zAw ag;refine qA _ rfl (zAB (zAR (zAW results119 (v:=(.slice la (0+ts.length) lc)) rfl ?_)));simp only[Nat.zero_add,List.nil_append] at ag;obtain ⟨aq,ai⟩:=zDs ag (ab.ext E) rfl;simp only[Nat.zero_add];refine ⟨⟨la,lc,rfl,la,lc,rfl,aq,?_⟩,E⟩;rcases ai with h|⟨ob,ao,an,af,ae⟩
 ·exact .inl h
 ·exact .inr ⟨ob,0,.inr qO,af,zDB fun i t ht=>by obtain ⟨vs,h6,h7⟩:=ae i t ht;exact ⟨vs,h6,zAe.mono (fun y hy=>.inl hy) t h7⟩⟩
/-- The derivative of smaller expressions, as a contract. -/
def zGI (c:Int) (n:Nat):Prop:=∀(t:Re) (w0:World) (S:Nat→Prop) (vs:List Value),t.size<n→zAz t→zAe S w0 t vs→(∀x,S x→x<w0.heap.size)→
  Ret prog 60 #[.agg vs.toArray,.int .i64 c] w0 fun r w=>(∃us,r=.agg us.toArray∧zAe (fun b=>S b∨w0.heap.size≤b) w (zBK c t) us)∧Ext w0 w
section
variable {c : Int} {t x : Re}
theorem zFV (c:Int) (t:Re):zBK c t=if t.kind=2 then (if inS t.set c=true then zBT else zBa) else if t.kind=3 then zEx c t.args else if t.kind=4∨t.kind=7∨t.kind=8 then zCr t.kind [] (zBw c t.args) 0 0 false else if t.kind=5 then zEz [(zBw c t.args).headD zBa,t] else if t.kind=6 then zEz [(zBw c t.args).headD zBa,zCr 6 [] [t.args.headD zBa] (max 0 (t.mn - 1)) (t.mx - 1) false] else zBa:=by
 cases t;simp only[zBK];rfl
theorem st2 (h:t.kind=2):zBK c t=if inS t.set c=true then zBT else zBa:=by rw[zFV];simp[h]
theorem st3 (h:t.kind=3):zBK c t=zEx c t.args:=by rw[zFV];simp[h]
theorem zXu (h:t.kind=4∨t.kind=7∨t.kind=8):zBK c t=zDN (.mk t.kind [] (t.args.map (zBK c)) 0 0 false):=by rw[zFV,if_neg qO,if_neg qO,if_pos h,zJN];rfl
theorem st5 (h:t.kind=5) (ha:t.args=[x]):zBK c t=zEz [zBK c x,t]:=by rw[zFV,if_neg qO,if_neg qO,if_neg qO,if_pos h,ha];rfl
theorem st6 (h:t.kind=6) (ha:t.args=[x]):zBK c t=zEz [zBK c x,zDN (.mk 6 [] [x] (max 0 (t.mn - 1)) (t.mx - 1) false)]:=by rw[zFV,if_neg qO,if_neg qO,if_neg qO,if_neg qO,if_pos h,ha];rfl
theorem stn (h:t.kind=0∨t.kind=1):zBK c t=zBa:=by rw[zFV,if_neg qO,if_neg qO,if_neg qO,if_neg qO,if_neg qO]
end
end Go.Proofs
namespace Go.Proofs
open Go Go.Eng Go.Sort
set_option maxRecDepth 100000
theorem zUM (c:Int) (n:Nat) (ih:zGI c n) (t:Re) (hn:t.size≤n) (h300:t.size≤300) (hok:zAz t) (hk:t.kind=2) (w0:World) (S:Nat→Prop) (vs:List Value) (ht:zAe S w0 t vs) (hS:∀x,S x→x<w0.heap.size) :
  Ret prog 60 #[.agg vs.toArray,.int .i64 c] w0 fun r w=>(∃us,r=.agg us.toArray∧zAe (fun b=>S b∨w0.heap.size≤b) w (zBK c t) us)∧Ext w0 w:=by
 have al:=ht;obtain ⟨sa,sc,aa,ac,rfl,ae,ai,ag⟩:=ht.form;have hRs:zCU S w0 (.slice aa t.args.length ac) t.args:=zFx al;have hal:=zCB t;have ak:=t.size_eq;refine qR func60 rfl ntmps60 rfl (fun E=>(zAA (zBL (v:=(.agg (R6 t sa sc aa ac))) (c:=(R6 t sa sc aa ac)) qD rfl rfl ?_)));intro br wr Nr;have Fr:=Nr.ge E;replace E:=E.ext Nr.ext;have Br:=Nr.blk;refine zBJ (c:=#[(I6 0),(.slice none 0 0),(.slice none 0 0),(I6 0),(I6 0),(.bool false)]) qD zAu rfl ?_;intro bo wo No;have Fo:=No.ge E;have Oo_br:=No.lt Br;replace Br:=No.keep Br;replace E:=E.ext No.ext;have Bo:=No.blk;refine zAB (zAK (zAA (qF br 0 0 rfl underlying25 rfl zAv rfl (qV (zAL rfl zAf (Br.cell rfl)) (zAB (zAT (zAA (qV (zAk rfl rfl) (qA _ rfl (zAB ?_))))))))));have aj:(decide ((t.kind:Int)=2))=true:=decide_eq_true hk;refine zAl (cbk aj) (zAA (qF br 0 1 rfl underlying25 rfl zBm rfl (qV (zAL rfl zBe (Br.cell rfl)) (qM _ rfl (qE rfl (zAV func116 zWo zXY rfl) (zad _ _ t.set c (ae.at.ext E)) ?_)))));rintro _ w9 ⟨rfl,X9⟩;replace Br:=X9.keep Br;replace Bo:=X9.keep Bo;replace E:=E.ext X9;refine zAB (zAt rfl (fun ad=>?_) (fun ad=>?_))
 ·have af:=ad;refine zAA (qE rfl (zAV func117 zMY zMt rfl) (zEt _) ?_);rintro _ ah ⟨rfl,ab⟩;replace Br:=ab.keep Br;replace Bo:=ab.keep Bo;replace E:=E.ext ab;refine zAY (b:=bo) (o:=0) (c':=#[(I6 1),(.slice none 0 0),(.slice none 0 0),(I6 0),(I6 0),(.bool false)]) rfl rfl qS zAO rfl Bo qL rfl ?_;intro w3 S3;replace Br:=S3.keep qO Br;replace E:=S3.step E qQ;replace Bo:=S3.blk;refine zAB (zAR (zAZ (zAI (zAr results60 (vs:=[(.int .i64 1),(.slice none 0 0),(.slice none 0 0),(.int .i64 0),(.int .i64 0),(.bool false)]) (b:=bo) rfl zAc zAO rfl (Bo.cells rfl) ?_))));exact ⟨⟨_,rfl,by rw[st2 hk,if_pos ad];exact zBg _ _ _⟩,E⟩
 ·have af:=ad;refine zAP (zAS (zAC (zAA (qE rfl (zAV func120 zQP zRY rfl) (zId _) ?_))));rintro _ ah ⟨rfl,ab⟩;replace Br:=ab.keep Br;replace Bo:=ab.keep Bo;replace E:=E.ext ab;refine zAY (b:=bo) (o:=0) (c':=#[(I6 0),(.slice none 0 0),(.slice none 0 0),(I6 0),(I6 0),(.bool false)]) rfl rfl qS zAO rfl Bo qL rfl ?_;intro w4 S4;replace Br:=S4.keep qO Br;replace E:=S4.step E qQ;replace Bo:=S4.blk;refine zAB (zAR (zAr results60 (vs:=[(.int .i64 0),(.slice none 0 0),(.slice none 0 0),(.int .i64 0),(.int .i64 0),(.bool false)]) (b:=bo) rfl zAc zAO rfl (Bo.cells rfl) ?_));exact ⟨⟨_,rfl,by rw[st2 hk,if_neg (by rw[ad];decide)];exact zBg _ _ _⟩,E⟩
theorem zUN (c:Int) (n:Nat) (ih:zGI c n) (t:Re) (hn:t.size≤n) (h300:t.size≤300) (hok:zAz t) (hk:t.kind=0∨t.kind=1) (w0:World) (S:Nat→Prop) (vs:List Value) (ht:zAe S w0 t vs) (hS:∀x,S x→x<w0.heap.size) :
  Ret prog 60 #[.agg vs.toArray,.int .i64 c] w0 fun r w=>(∃us,r=.agg us.toArray∧zAe (fun b=>S b∨w0.heap.size≤b) w (zBK c t) us)∧Ext w0 w:=by
 have an:=ht;obtain ⟨sa,sc,aa,ac,rfl,af,aj,ad⟩:=ht.form;have hRs:zCU S w0 (.slice aa t.args.length ac) t.args:=zFx an;have hal:=zCB t;have al:=t.size_eq;refine qR func60 rfl ntmps60 rfl (fun E=>(zAA (zBL (v:=(.agg (R6 t sa sc aa ac))) (c:=(R6 t sa sc aa ac)) qD rfl rfl ?_)));intro br wr Nr;have Fr:=Nr.ge E;replace E:=E.ext Nr.ext;have Br:=Nr.blk;refine zBJ (c:=#[(I6 0),(.slice none 0 0),(.slice none 0 0),(I6 0),(I6 0),(.bool false)]) qD zAu rfl ?_;intro bo wo No;have Fo:=No.ge E;have Oo_br:=No.lt Br;replace Br:=No.keep Br;replace E:=E.ext No.ext;have Bo:=No.blk;refine zAB (zAK (zAA (qF br 0 0 rfl underlying25 rfl zAv rfl (qV (zAL rfl zAf (Br.cell rfl)) (zAB (zAT (zAA (qV (zAk rfl rfl) (qA _ rfl (zAB ?_))))))))));have ak:(decide ((t.kind:Int)=2))=false:=decide_eq_false qO;refine zAb (cbk ak) (zAA (qV (zAk rfl rfl) (qA _ rfl (zAB ?_))));have ae:(decide ((t.kind:Int)=3))=false:=decide_eq_false qO;refine zAb (cbk ae) (zAK (zAA (qV (zAk rfl rfl) (qA _ rfl (zAB ?_)))));have ai:(decide ((t.kind:Int)=4))=false:=decide_eq_false qO;refine zAb (cbk ai) (zAA (qV (zAk rfl rfl) (qA _ rfl (zAB ?_))));have ag:(decide ((t.kind:Int)=7))=false:=decide_eq_false qO;refine zAb (cbk ag) (zAN (qV (zAk rfl rfl) (qA _ rfl (zAB (zAC ?_)))));have ah:(decide ((t.kind:Int)=8))=false:=decide_eq_false qO;refine zAb (cbk ah) (zAA (qV (zAk rfl rfl) (qA _ rfl (zAB ?_))));have am:(decide ((t.kind:Int)=5))=false:=decide_eq_false qO;refine zAb (cbk am) (zAA (qV (zAk rfl rfl) (qA _ rfl (zAB ?_))));have ao:(decide ((t.kind:Int)=6))=false:=decide_eq_false qO;refine zAb (cbk ao) (zAP (zAS (zAC (zAA (qE rfl (zAV func120 zQP zRY rfl) (zId _) ?_)))));rintro _ w29 ⟨rfl,ab⟩;replace Br:=ab.keep Br;replace Bo:=ab.keep Bo;replace E:=E.ext ab;refine zAY (b:=bo) (o:=0) (c':=#[(I6 0),(.slice none 0 0),(.slice none 0 0),(I6 0),(I6 0),(.bool false)]) rfl rfl qS zAO rfl Bo qL rfl ?_;intro w8 S8;replace Br:=S8.keep qO Br;replace E:=S8.step E qQ;replace Bo:=S8.blk;refine zAB (zAR (zAr results60 (vs:=[(.int .i64 0),(.slice none 0 0),(.slice none 0 0),(.int .i64 0),(.int .i64 0),(.bool false)]) (b:=bo) rfl zAc zAO rfl (Bo.cells rfl) ?_));exact ⟨⟨_,rfl,by rw[stn hk];exact zBg _ _ _⟩,E⟩
theorem zUJ (c:Int) (n:Nat) (ih:zGI c n) (t:Re) (hn:t.size≤n) (h300:t.size≤300) (hok:zAz t) (hk:t.kind=5) (w0:World) (S:Nat→Prop) (vs:List Value) (ht:zAe S w0 t vs) (hS:∀x,S x→x<w0.heap.size) :
  Ret prog 60 #[.agg vs.toArray,.int .i64 c] w0 fun r w=>(∃us,r=.agg us.toArray∧zAe (fun b=>S b∨w0.heap.size≤b) w (zBK c t) us)∧Ext w0 w:=by
 have az:=ht;obtain ⟨sa,sc,aa,ac,rfl,bs,a1,ai⟩:=ht.form;have hRs:zCU S w0 (.slice aa t.args.length ac) t.args:=zFx az;have hal:=zCB t;have bb:=t.size_eq;refine qR func60 rfl ntmps60 rfl (fun E=>(zAA (zBL (v:=(.agg (R6 t sa sc aa ac))) (c:=(R6 t sa sc aa ac)) qD rfl rfl ?_)));intro br wr Nr;have Fr:=Nr.ge E;replace E:=E.ext Nr.ext;have Br:=Nr.blk;refine zBJ (c:=#[(I6 0),(.slice none 0 0),(.slice none 0 0),(I6 0),(I6 0),(.bool false)]) qD zAu rfl ?_;intro bo wo No;have Fo:=No.ge E;have Oo_br:=No.lt Br;replace Br:=No.keep Br;replace E:=E.ext No.ext;have Bo:=No.blk;refine zAB (zAK (zAA (qF br 0 0 rfl underlying25 rfl zAv rfl (qV (zAL rfl zAf (Br.cell rfl)) (zAB (zAT (zAA (qV (zAk rfl rfl) (qA _ rfl (zAB ?_))))))))));obtain ⟨n1,am⟩:∃n1,n1=wo.heap.size:=⟨_,rfl⟩;have hob:br<n1∧bo<n1∧w0.heap.size≤bo∧w0.heap.size≤n1:=⟨by rw[am];exact Br.lt,by rw[am];exact Bo.lt,qO,by rw[am];exact E.size⟩;have bi:n1≤wo.heap.size:=qO
 have E1:Ext wo wo:=Ext.refl _;have bv:(decide ((t.kind:Int)=2))=false:=decide_eq_false qO;refine zAb (cbk bv) (zAA (qV (zAk rfl rfl) (qA _ rfl (zAB ?_))));have ba:(decide ((t.kind:Int)=3))=false:=decide_eq_false qO;refine zAb (cbk ba) (zAK (zAA (qV (zAk rfl rfl) (qA _ rfl (zAB ?_)))));have bf:(decide ((t.kind:Int)=4))=false:=decide_eq_false qO;refine zAb (cbk bf) (zAA (qV (zAk rfl rfl) (qA _ rfl (zAB ?_))));have a5:(decide ((t.kind:Int)=7))=false:=decide_eq_false qO;refine zAb (cbk a5) (zAN (qV (zAk rfl rfl) (qA _ rfl (zAB (zAC ?_)))));have bm:(decide ((t.kind:Int)=8))=false:=decide_eq_false qO;refine zAb (cbk bm) (zAA (qV (zAk rfl rfl) (qA _ rfl (zAB ?_))));have bc:(decide ((t.kind:Int)=5))=true:=decide_eq_true hk;refine zAl (cbk bc) ?_;obtain ⟨x,ap,ar⟩:∃x,t.args=[x]∧zAz x:=by obtain ⟨y,hy,_⟩:=hok.n.k5 hk;exact ⟨y,hy,hok.a y (by rw[hy];simp)⟩
 have hx:t.args[0]?=some x:=by rw[ap];rfl
 have a0:t.args.length=1:=by rw[ap];rfl
 have hxz:=Re.size_arg hx;obtain ⟨ab,ao,hab,rfl,aw⟩:=ai.resolve_left (fun h=>by rw[h] at hx;cases hx);obtain ⟨us,a8,ay⟩:=aw.get hx;have av:=ay;obtain ⟨an,au,al,ax,rfl,_,_,_⟩:=ay.form;have hsm:=zCu (c:=c) ar qO;obtain ⟨N,hN⟩:∃N,N=zBK c t:=⟨_,rfl⟩;obtain ⟨D,hD⟩:∃D,D=zBK c x:=⟨_,rfl⟩;have bu:N=zEz [D,t]:=by rw[hN,hD];exact st5 hk ap
 have a6:w0.heap.size≤wo.heap.size:=E.size;have aj:br<wo.heap.size:=Br.lt;have ak:bo<wo.heap.size:=Bo.lt;refine zAK ?_;obtain ⟨bk,ad⟩:∃Fs:List Fact,Fs=[.eq (P6 br 2),.eq (.slice (some ⟨ab,ao,none⟩) t.args.length ac),.eq (.pointer (some ⟨ab,ao+0*6,none⟩)),.eq (.agg (R6 x an au al ax)),.eq (I6 c),.gen (reG (fun b=>S b∨n1≤b) D) (zBF _ _),.eq (.agg (R6 t sa sc (some ⟨ab,ao,none⟩) ac)),.gen (rsG (fun b=>S b∨n1≤b) [D,t]) (zCa _ _),.gen (reG (fun b=>S b∨n1≤b) N) (zBF _ _),.eq undef]:=⟨_,rfl⟩;refine zEU [true,true,true,true,true,true,true,true,true,false] [9] [75,76,77,78,79,80,81,82,83,119] [[],[0],[1],[2],[],[3,4],[],[5,6],[5,7],[]] bk ad mixed qK qK qK qK ?_ ?_
 ·intro wd X0;refine DagStepsP.cons (fun s' w' X U H=>Or.inl ⟨?_,?_⟩) ?_
  ·exact zAD rfl
  ·exact zAJ (zAQ (U 2 rfl) underlying25 rfl zBS rfl) (Ext.refl _) rfl
  refine DagStepsP.cons (fun s' w' X U H=>Or.inl ⟨?_,?_⟩) ?_
  ·exact zAD rfl
  ·have bp:s' 75=(.pointer (some ⟨br,2,none⟩)):=H 0 rfl 75 (.eq (.pointer (some ⟨br,2,none⟩))) rfl (by rw[ad];rfl);exact zAJ (zAL bp zBE (((X0.trans X).keep Br).cell rfl)) (Ext.refl _) rfl
  refine DagStepsP.cons (fun s' w' X U H=>Or.inl ⟨?_,?_⟩) ?_
  ·exact zAD rfl
  ·have a7:s' 76=(.slice (some ⟨ab,ao,none⟩) t.args.length ac):=H 1 rfl 76 (.eq (.slice (some ⟨ab,ao,none⟩) t.args.length ac)) rfl (by rw[ad];rfl);exact zAJ (zAH (i:=0) a7 rfl rfl underlying23 zAO qO qO) (Ext.refl _) rfl
  refine DagStepsP.cons (fun s' w' X U H=>Or.inl ⟨?_,?_⟩) ?_
  ·exact zAD rfl
  ·have bj:s' 77=(.pointer (some ⟨ab,ao+0*6,none⟩)):=H 2 rfl 77 (.eq (.pointer (some ⟨ab,ao+0*6,none⟩))) rfl (by rw[ad];rfl);exact zAJ (zAG bj zAc zAO rfl (a8.ext (Ext.trans E (X0.trans X)))) (Ext.refl _) rfl
  refine DagStepsP.cons (fun s' w' X U H=>Or.inl ⟨?_,?_⟩) ?_
  ·exact zAD rfl
  ·exact zAJ (zAi (U 1 rfl)) (Ext.refl _) rfl
  refine DagStepsP.cons (fun s' w' X U H=>Or.inl ⟨?_,?_⟩) ?_
  ·exact zAD rfl
  ·have a3:s' 78=(.agg #[(.int .i64 x.kind),(.slice an x.set.length au),(.slice al x.args.length ax),(.int .i64 x.mn),(.int .i64 x.mx),(.bool x.neg)]):=H 3 rfl 78 (.eq (.agg #[(.int .i64 x.kind),(.slice an x.set.length au),(.slice al x.args.length ax),(.int .i64 x.mn),(.int .i64 x.mx),(.bool x.neg)])) rfl (by rw[ad];rfl);have be:s' 79=(.int .i64 c):=H 4 rfl 79 (.eq (.int .i64 c)) rfl (by rw[ad];rfl);exact zAs (zAV func60 zTh zTx (zHG a3 be)) ((ih x _ S _ qO ar (zAe.ext (Ext.trans E (X0.trans X)) x av) (fun y hy=>by have:=hS y hy;have:=E.size;have:=X0.size;have:=X.size;omega)).mono (fun r w h=>⟨zBk (S':=fun b=>S b∨w'.heap.size≤b) (fun b hb=>by rcases hb with h1|h1;exact .inl h1;exact .inr (by have:=E.size;have:=X0.size;have:=X.size;omega)) (by rw[hD];exact h.1),h.2⟩))
  refine DagStepsP.cons (fun s' w' X U H=>Or.inl ⟨?_,?_⟩) ?_
  ·exact zAD rfl
  ·exact zAJ (zAG (U 2 rfl) zAc zAO rfl (((X0.trans X).keep Br).cells rfl)) (Ext.refl _) rfl
  refine DagStepsP.cons (fun s' w' X U H=>Or.inl ⟨?_,?_⟩) ?_
  ·exact zAD rfl
  ·obtain ⟨bd,bh,bq,a2,a9,bt⟩:=H 5 rfl 80 (.gen (reG (fun b=>S b∨n1≤b) D) (zBF _ _)) rfl (by rw[ad];rfl);have bn:s' 81=(.agg #[(.int .i64 t.kind),(.slice sa t.set.length sc),(.slice (some ⟨ab,ao,none⟩) t.args.length ac),(.int .i64 t.mn),(.int .i64 t.mx),(.bool t.neg)]):=H 6 rfl 81 (.eq (.agg #[(.int .i64 t.kind),(.slice sa t.set.length sc),(.slice (some ⟨ab,ao,none⟩) t.args.length ac),(.int .i64 t.mn),(.int .i64 t.mx),(.bool t.neg)])) rfl (by rw[ad];rfl);exact zEQ a9 bn bt (zAe.mono (fun y hy=>.inl hy) t (zAe.ext (Ext.trans E (X0.trans X)) t az)) (fun b hb=>.inr (by have:=E.size;have:=X0.size;have:=X.size;omega))
  refine DagStepsP.cons (fun s' w' X U H=>Or.inl ⟨?_,?_⟩) ?_
  ·exact zAD rfl
  ·obtain ⟨b82,bl,a4⟩:=H 7 rfl 82 (.gen (rsG (fun b=>S b∨n1≤b) [D,t]) (zCa _ _)) rfl (by rw[ad];rfl);exact zAs (zAV func118 zQQ zRZ (zOj bl)) ((zLj _ (fun b=>(S b∨n1≤b)∧b<w'.heap.size) _ [D,t] (zCU.lt a4) (fun y hy=>hy.2) (fun y hm hk=>by rcases List.mem_cons.1 hm with rfl|hm;exact (zCA (by rw[hD];exact zDZ c ar)).1 (.inl hk);simp at hm;subst hm;omega) (by simp only[Re.sizes];rw[hD];omega)).mono (fun r w h=>⟨zBk (S':=fun b=>((S b∨n1≤b)∧b<w'.heap.size)∨w'.heap.size≤b) (fun b hb=>by rcases hb with h1|h1;exact h1.1;exact .inr (by have:=E.size;have:=X0.size;have:=X.size;omega)) (by rw[bu];exact h.1),h.2⟩))
  refine DagStepsP.tail ?_;exact DagStepsP.nil
 ·intro s' w7 X7 U H;obtain ⟨af,ah,ag,ae,bg,aq⟩:=H 8 rfl 83 (.gen (reG (fun b=>S b∨n1≤b) N) (zBF _ _)) rfl (by rw[ad];rfl);obtain ⟨j7,rfl⟩:=zBA.out (σ:=s') (l:=[(4,(.pointer (some ⟨bo,0,none⟩))),(83,(.agg #[(.int .i64 N.kind),(.slice af N.set.length ah),(.slice ag N.args.length ae),(.int .i64 N.mn),(.int .i64 N.mx),(.bool N.neg)]))]) ⟨U 4 rfl,bg,trivial⟩;clear U H;replace Br:=X7.keep Br;replace Bo:=X7.keep Bo;replace E:=E.ext X7;refine zAY (b:=bo) (o:=0) (c':=(R6 N af ah ag ae)) rfl rfl qS zAO rfl Bo qL rfl ?_;intro w8 S8;replace aq:=zAe.chg S8.chg (fun y hy h=>by have h2:y=bo:=h;rcases hy with h1|h1;have:=hS y h1;omega;omega) _ aq;replace Br:=S8.keep qO Br;replace E:=S8.step E qQ;replace Bo:=S8.blk;refine zAB (zAC (zAR (zAZ (zAI (zAr results60 (vs:=[(.int .i64 N.kind),(.slice af N.set.length ah),(.slice ag N.args.length ae),(.int .i64 N.mn),(.int .i64 N.mx),(.bool N.neg)]) (b:=bo) rfl zAc zAO rfl (Bo.cells rfl) ?_)))));exact ⟨⟨_,rfl,by rw[←hN];exact zAe.mono (fun y hy=>by rcases hy with h1|h1;exact .inl h1;exact .inr qO) _ aq⟩,E⟩
end Go.Proofs
namespace Go.Eng
open Go
/-- The facts of the operations that are done before the variable is made, as facts afterwards. -/
inductive Cvs (n:Nat):List Fact→List Fact→Prop where
  | nil:Cvs n [] []
  | cons {F F':Fact} {l l':List Fact} (h:∀v w,w.heap.size=n→F.In v w→F'.In v w) (t:Cvs n l l'):Cvs n (F::l) (F'::l')
theorem Cvs.get {n:Nat}:∀{l l':List Fact},Cvs n l l'→∀{j:Nat} {F':Fact},l'[j]?=some F'→∃F,l[j]?=some F∧∀v w,w.heap.size=n→F.In v w→F'.In v w
  | _,_,.nil,_,_,h=>by simp at h
  | _,_,.cons h _,0,_,h1=>by simp at h1;subst h1;exact ⟨_,rfl,h⟩
  | _,_,.cons _ t,j+1,_,h1=>by
    obtain ⟨F,h2,h3⟩:=t.get (j:=j) (by simpa using h1);exact ⟨F,by simpa using h2,h3⟩
theorem Cvs.same {n:Nat} {F:Fact} {l l':List Fact} (t:Cvs n l l'):Cvs n (F::l) (F::l'):=.cons (fun _ _ _ h=>h) t
def zUC (P:Program) (t:TypeId) (c:Array Value) (d:Nat) (o:Oper):Prop:=
 (∃z rt pos af,Zer P t z∧z.cells=c∧o=⟨some d,.alloc t,rt,pos,af,none⟩)∧o.dst=some d∧o.guard=none
theorem zUC.mk' {P:Program} {t:TypeId} {c:Array Value} {d:Nat} {z:Value} {rt:TypeId} {pos:String} {af:Array Edge} (hz:Zer P t z) (hc:z.cells=c):zUC P t c d ⟨some d,.alloc t,rt,pos,af,none⟩:=⟨⟨_,_,_,_,hz,hc,rfl⟩,rfl,rfl⟩
/-- Each operation is of the head or of the tail; the first of the tail waits for the whole head but for one, each other of the tail for another of the tail. -/
def zWH (l:List Oper) (hd:List Bool) (ts:List Nat) (lt f:Nat):Bool:=
 (List.range l.length).all fun i=>hd.getD i false || (ts.contains i && bif Nat.beq i f then (List.range l.length).all (fun u=>!hd.getD u false || (Nat.beq u lt || zLi l i u)) else ts.any fun p=>!hd.getD p true && zLi l i p)
def zWs (ops:Array Oper) (hd:List Bool) (ts:List Nat) (lt f al:Nat) (ks:List Nat):Bool:=!hd.getD lt false || (zMT ops ks (((hd.set lt false).set f true).toArray) && (Nat.beq ks.length ts.length && !Nat.beq al lt))
theorem zHJ:∀hd:List Bool,zDu hd hd=0
  | []=>rfl
  | true::hd=>by have:=zHJ hd;simpa[zDu] using this
  | false::hd=>by have:=zHJ hd;simpa[zDu] using this
theorem zIr {P:Program} {N:Nat} {Q:zGJ} {σ:Env} {w:World} {id:Nat} {l:List Oper} (hd:List Bool) (ts:List Nat) (lt f:Nat) (ks:List Nat) (ds:List Nat) (wss:List (List Nat)) (Fs:(Nat→Prop)→List Fact) {Gs:(Nat→Prop)→List Fact} (hG:Fs=Gs) (R0:Nat→Prop) (hR0:∀y,w.heap.size≤y→R0 y) (al dA:Nat) {tA:TypeId} {oA:Oper} {cA:Array Value} {lo:Nat} (hlo:lo≤w.heap.size) (hdA:ds[al]?=some dA) (hoA:l[al]?=some oA) (hoA2:zUC P tA cA dA oA) (hFA:∀R,∃h,(Fs R)[al]?=some (.gen (alF tA cA lo) h))
    (hcv:∀n,Cvs n (Fs R0) (Fs fun y=>R0 y∧y≠n)) (hm:P.follows .mixedOrders=true) (hB:zFm N hd 0 l ds wss hd=true) (hn:zIR ds=true)
    (hAt:hd[al]?=some true) (hT:(zWH l hd ts lt f && zMT l.toArray ts hd.toArray)=true) (hL:zWs l.toArray hd ts lt f al ks=true) (hN:Nat.beq (zDu hd (List.replicate l.length false)+ts.length) l.length=true)
    (steps:∀w1,Ext w w1→∀RR:Nat→Prop,(∀y,y<w.heap.size→R0 y→RR y)→(∀y,w1.heap.size≤y→RR y)→DagStepsP P N ds (Fs RR) σ w1 l wss hd (Gs RR))
    (k:∀σ' w' (RR:Nat→Prop) β,Ext w w'→(∀t,ds.contains t=false→σ' t=σ t)→(∀y,RR y→R0 y∧y≠β)→σ' dA=.pointer (some ⟨β,0,none⟩)→(∀j,hd[j]?=some true→Holds ds (Fs RR) j σ' w')→WpL P N l.toArray (Q .normal) Q (ts.filterMap fun k=>l[k]?) σ' w')
    (k2:hd.getD lt false=true→∀σ' w' (RR:Nat→Prop) β,Ext w w'→(∀t,ds.contains t=false→σ' t=σ t)→(∀y,RR y→R0 y∧y≠β)→σ' dA=.pointer (some ⟨β,0,none⟩)→(∀j,hd[j]?=some true→j≠lt→Holds ds (Fs RR) j σ' w')→WpL P N l.toArray (Q .normal) Q ((f::ks).filterMap fun k=>l[k]?) σ' w'):Wp P N (.region id l.toArray true) Q σ w:=by
  intro a ha he;have eQ:zGU N (thn (Q .normal) Q)=zGU N Q:=by funext e a w;cases e<;>rfl
  refine wp_region_any hm ?_;obtain ⟨w1,bv⟩:∃w1:World,w1={w with drawn:=w.drawn+1}:=⟨_,rfl⟩;have bt:Ext w w1:=by rw[bv];exact zGe w
  rw[←bv];have a3:=steps w1 bt R0 (fun y _ h=>h) (fun y hy=>hR0 y (by have:=bt.size;omega));rw[←hG] at a3;rw[Bool.and_eq_true] at hT;obtain ⟨cr,cv⟩:=hT;obtain ⟨ck,bu⟩:=zIe hB;obtain ⟨bp,cd,cs⟩:=hoA2;have cy:∀(m:Nat) (RR:Nat→Prop) (wB:World) (listed:Array Bool) (a:Act) (w':World),DagStepsP P N ds (Fs RR) σ wB l wss hd (Fs RR)→Ext w wB→(listed.getD al false=false→RR=R0)→(listed.getD al false=true→∃β,(∀y,RR y→R0 y∧y≠β)∧env a dA=.pointer (some ⟨β,0,none⟩))→zDu hd listed.toList=m→listed.size=l.length→(∀(t:Nat),hd[t]?=some false→listed.toList[t]?=some false)→Ok N a→Ext wB w'→(∀t,ds.contains t=false→env a t=σ t)→(∀j,hd[j]?=some true→listed.getD j false=true→Holds ds (Fs RR) j (env a) w')→
      wpAny P .any l.toArray (zGU N Q) (m+ts.length) listed a w':=by
    intro m
    induction m with
    | zero=>
      intro RR wB listed a w' bk az bl be cq b3 au ha hx hu hh;have hl:listed=hd.toArray:=by
        apply Array.ext';exact zHI (by simp;omega) cq au
      have cb:listed.getD al false=true:=by
        rw[hl];exact zCq (by simpa using hAt)
      rw[Nat.zero_add];obtain ⟨β,bs,br⟩:=be cb;have h1:=k (env a) w' RR β (az.trans hx) hu bs br (fun j hj=>hh j hj (zCq (by rw[hl];exact hj))) a ha rfl;rw[eQ] at h1;exact zDf ts listed a w' (by rw[hl];exact cv) (by simpa using h1)
    | succ m ih=>
      intro RR wB listed a w' bk az bl be hcm b3 au ha hx hu hh;obtain ⟨i0,ao,bc⟩:=zIV (hd:=hd) (listed:=listed.toList) (by omega);rw[show m+1+ts.length=(m+ts.length)+1 by omega];refine ⟨fun hr=>?_,fun i hi=>?_⟩
      · exfalso;have bg:∀i:Nat,hd[i]?=some true→listed.getD i true=true:=by
          intro i
          induction i using Nat.strongRecOn with
          | _ i ihi=>
            intro hi;cases hv:listed.getD i true with
            | true=>rfl
            | false=>
              exfalso;obtain ⟨o,ho⟩:=zAU (l:=l) (i:=i) (by have:=zAa hi;omega);obtain ⟨d,ws,h,_,_,h2,h3⟩:=zDw hB ho;rw[hi] at h2;cases h2;simp only[cond_true,Bool.and_eq_true,Nat.zero_add] at h3;have:i∈Region.ready .any l.toArray listed:=by
                refine mem_ready.2 ⟨hv,o,by simpa using ho,fun e he hb=>?_⟩;have h4:=h3.1;simp only[zEN,Bool.and_eq_true,Array.all_eq_true_iff_forall_mem,Bool.or_eq_true,Bool.not_eq_true'] at h4;have h5:=h3.2.1;simp only[Array.all_eq_true_iff_forall_mem,Bool.or_eq_true,Bool.not_eq_true'] at h5;have h6:=(h4.1.2 e he).resolve_left (by simp[hb]);have ak:e.on<i:=by simpa[Nat.blt_eq] using h6
                have h7:=(h5 e he).resolve_left (by simp[hb]);have b6:e.on<hd.length:=by have:=zAa hi;omega
                have h8:hd[e.on]?=some true:=by
                  rw[List.getD_eq_getElem?_getD,List.getElem?_eq_getElem b6,Option.getD_some] at h7;rw[List.getElem?_eq_getElem b6,h7]
                have h9:=ihi e.on ak h8;have hj:e.on<listed.size:=by omega
                simpa only[Array.getD_eq_getD_getElem?,Array.getElem?_eq_getElem hj,Option.getD_some] using h9
              rw[hr] at this;cases this
        have:=bg i0 ao;rw[zCq bc] at this;cases this
      · obtain ⟨h1,o,h2,h3⟩:=mem_ready.1 hi;have ho:l[i]?=some o:=by simpa using h2
        have ca:i<l.length:=zAa ho;by_cases hih:hd[i]?=some true
        rotate_left
        · -- one of the tail: all of the head but one are listed
          have hb:hd[i]?=some false:=by
            obtain ⟨b,hb⟩:=zAU (l:=hd) (i:=i) (by omega);cases b with
            | true=>exact absurd hb hih
            | false=>exact hb
          have h4:=List.all_eq_true.1 cr i (List.mem_range.2 ca);rw[List.getD_eq_getElem?_getD,hb,Option.getD_some,Bool.false_or,Bool.and_eq_true] at h4;have bb:∀u,zLi l i u=true→listed.getD u false=true:=fun u bd=>by
            unfold zLi at bd;rw[ho] at bd;simp only[Array.any_eq_true',Bool.and_eq_true] at bd;obtain ⟨e,he,bf,bm⟩:=bd;have:=Nat.eq_of_beq_eq_true bm;rw[←this];exact h3 e he bf
          cases hif:Nat.beq i f with
          | false=>
            exfalso;rw[hif,cond_false] at h4;obtain ⟨p,_,h6⟩:=List.any_eq_true.1 h4.2;rw[Bool.and_eq_true,Bool.not_eq_true'] at h6;have h7:=bb p h6.2;have hp:hd[p]?=some false:=by
              have h8:=h6.1;rw[List.getD_eq_getElem?_getD] at h8;cases h9:hd[p]? with
              | none=>rw[h9] at h8;cases h8
              | some b=>rw[h9,Option.getD_some] at h8;rw[h8]
            rw[zCq (au p hp)] at h7;cases h7
          | true=>
            rw[hif,cond_true] at h4;have b4:i=f:=Nat.eq_of_beq_eq_true hif;have ab:∀u,hd[u]?=some true→u≠lt→listed.getD u false=true:=fun u b2 b7=>by
              have h6:=List.all_eq_true.1 h4.2 u (List.mem_range.2 (by have:=zAa b2;omega));rw[List.getD_eq_getElem?_getD,b2,Option.getD_some,Bool.not_true,Bool.false_or,Bool.or_eq_true] at h6;rcases h6 with h6|h6
              · exact absurd (Nat.eq_of_beq_eq_true h6) b7
              · exact bb u h6
            have bh:i0=lt:=Classical.byContradiction fun ag=>by
              have:=ab i0 ao ag;rw[zCq bc] at this;cases this
            subst bh;have b0:listed.toList=hd.set i0 false:=by
              apply List.ext_getElem?;intro t;rw[List.getElem?_set];by_cases ht:i0=t
              · subst ht;rw[if_pos rfl,if_pos (zAa ao)];exact bc
              · rw[if_neg ht];cases h9:hd[t]? with
                | none=>exact List.getElem?_eq_none (by have:=List.getElem?_eq_none_iff.1 h9;simp;omega)
                | some b=>
                  cases b with
                  | false=>exact au t h9
                  | true=>
                    have ax:=ab t h9 (Ne.symm ht);have bw:t<listed.size:=by have:=zAa h9;omega
                    simp only[Array.getD_eq_getD_getElem?,Array.getElem?_eq_getElem bw,Option.getD_some] at ax;rw[Array.getElem?_toList,Array.getElem?_eq_getElem bw,ax]
            have cp:m=0:=by
              have h9:=zGX ao bc;have ax:listed.toList.set i0 true=hd:=by
                rw[b0,List.set_set];apply List.ext_getElem?;intro t;rw[List.getElem?_set];by_cases ht:i0=t
                · subst ht;rw[if_pos rfl,if_pos (zAa ao),ao]
                · rw[if_neg ht]
              rw[ax,zHJ] at h9;omega
            subst cp;have ac:hd.getD i0 false=true:=by rw[List.getD_eq_getElem?_getD,ao,Option.getD_some]
            unfold zWs at hL;rw[ac,Bool.not_true,Bool.false_or,Bool.and_eq_true,Bool.and_eq_true,Bool.not_eq_true'] at hL;obtain ⟨cg,bq,b5⟩:=hL;have bq:=Nat.eq_of_beq_eq_true bq;have ag:al≠i0:=fun e=>by rw[e,Nat.beq_refl] at b5;cases b5
            obtain ⟨β,bs,br⟩:=be (ab al hAt ag);have h9:=k2 ac (env a) w' RR β (az.trans hx) hu bs br (fun j hj ce=>hh j hj (ab j hj ce)) a ha rfl;rw[eQ] at h9;have bx:wpList P l.toArray (zGU N Q) ((f::ks).filterMap fun k=>l.toArray[k]?) a w':=by simpa using h9
            have hw:wpOp P l.toArray (zGU N Q) i (wpList P l.toArray (zGU N Q) (ks.filterMap fun k=>l.toArray[k]?)) a w':=by
              rw[List.filterMap_cons,←b4,h2] at bx;unfold wpOp;simp only[h2];exact bx
            rw[Nat.zero_add,←bq];refine wpOp_mono (fun a2 w2 ax=>zDf ks _ a2 w2 ?_ ax) hw;have cw:listed.setIfInBounds i true=(((hd.set i0 false).set f true).toArray):=by
              apply Array.ext';rw[Array.toList_setIfInBounds,b0,b4]
            rw[cw];exact cg
        obtain ⟨d,ws,h,av,cc,bz,h4⟩:=zDw hB ho;rw[hih] at bz;cases bz;obtain ⟨ws',F,a9,hF,a6⟩:=bk.get ho hih;rw[cc] at a9;cases a9;simp only[cond_true,Bool.and_eq_true,Nat.zero_add] at h4;have ay:=h4.2.2;have h4:=h4.1;simp only[zEN,Bool.and_eq_true,List.all_eq_true,Array.any_eq_true',Array.all_eq_true_iff_forall_mem,Bool.or_eq_true,Bool.not_eq_true'] at h4;obtain ⟨⟨⟨ae,bi⟩,_⟩,a4⟩:=h4;have ae:o.dst=some d:=by
          split at ae
          · rename_i d' h;rw[h,Nat.eq_of_beq_eq_true ae]
          · cases ae
        have bi:d<N:=by simpa[Nat.blt_eq] using bi
        have hH:∀j,ws.contains j=true→Holds ds (Fs RR) j (env a) w':=by
          intro j hj;have c0:j∈ws:=by simpa using hj
          obtain ⟨e,he,hb⟩:=a4 j c0;obtain ⟨bf,bm⟩:=hb;have cz:e.on=j:=Nat.eq_of_beq_eq_true bm;have a8:=h3 e he bf;rw[cz] at a8;refine hh j ?_ a8;obtain ⟨b,hb⟩:=zAU (l:=hd) (i:=j) (by
            rcases Nat.lt_or_ge j listed.size with h9|h9
            · omega
            · simp[Array.getD_eq_getD_getElem?,Array.getElem?_eq_none h9] at a8)
          cases b with
          | true=>exact hb
          | false=>rw[zCq (au j hb)] at a8;cases a8
        have gd:∀j b,o.guard=some (j,b)→∀dj,ds[j]?=some dj→(∃oj,l[j]?=some oj∧oj.dst=some dj)∧dj<N:=fun j b ac dj aj=>by
          obtain ⟨oj,ar⟩:=zAU (l:=l) (i:=j) (by have:=zAa aj;omega);obtain ⟨dj',_,hj,a1,_,h5,h6⟩:=zDw hB ar;rw[aj] at a1;cases a1;unfold zNm at ay;rw[ac] at ay;simp only at ay;have h7:hj=true:=by rw[List.getD_eq_getElem?_getD,h5,Option.getD_some] at ay;exact ay
          rw[h7] at h6;simp only[cond_true,Bool.and_eq_true,zEN] at h6;obtain ⟨⟨⟨aa,ad⟩,_⟩,_⟩:=h6.1;refine ⟨⟨oj,ar,?_⟩,by simpa[Nat.blt_eq] using ad⟩;split at aa
          · rename_i d' h;rw[h,Nat.eq_of_beq_eq_true aa]
          · cases aa
        have am:∀(R2:Nat→Prop) (wC:World) v w2,DagStepsP P N ds (Fs R2) σ wC l wss hd (Fs R2)→Ext w wC→Ext wC w2→((listed.setIfInBounds i true).getD al false=false→R2=R0)→((listed.setIfInBounds i true).getD al false=true→∃β,(∀y,R2 y→R0 y∧y≠β)∧upd (env a) d v dA=.pointer (some ⟨β,0,none⟩))→(∀F,(Fs R2)[i]?=some F→F.In v w2)→(∀j,j≠i→hd[j]?=some true→listed.getD j false=true→Holds ds (Fs R2) j (env a) w2)→wpAny P .any l.toArray (zGU N Q) (m+ts.length) (listed.setIfInBounds i true) (a.put o.dst v) w2:=by
          intro R2 wC v w2 ai cj cx cm cu hv b9;have ap:env (a.put o.dst v)=upd (env a) d v:=by rw[ae];exact zEs ha bi v
          have cl:listed.toList[i]?=some false:=by
            have hj:i<listed.size:=by omega
            simp only[Array.getD_eq_getD_getElem?,Array.getElem?_eq_getElem hj,Option.getD_some] at h1;rw[Array.getElem?_toList,Array.getElem?_eq_getElem hj,h1]
          refine ih R2 wC _ _ _ ai cj cm (fun h=>by obtain ⟨β,h5,h6⟩:=cu h;exact ⟨β,h5,by rw[ap];exact h6⟩) ?_ (by simpa using b3) (fun t ht=>?_) (ha.put _ _) cx ?_ ?_
          · rw[Array.toList_setIfInBounds];have:=zGX hih cl;omega
          · rw[Array.toList_setIfInBounds,List.getElem?_set];have ag:i≠t:=fun e=>by rw[←e,hih] at ht;cases ht
            rw[if_neg ag];exact au t ht
          · intro t ht;rw[ap,←hu t ht];simp only[upd];cases hb:Nat.beq t d
            · rfl
            · exfalso;have:t=d:=Nat.eq_of_beq_eq_true hb;subst this;have:=List.mem_of_getElem? av;simp[this] at ht
          · intro j a5 hj d' F' ah b1;rw[ap];by_cases ba:j=i
            · subst ba;rw[av] at ah;cases ah;simp only[upd,Nat.beq_refl,cond_true];exact hv _ b1
            · have ag:Nat.beq d' d=false:=by
                cases hb:Nat.beq d' d
                · rfl
                · exfalso;have:d'=d:=Nat.eq_of_beq_eq_true hb;subst this;exact ba (zDm hn ah av)
              simp only[upd,ag,cond_false];rw[getD_set_ne _ (Ne.symm ba)] at hj;exact b9 j ba a5 hj d' F' ah b1
        by_cases hia:i=al
        · -- the new variable itself
          subst hia;rw[hoA] at ho;cases ho;rw[hdA] at av;cases av;have b8:=bl (getD_both h1);subst b8;obtain ⟨z,rt,pos,af,hz,cf,ci⟩:=bp;have hw:Region.wanted oA (yielded l.toArray a.tmps)=true:=by simp[Region.wanted,cs]
          have bo:zPK P N oA (fun v w2=>v=.pointer (some ⟨w'.heap.size,0,none⟩)∧Blk w2 w'.heap.size cA tA∧w'.heap.size<w2.heap.size) (env a) w':=by
            subst ci;subst cf;have hn:=New.mk' w' z.cells tA;exact zAJ (v:=.pointer (some ⟨w'.heap.size,0,none⟩)) (by simp[execOp,Instr.alloc,hz.run,newVar,newRow]) hn.ext ⟨rfl,hn.blk,hn.blk.lt⟩
          unfold wpOp;simp only[h2,hw,if_true];refine Or.inl (bo a ha rfl _ _ ?_);rintro v w2 aw ⟨rfl,bj,ak⟩;have aq:=az.trans hx;have hs1:=aq.size;have ai:=steps w2 (aq.trans aw) (fun y=>RR y∧y≠w'.heap.size) (fun y hy h=>⟨h,by omega⟩) (fun y hy=>⟨hR0 y (by omega),by omega⟩);rw[←hG] at ai;refine am _ w2 _ w2 ai (aq.trans aw) (Ext.refl _) (fun h=>?_) (fun _=>⟨w'.heap.size,fun y h=>h,by simp[upd]⟩) (fun F2 a0=>?_) (fun j ba a5 hj=>?_)
          · rw[zCq (b:=true) (by rw[Array.toList_setIfInBounds,List.getElem?_set,if_pos rfl,if_pos (by simpa using (by omega:i<listed.size))])] at h;cases h
          · obtain ⟨h5,h6⟩:=hFA fun y=>RR y∧y≠w'.heap.size;rw[h6] at a0;cases a0;exact ⟨_,rfl,bj,by omega⟩
          · intro dj Fj aj cn;obtain ⟨F0,ct,hc⟩:=(hcv w'.heap.size).get cn;exact Fact.ext (hc _ _ rfl (hh j a5 hj dj F0 aj ct)) aw
        have a7:∀v w2,Ext w' w2→F.In v w2→wpAny P .any l.toArray (zGU N Q) (m+ts.length) (listed.setIfInBounds i true) (a.put o.dst v) w2:=by
          intro v w2 aw hv;refine am RR wB v w2 bk az (hx.trans aw) (fun h=>bl (by rw[getD_set_ne _ (by omega:i≠al)] at h;exact h)) (fun h=>?_) (fun F2 a0=>by rw[hF] at a0;cases a0;exact hv) (fun j _ a5 hj d3 F3 co ch=>Fact.ext (hh j a5 hj d3 F3 co ch) aw);rw[getD_set_ne _ (by omega:i≠al)] at h;obtain ⟨β,h5,h6⟩:=be h;refine ⟨β,h5,?_⟩;have ag:Nat.beq dA d=false:=by
            cases hb:Nat.beq dA d
            · rfl
            · exfalso;have:dA=d:=Nat.eq_of_beq_eq_true hb;subst this;exact hia (zDm hn av hdA)
          simp only[upd,ag,cond_false];exact h6
        rcases a6 (env a) w' hx hu hH with ⟨hg,bo⟩|⟨⟨j,b,dj,ac,aj,an⟩,bn⟩
        · have hw:Region.wanted o (yielded l.toArray a.tmps)=true:=by
            cases ac:o.guard with
            | none=>simp[Region.wanted,ac]
            | some p=>
              obtain ⟨j,b⟩:=p;obtain ⟨dj,aj,an⟩:=hg j b ac;obtain ⟨aa,ad⟩:=gd j b ac dj aj;have h6:a.tmps[dj]?=some (Value.bool b):=by
                have h2:a.tmps.getD dj undef=.bool b:=an;have ak:dj<a.tmps.size:=by rw[ha.size];exact ad
                rw[Array.getElem?_eq_getElem ak];simpa[ak] using h2
              obtain ⟨oj,ar,aa⟩:=aa;simp[Region.wanted,ac,yielded,ar,aa,h6]
          unfold wpOp;simp only[h2,hw,if_true];exact Or.inl (bo a ha rfl _ _ a7)
        · have hw:Region.wanted o (yielded l.toArray a.tmps)=false:=by
            obtain ⟨aa,ad⟩:=gd j b ac dj aj;have ak:dj<a.tmps.size:=by rw[ha.size];exact ad
            have h6:a.tmps[dj]?=some (env a dj):=by
              rw[Array.getElem?_eq_getElem ak];simp[env,ak]
            obtain ⟨oj,ar,aa⟩:=aa;rcases an with an|an
            · rw[an] at h6;cases b<;>simp[Region.wanted,ac,yielded,ar,aa,h6]
            · rw[an] at h6;simp[Region.wanted,ac,yielded,ar,aa,h6,undef]
          unfold wpOp;simp only[h2,hw,Bool.false_eq_true,if_false];exact a7 undef w' (Ext.refl _) bn
  have h1:=cy (zDu hd (Array.replicate l.toArray.size false).toList) R0 w1 (Array.replicate l.toArray.size false) a w1 a3 bt (fun _=>rfl) (fun h=>by rw[getD_replicate_false] at h;cases h) rfl (by simp) (fun t ht=>by have h9:=zAa ht;rw[Array.toList_replicate,List.getElem?_replicate,if_pos (by rw[List.size_toArray];omega)]) ha (Ext.refl _) (fun t _=>by rw[he]) (fun j _ hj=>by rw[getD_replicate_false] at hj;cases hj);have e3:zDu hd (Array.replicate l.toArray.size false).toList+ts.length=l.toArray.size:=by have h9:=Nat.eq_of_beq_eq_true hN;simpa using h9
  rw[e3] at h1;exact h1
end Go.Eng
namespace Go.Proofs
open Go Go.Eng Go.Sort
set_option maxRecDepth 100000
theorem zLF {S:Nat→Prop} {x:Re} {v:Value} {w:World} {n:Nat} (e:w.heap.size=n) (h:reG S x v w):reG (fun y=>S y∧y≠n) x v w:=by
 obtain ⟨sa,sc,aa,ac,h1,h2⟩:=h;exact ⟨sa,sc,aa,ac,h1,zAe.mono (fun y hy=>⟨hy.1,qO⟩) x (zAe.lt x h2)⟩
theorem zLD {S:Nat→Prop} {l:List Re} {v:Value} {w:World} {n:Nat} (e:w.heap.size=n) (h:rsG S l v w):rsG (fun y=>S y∧y≠n) l v w:=by
 obtain ⟨b,h1,h2⟩:=h;exact ⟨b,h1,zHC (fun y hy=>⟨hy.1,qO⟩) (zCU.lt h2)⟩
theorem zPr {S:Nat→Prop} {w:World} {ab ao ac:Nat} {x:Re} {l:List Re} (h:zCU S w (.slice (some ⟨ab,ao,none⟩) (x::l).length ac) (x::l)):zCU S w (.slice (some ⟨ab,ao+6,none⟩) l.length (ac - 1)) l:=by
 obtain ⟨aa,ac',h1,h2,h3⟩:=h;simp only[Value.slice.injEq,true_and] at h1;obtain ⟨rfl,rfl⟩:=h1;obtain ⟨b,o,h4,h5,h6⟩:=h3.resolve_left qP;simp only[Option.some.injEq,Addr.mk.injEq,and_true] at h5;obtain ⟨rfl,rfl⟩:=h5;simp only[List.length_cons] at h2;simp only[zBX] at h6;exact ⟨_,_,rfl,qO,.inr ⟨_,_,h4,rfl,h6.2⟩⟩
theorem zTF {l:List Re} (h:∀y∈l,y.kind≠0∧y.kind≠1∧y.kind≠3):zEz l=zCL 3 zBT l:=by
  have h1:zBY 3 l=l:=by
    induction l with
    | nil=>rfl
    | cons y l ih=>
      have hy:=h y qP;have hl:=ih fun z hz=>h z (by simp[hz]);unfold zBY at hl⊢;rw[List.flatMap_cons,hl];simp[hy]
  have h2:zFq zCF l=l:=List.filter_eq_self.2 fun y hy=>by
    have:=h y hy;simp[zCF,this]
  have h3:l.any zBc=false:=by
    rw[List.any_eq_false];intro y hy;have:=h y hy;simp[zBc,this]
  unfold zEz;simp only[h1,h2,h3];simp
theorem zOP (c:Int) {l:List Re} (h:l≠[]):zBK c (zCL 3 zBT l)=zEx c l:=by
  match l,h with
  | [y],_=>simp[zCL,zEx]
  | y::z::l,_=>show zBK c (.mk 3 [] (y::z::l) 0 0 false)=_;simp[zBK]
theorem pre4 (l:List Re):PreN 4 [] l 0 0 false:=⟨qO,rfl,fun _=>rfl,fun _=>⟨rfl,rfl⟩,qO,qO,qO,qO⟩
theorem st3' {c:Int} {t x:Re} {l:List Re} (h:t.kind=3) (ha:t.args=x::l) (hl:l≠[]):zBK c t=if zBW x=true then zDN (.mk 4 [] [zEz [zBK c x,zCL 3 zBT l],zBK c (zCL 3 zBT l)] 0 0 false) else zEz [zBK c x,zCL 3 zBT l]:=by
 rw[st3 h,ha,zOP c hl]
 conv=>lhs;unfold zEx
 rw[if_neg hl];rfl
theorem zUL (c:Int) (n:Nat) (ih:zGI c n) (t:Re) (hn:t.size≤n) (h300:t.size≤300) (hok:zAz t) (hk:t.kind=3) (w0:World) (S:Nat→Prop) (vs:List Value) (ht:zAe S w0 t vs) (hS:∀x,S x→x<w0.heap.size) :
    Ret prog 60 #[.agg vs.toArray,.int .i64 c] w0 fun r w=>(∃us,r=.agg us.toArray∧zAe (fun b=>S b∨w0.heap.size≤b) w (zBK c t) us)∧Ext w0 w:=by
  have c2:=ht;obtain ⟨sa,sc,aa,ac,rfl,dl,c0,a6⟩:=ht.form;have ci:zCU S w0 (.slice aa t.args.length ac) t.args:=zFx c2;have hal:=zCB t;have a2:=t.size_eq;obtain ⟨a1,b5⟩:=hok.n.k3 hk;obtain ⟨x,l,al,bt⟩:∃x l,t.args=x::l∧l≠[]:=by
    match h:t.args with
    | []=>rw[h] at a1;simp at a1
    | [y]=>rw[h] at a1;simp at a1
    | y::z::l=>exact ⟨y,z::l,rfl,qP⟩
  have bj:∀y∈l,y.kind≠0∧y.kind≠1∧y.kind≠3:=fun y hy=>b5 y (by rw[al];simp[hy]);have bk:zAz x:=hok.a x (by rw[al];simp);have de:∀y∈l,zAz y:=fun y hy=>hok.a y (by rw[al];simp[hy]);have hx:t.args[0]?=some x:=by rw[al];rfl
  have cb:t.args.length=l.length+1:=by rw[al];rfl
  have hl1:0<l.length:=List.length_pos_iff.2 bt;have hxz:=Re.size_arg hx;obtain ⟨ab,ao,hab,rfl,bw⟩:=a6.resolve_left (fun h=>by rw[h] at hx;cases hx);obtain ⟨us,b1,b0⟩:=bw.get hx;have a3:=b0;obtain ⟨au,ax,ap,aq,rfl,_,_,_⟩:=b0.form;have b3:zCU S w0 (.slice (some ⟨ab,ao+6,none⟩) l.length (ac - 1)) l:=by
    refine zPr (x:=x) ?_;rw[←al];exact ci
  obtain ⟨R,hR⟩:∃R,R=zCL 3 zBT l:=⟨_,rfl⟩;have cj:zEz l=R:=by rw[hR];exact zTF bj
  have a0:zAz R:=by rw[hR];exact zPT de bj
  have da:t.size=x.size+Re.sizes l+1:=by rw[a2,al];simp only[Re.sizes]
  have hRz:R.size≤Re.sizes l+1:=by rw[hR];exact zKj l
  have hxp:=x.size_pos;obtain ⟨D,hD⟩:∃D,D=zBK c x:=⟨_,rfl⟩;obtain ⟨F,hF⟩:∃F,F=zEz [D,R]:=⟨_,rfl⟩;obtain ⟨G,hG⟩:∃G,G=zBK c R:=⟨_,rfl⟩;obtain ⟨N,hN⟩:∃N,N=zDN (.mk 4 [] [F,G] 0 0 false):=⟨_,rfl⟩;have b4:zAz D:=by rw[hD];exact zDZ c bk
  have cn:zAz G:=by rw[hG];exact zDZ c a0
  have b2:zBK c t=if zBW x=true then N else F:=by rw[hN,hG,hF,hD,hR];exact st3' hk al bt
  have hDz:D.size≤200000:=by rw[hD];exact zCu bk qO
  have hGz:G.size≤200000:=by rw[hG];exact zCu a0 qO
  have di:zAz F:=by
    rw[hF];refine zIk fun z hz=>?_;simp only[List.mem_cons,List.not_mem_nil,or_false] at hz;rcases hz with rfl|rfl
    · exact b4
    · exact a0
  have hFz:F.size≤200400:=by
    have:=zFQ [D,R];rw[←hF] at this;simp only[Re.sizes] at this;omega
  rw[b2];clear b2 a2 a1 b5;refine qR func60 rfl ntmps60 rfl (fun E=>(zAA (zBL (v:=(.agg (R6 t sa sc (some ⟨ab,ao,none⟩) ac))) (c:=(R6 t sa sc (some ⟨ab,ao,none⟩) ac)) qD rfl rfl ?_)));intro br wr Nr;have Fr:=Nr.ge E;replace E:=E.ext Nr.ext;have Br:=Nr.blk;refine zBJ (c:=#[(I6 0),(.slice none 0 0),(.slice none 0 0),(I6 0),(I6 0),(.bool false)]) qD zAu rfl ?_;intro bo wo No;have Fo:=No.ge E;have Oo_br:=No.lt Br;replace Br:=No.keep Br;replace E:=E.ext No.ext;have Bo:=No.blk;refine zAB (zAK (zAA (qF br 0 0 rfl underlying25 rfl zAv rfl (qV (zAL (v:=(I6 t.kind)) rfl zAf (Br.cell rfl)) (zAB (zAT (zAA (qV (zAk (k:=.i64) (a:=t.kind) (b:=2) rfl rfl) (qA (.bool (decide ((t.kind:Int)=2))) rfl (zAB ?_))))))))));obtain ⟨n1,bp⟩:∃n1,n1=wo.heap.size:=⟨_,rfl⟩;have hob:br<n1∧bo<n1∧w0.heap.size≤bo∧w0.heap.size≤n1:=⟨by rw[bp];exact Br.lt,by rw[bp];exact Bo.lt,qO,by rw[bp];exact E.size⟩;have df:n1≤wo.heap.size:=qO
  have E1:Chg zAo wo wo:=Chg.refl _ _;have cu:(decide ((t.kind:Int)=2))=false:=decide_eq_false qO;refine zAb (cbk cu) (zAA (qV (zAk (k:=.i64) (a:=t.kind) (b:=3) rfl rfl) (qA (.bool (decide ((t.kind:Int)=3))) rfl (zAB ?_))));have ch:(decide ((t.kind:Int)=3))=true:=decide_eq_true hk;refine zAl (cbk ch) (zAA (qF br 0 2 rfl underlying25 rfl zBS rfl (qV (zAL (v:=(.slice (some ⟨ab,ao,none⟩) t.args.length ac)) rfl zBE (Br.cell rfl)) ?_)));obtain ⟨b7,a9⟩:∃a':Option Addr,(if ac=1 then (some ⟨ab,ao,none⟩) else Option.map (fun q:Addr=>q.add (1*6)) (some ⟨ab,ao,none⟩))=a':=⟨_,rfl⟩;refine qV (zDq (a:=(some ⟨ab,ao,none⟩)) (len:=t.args.length) (cap:=ac) (lo:=1) (l:=1) (n':=l.length) (c':=ac - 1) underlying23 zAO rfl rfl qO qO a9 qO qO) ?_;have a8:b7=some ⟨ab,ao+6,none⟩:=by rw[←a9,if_neg qO];rfl
  rw[←a8] at b3;refine qE rfl (zAV (vs:=[(.slice b7 l.length (ac - 1))]) func119 zZB zaH rfl) ((zRM _ S _ l (b3.ext E) bt qO).mono (R':=fun r w=>(∃a c,r=.slice a l.length c∧zCU (fun b=>S b∨n1≤b) w r l)∧Ext wo w) (fun r w h=>⟨by obtain ⟨⟨a,c,h1,h2⟩,_⟩:=h;exact ⟨a,c,h1,zHC (fun b hb=>by rcases hb with h1|h1;exact .inl h1;exact .inr qO) h2⟩,h.2⟩)) ?_;rintro _ bb ⟨⟨ca,cc,rfl,cf⟩,az⟩;replace Br:=az.keep Br;replace Bo:=az.keep Bo;replace E:=E.ext az;replace E1:=E1.ext az;obtain ⟨h25,ct⟩:∃h,h=bb.heap.size:=⟨_,rfl⟩;refine qE rfl (zAV (vs:=[(.slice ca l.length cc)]) func118 zQQ zRZ rfl) ((zLj _ _ _ l (zCU.lt cf) (fun y hy=>hy.2) (fun y hy hk=>by have:=bj y hy;omega) qO).mono (R':=fun r w=>reG (fun b=>S b∨n1≤b) R r w∧Ext bb w) (fun r w h=>⟨zBk (S':=fun b=>((S b∨n1≤b)∧b<bb.heap.size)∨bb.heap.size≤b) (fun b hb=>by rcases hb with h1|h1;exact h1.1;exact .inr (by have:=az.size;omega)) (by rw[←cj];exact h.1),h.2⟩)) ?_;rintro _ bl ⟨⟨xa,xc,ya,yc,rfl,c4⟩,be⟩;replace Br:=be.keep Br;replace Bo:=be.keep Bo;replace E:=E.ext be;replace E1:=E1.ext be;have aj:=zAe.lt R c4;obtain ⟨bz,bm⟩:∃h,h=bl.heap.size:=⟨_,rfl⟩;rw[←bm] at aj;have E2:Chg zAo bl bl:=Chg.refl _ _;refine zAg (v:=(.agg (R6 R xa xc ya yc))) (c:=(R6 R xa xc ya yc)) (n:=6) qD zAu rfl zAO rfl rfl rfl qS ?_;intro bq wq Nq;have Fq:=Nq.ge E;have Fq_E1:=Nq.ge E1;have Fq_E2:=Nq.ge E2;have Oq_br:=Nq.lt Br;have Oq_bo:=Nq.lt Bo;replace Br:=Nq.keep Br;replace Bo:=Nq.keep Bo;replace aj:=zAe.ext Nq.ext _ aj;replace E:=E.ext Nq.ext;have Bq:=Nq.blk;replace E1:=E1.ext Nq.ext;replace E2:=E2.ext Nq.ext;refine zAB ?_;have cy:w0.heap.size≤wq.heap.size:=E.size;have bf:br<wq.heap.size:=Br.lt;have bh:bo<wq.heap.size:=Bo.lt;have bc:bq<wq.heap.size:=Bq.lt;refine zAK ?_;obtain ⟨cr,ad⟩:∃Fs:(Nat→Prop)→List Fact,Fs=fun RR=>[.eq (P6 br 2),.eq (.slice (some ⟨ab,ao,none⟩) t.args.length ac),.eq (.pointer (some ⟨ab,ao+0*6,none⟩)),.eq (.agg (R6 x au ax ap aq)),.eq (I6 c),.gen (reG RR D) (zBF _ _),.eq (.agg (R6 R xa xc ya yc)),.gen (rsG RR [D,R]) (zCa _ _),.gen (reG RR F) (zBF _ _),.gen (alF 25 #[(I6 0),(.slice none 0 0),(.slice none 0 0),(I6 0),(I6 0),(.bool false)] wq.heap.size) (zET _ _ _),.eq undef]:=⟨_,rfl⟩;refine zIr [true,true,true,true,true,true,true,true,true,true,false] [10] 11 10 [] [27,28,29,30,31,32,33,34,35,6,120] [[],[0],[1],[2],[],[3,4],[],[5,6],[5,7],[],[]] cr ad (fun b=>S b∨n1≤b) (fun y hy=>.inr (by have:=E1.size;omega)) 9 6 (lo:=wq.heap.size) (Nat.le_refl _) rfl rfl (zUC.mk' zAu rfl) (fun RR=>⟨_,by rw[ad];rfl⟩) (fun n=>by rw[ad];repeat (first|exact Cvs.nil|refine Cvs.same ?_|refine Cvs.cons (fun v w e h=>by first|exact zLF e h|exact zLD e h|exact zHy e h) ?_)) mixed qK qK rfl qK qK qK ?_ ?_ (fun h9=>absurd h9 qD)
  · intro wd X0 RR a4 aw;refine DagStepsP.cons (fun s' w' X U H=>Or.inl ⟨?_,?_⟩) ?_
    · exact zAD rfl
    · exact zAJ (zAQ (b:=br) (o:=0) (o':=2) (U 2 rfl) underlying25 rfl zBS rfl) (Ext.refl _) rfl
    refine DagStepsP.cons (fun s' w' X U H=>Or.inl ⟨?_,?_⟩) ?_
    · exact zAD rfl
    · have cw:s' 27=(.pointer (some ⟨br,2,none⟩)):=H 0 rfl 27 (.eq (.pointer (some ⟨br,2,none⟩))) rfl (by rw[ad];rfl);exact zAJ (zAL (v:=(.slice (some ⟨ab,ao,none⟩) t.args.length ac)) cw zBE (((X0.trans X).keep Br).cell rfl)) (Ext.refl _) rfl
    refine DagStepsP.cons (fun s' w' X U H=>Or.inl ⟨?_,?_⟩) ?_
    · exact zAD rfl
    · have c9:s' 28=(.slice (some ⟨ab,ao,none⟩) t.args.length ac):=H 1 rfl 28 (.eq (.slice (some ⟨ab,ao,none⟩) t.args.length ac)) rfl (by rw[ad];rfl);exact zAJ (zAH (b:=ab) (o:=ao) (len:=t.args.length) (cap:=ac) (i:=0) (o':=ao+0*6) c9 rfl rfl underlying23 zAO qO qO) (Ext.refl _) rfl
    refine DagStepsP.cons (fun s' w' X U H=>Or.inl ⟨?_,?_⟩) ?_
    · exact zAD rfl
    · have cz:s' 29=(.pointer (some ⟨ab,ao+0*6,none⟩)):=H 2 rfl 29 (.eq (.pointer (some ⟨ab,ao+0*6,none⟩))) rfl (by rw[ad];rfl);exact zAJ (zAG (vs:=[(I6 x.kind),(.slice au x.set.length ax),(.slice ap x.args.length aq),(I6 x.mn),(I6 x.mx),(.bool x.neg)]) cz zAc zAO rfl (b1.ext (Ext.trans E (X0.trans X)))) (Ext.refl _) rfl
    refine DagStepsP.cons (fun s' w' X U H=>Or.inl ⟨?_,?_⟩) ?_
    · exact zAD rfl
    · exact zAJ (zAi (v:=(I6 c)) (U 1 rfl)) (Ext.refl _) rfl
    refine DagStepsP.cons (fun s' w' X U H=>Or.inl ⟨?_,?_⟩) ?_
    · exact zAD rfl
    · have c3:s' 30=(.agg #[(.int .i64 x.kind),(.slice au x.set.length ax),(.slice ap x.args.length aq),(.int .i64 x.mn),(.int .i64 x.mx),(.bool x.neg)]):=H 3 rfl 30 (.eq (.agg #[(.int .i64 x.kind),(.slice au x.set.length ax),(.slice ap x.args.length aq),(.int .i64 x.mn),(.int .i64 x.mx),(.bool x.neg)])) rfl (by rw[ad];rfl);have cp:s' 31=(.int .i64 c):=H 4 rfl 31 (.eq (.int .i64 c)) rfl (by rw[ad];rfl);exact zAs (zAV (vs:=[(.agg (R6 x au ax ap aq)),(I6 c)]) func60 zTh zTx (zHG c3 cp)) ((ih x _ S _ qO bk (zAe.ext (Ext.trans E (X0.trans X)) x a3) (fun y hy=>by have:=hS y hy;have:=E.size;have:=X0.size;have:=X.size;omega)).mono (fun r w h=>⟨zBk (S':=fun b=>S b∨w'.heap.size≤b) (fun b hb=>by rcases hb with h1|h1;exact a4 b (by have:=hS b h1;have:=E.size;omega) (.inl h1);exact aw b (by have:=X.size;omega)) (by rw[hD];exact h.1),h.2⟩))
    refine DagStepsP.cons (fun s' w' X U H=>Or.inl ⟨?_,?_⟩) ?_
    · exact zAD rfl
    · exact zAJ (zAG (vs:=[(I6 R.kind),(.slice xa R.set.length xc),(.slice ya R.args.length yc),(I6 R.mn),(I6 R.mx),(.bool R.neg)]) (U 5 rfl) zAc zAO rfl (((X0.trans X).keep Bq).cells rfl)) (Ext.refl _) rfl
    refine DagStepsP.cons (fun s' w' X U H=>Or.inl ⟨?_,?_⟩) ?_
    · exact zAD rfl
    · obtain ⟨cl,dn,c8,ce,dj,dk⟩:=H 5 rfl 32 (.gen (reG RR D) (zBF _ _)) rfl (by rw[ad];rfl);have cg:s' 33=(.agg #[(.int .i64 R.kind),(.slice xa R.set.length xc),(.slice ya R.args.length yc),(.int .i64 R.mn),(.int .i64 R.mx),(.bool R.neg)]):=H 6 rfl 33 (.eq (.agg #[(.int .i64 R.kind),(.slice xa R.set.length xc),(.slice ya R.args.length yc),(.int .i64 R.mn),(.int .i64 R.mx),(.bool R.neg)])) rfl (by rw[ad];rfl);exact zEQ dj cg dk (zAe.mono (S:=fun b=>(S b∨n1≤b)∧b<bz) (fun y hy=>a4 y (by have:=hy.2;have:=E2.size;omega) hy.1) R (zAe.ext (X0.trans X) R aj)) (fun b hb=>aw b (by have:=X.size;omega))
    refine DagStepsP.cons (fun s' w' X U H=>Or.inl ⟨?_,?_⟩) ?_
    · exact zAD rfl
    · obtain ⟨c1,ck,dd⟩:=H 7 rfl 34 (.gen (rsG RR [D,R]) (zCa _ _)) rfl (by rw[ad];rfl);exact zAs (zAV (vs:=[(.slice (some ⟨c1,0,none⟩) 2 2)]) func118 zQQ zRZ (zOj ck)) ((zLj _ (fun b=>RR b∧b<w'.heap.size) _ [D,R] (zCU.lt dd) (fun y hy=>hy.2) (fun y hm hk=>by rcases List.mem_cons.1 hm with rfl|hm;exact (zCA b4).1 (.inl hk);simp at hm;subst hm;exact (zCA a0).1 (.inl hk)) (by simp only[Re.sizes];omega)).mono (fun r w h=>⟨zBk (S':=fun b=>(RR b∧b<w'.heap.size)∨w'.heap.size≤b) (fun b hb=>by rcases hb with h1|h1;exact h1.1;exact aw b (by have:=X.size;omega)) (by rw[hF];exact h.1),h.2⟩))
    refine DagStepsP.cons (fun s' w' X U H=>Or.inl ⟨?_,?_⟩) ?_
    · exact zAD rfl
    · exact zEk (c:=#[(I6 0),(.slice none 0 0),(.slice none 0 0),(I6 0),(I6 0),(.bool false)]) zAu rfl (by have:=X0.size;have:=X.size;omega)
    refine DagStepsP.tail ?_;exact DagStepsP.nil
  · intro s' w3 RR β X3 U a7 hβ H;obtain ⟨af,ae,ag,ah,cq,am⟩:=H 8 rfl 35 (.gen (reG RR F) (zBF _ _)) rfl (by rw[ad];rfl);obtain ⟨b6,e6,B6,g6⟩:=H 9 rfl 6 (.gen (alF 25 #[(.int .i64 0),(.slice none 0 0),(.slice none 0 0),(.int .i64 0),(.int .i64 0),(.bool false)] wq.heap.size) (zET _ _ _)) rfl (by rw[ad];rfl);have b8:β=b6:=by have h9:=e6.symm.trans hβ;simpa using h9.symm
    rw[b8] at a7;clear hβ b8 β;obtain ⟨j3,rfl⟩:=zBA.out (σ:=s') (l:=[(1,(.int .i64 c)),(2,(.pointer (some ⟨br,0,none⟩))),(4,(.pointer (some ⟨bo,0,none⟩))),(5,(.pointer (some ⟨bq,0,none⟩))),(35,(.agg #[(.int .i64 F.kind),(.slice af F.set.length ae),(.slice ag F.args.length ah),(.int .i64 F.mn),(.int .i64 F.mx),(.bool F.neg)])),(6,(.pointer (some ⟨b6,0,none⟩)))]) ⟨U 1 rfl,U 2 rfl,U 4 rfl,U 5 rfl,cq,e6,trivial⟩;clear U H;replace Br:=X3.keep Br;replace Bo:=X3.keep Bo;replace Bq:=X3.keep Bq;replace aj:=zAe.ext X3 _ aj;replace E:=E.ext X3;replace E1:=E1.ext X3;replace E2:=E2.ext X3;refine zAY (b:=b6) (o:=0) (c':=(R6 F af ae ag ah)) rfl rfl qS zAO rfl B6 qL rfl ?_;intro w4 S4;replace aj:=zAe.chg S4.chg (fun y hy h=>by have h2:y=b6:=h;have:=hy.2;omega) _ aj;replace am:=zAe.chg S4.chg (fun y hy h=>by have h2:y=b6:=h;have:=(a7 y hy).2;omega) _ am;replace Br:=S4.keep qO Br;replace Bo:=S4.keep qO Bo;replace Bq:=S4.keep qO Bq;replace E:=S4.step E qQ;replace E1:=S4.step E1 (Or.inl qO);replace E2:=S4.step E2 (Or.inl qO);replace B6:=S4.blk;refine zAB (zAC (zAK (zAA (qF br 0 2 rfl underlying25 rfl zBS rfl (qV (zAL (v:=(.slice (some ⟨ab,ao,none⟩) t.args.length ac)) rfl zBE (Br.cell rfl)) (qV (zAH (b:=ab) (o:=ao) (len:=t.args.length) (cap:=ac) (i:=0) (o':=ao+0*6) rfl rfl rfl underlying23 zAO qO qO) (qV (zAG (vs:=[(I6 x.kind),(.slice au x.set.length ax),(.slice ap x.args.length aq),(I6 x.mn),(I6 x.mx),(.bool x.neg)]) rfl zAc zAO rfl (b1.ext E)) (qE rfl (zAV (vs:=[(.agg (R6 x au ax ap aq))]) func63 zXh zXm rfl) (zQx 300 x _ _ qO qO (zAe.at x (zAe.ext E x a3))) ?_))))))));rintro _ a5 ⟨rfl,ak⟩;replace Br:=ak.keep Br;replace Bo:=ak.keep Bo;replace Bq:=ak.keep Bq;replace B6:=ak.keep B6;replace aj:=zAe.ext ak _ aj;replace am:=zAe.ext ak _ am;replace E:=E.ext ak;replace E1:=E1.ext ak;replace E2:=E2.ext ak;refine qV (zCf (b:=zBW x) rfl) (zAB (zAt (b:=!(zBW x)) rfl (fun he=>?_) (fun he=>?_)))
    · have cx:=he;replace he:=by simpa using he
      refine zAA (qV (zAG (vs:=[(I6 F.kind),(.slice af F.set.length ae),(.slice ag F.args.length ah),(I6 F.mn),(I6 F.mx),(.bool F.neg)]) rfl zAc zAO rfl (B6.cells rfl)) (zAY (b:=bo) (o:=0) (c':=(R6 F af ae ag ah)) rfl rfl qS zAO rfl Bo qL rfl ?_));intro w6 S6;replace am:=zAe.chg S6.chg (fun y hy h=>by have h2:y=bo:=h;rcases (a7 y hy).1 with h1|h1;have:=hS y h1;omega;omega) _ am;replace Br:=S6.keep qO Br;replace Bq:=S6.keep qO Bq;replace B6:=S6.keep qO B6;replace E:=S6.step E qQ;replace Bo:=S6.blk;refine zAB (zAR (zAI (zAZ (zAI (zAr results60 (vs:=[(.int .i64 F.kind),(.slice af F.set.length ae),(.slice ag F.args.length ah),(.int .i64 F.mn),(.int .i64 F.mx),(.bool F.neg)]) (b:=bo) rfl zAc zAO rfl (Bo.cells rfl) ?_)))));exact ⟨⟨_,rfl,by rw[if_neg (by simpa using he)];exact zAe.mono (fun y hy=>by rcases (a7 y hy).1 with h1|h1;exact .inl h1;exact .inr qO) _ am⟩,E⟩
    · have cx:=he;replace he:=by simpa using he
      refine zAP (zAC ?_);have c5:w0.heap.size≤a5.heap.size:=E.size;have bg:br<a5.heap.size:=Br.lt;have bd:bo<a5.heap.size:=Bo.lt;have ba:bq<a5.heap.size:=Bq.lt;have bi:b6<a5.heap.size:=B6.lt;refine zAK ?_;obtain ⟨cm,ai⟩:∃Fs:List Fact,Fs=[.eq (.agg (R6 F af ae ag ah)),.eq (.agg (R6 R xa xc ya yc)),.eq (I6 c),.gen (reG (fun b=>S b∨n1≤b) G) (zBF _ _),.gen (rsG (fun b=>S b∨n1≤b) [F,G]) (zCa _ _),.gen (reG (fun b=>S b∨n1≤b) (.mk 4 [] [F,G] 0 0 false)) (zBF _ _),.gen (reG (fun b=>S b∨n1≤b) N) (zBF _ _),.eq undef]:=⟨_,rfl⟩;refine zEU [true,true,true,true,true,true,true,false] [7] [43,44,45,46,47,48,49,117] [[],[],[],[1,2],[0,3],[4],[3,5],[]] cm ai mixed qK qK qK qK ?_ ?_
      · intro wd X0;refine DagStepsP.cons (fun s' w' X U H=>Or.inl ⟨?_,?_⟩) ?_
        · exact zAD rfl
        · exact zAJ (zAG (vs:=[(I6 F.kind),(.slice af F.set.length ae),(.slice ag F.args.length ah),(I6 F.mn),(I6 F.mx),(.bool F.neg)]) (U 6 rfl) zAc zAO rfl (((X0.trans X).keep B6).cells rfl)) (Ext.refl _) rfl
        refine DagStepsP.cons (fun s' w' X U H=>Or.inl ⟨?_,?_⟩) ?_
        · exact zAD rfl
        · exact zAJ (zAG (vs:=[(I6 R.kind),(.slice xa R.set.length xc),(.slice ya R.args.length yc),(I6 R.mn),(I6 R.mx),(.bool R.neg)]) (U 5 rfl) zAc zAO rfl (((X0.trans X).keep Bq).cells rfl)) (Ext.refl _) rfl
        refine DagStepsP.cons (fun s' w' X U H=>Or.inl ⟨?_,?_⟩) ?_
        · exact zAD rfl
        · exact zAJ (zAi (v:=(I6 c)) (U 1 rfl)) (Ext.refl _) rfl
        refine DagStepsP.cons (fun s' w' X U H=>Or.inl ⟨?_,?_⟩) ?_
        · exact zAD rfl
        · have c6:s' 44=(.agg #[(.int .i64 R.kind),(.slice xa R.set.length xc),(.slice ya R.args.length yc),(.int .i64 R.mn),(.int .i64 R.mx),(.bool R.neg)]):=H 1 rfl 44 (.eq (.agg #[(.int .i64 R.kind),(.slice xa R.set.length xc),(.slice ya R.args.length yc),(.int .i64 R.mn),(.int .i64 R.mx),(.bool R.neg)])) rfl (by rw[ai];rfl);have dc:s' 45=(.int .i64 c):=H 2 rfl 45 (.eq (.int .i64 c)) rfl (by rw[ai];rfl);exact zAs (zAV (vs:=[(.agg (R6 R xa xc ya yc)),(I6 c)]) func60 zTh zTx (zHG c6 dc)) ((ih R _ (fun b=>(S b∨n1≤b)∧b<bz) _ qO a0 (zAe.ext (X0.trans X) R aj) (fun y hy=>by have:=hy.2;have:=X0.size;have:=X.size;omega)).mono (fun r w h=>⟨zBk (S':=fun b=>((S b∨n1≤b)∧b<bz)∨w'.heap.size≤b) (fun b hb=>by rcases hb with h1|h1;exact h1.1;exact .inr (by have:=X0.size;have:=X.size;omega)) (by rw[hG];exact h.1),h.2⟩))
        refine DagStepsP.cons (fun s' w' X U H=>Or.inl ⟨?_,?_⟩) ?_
        · exact zAD rfl
        · have cd:s' 43=(.agg #[(.int .i64 F.kind),(.slice af F.set.length ae),(.slice ag F.args.length ah),(.int .i64 F.mn),(.int .i64 F.mx),(.bool F.neg)]):=H 0 rfl 43 (.eq (.agg #[(.int .i64 F.kind),(.slice af F.set.length ae),(.slice ag F.args.length ah),(.int .i64 F.mn),(.int .i64 F.mx),(.bool F.neg)])) rfl (by rw[ai];rfl);obtain ⟨dh,c7,b9,dq,dg,db⟩:=H 3 rfl 46 (.gen (reG (fun b=>S b∨n1≤b) G) (zBF _ _)) rfl (by rw[ai];rfl);exact zEQ cd dg (zAe.mono (fun y hy=>(a7 y hy).1) F (zAe.ext (X0.trans X) F am)) db (fun b hb=>.inr (by have:=X0.size;have:=X.size;omega))
        refine DagStepsP.cons (fun s' w' X U H=>Or.inl ⟨?_,?_⟩) ?_
        · exact zAD rfl
        · obtain ⟨b47,dp,co⟩:=H 4 rfl 47 (.gen (rsG (fun b=>S b∨n1≤b) [F,G]) (zCa _ _)) rfl (by rw[ai];rfl);exact zPH dp co rfl
        refine DagStepsP.cons (fun s' w' X U H=>Or.inl ⟨?_,?_⟩) ?_
        · exact zAD rfl
        · obtain ⟨bv,bx,bn,bu,dm,cv⟩:=H 5 rfl 48 (.gen (reG (fun b=>S b∨n1≤b) (.mk 4 [] [F,G] 0 0 false)) (zBF _ _)) rfl (by rw[ai];rfl);exact zAs (zAV (vs:=[(.agg #[(I6 4),(.slice bv 0 bx),(.slice bn 2 bu),(I6 0),(I6 0),(.bool false)])]) func115 zSS zTN (zOj dm)) ((zKX _ (fun b=>(S b∨n1≤b)∧b<w'.heap.size) (.mk 4 [] [F,G] 0 0 false) _ (zAe.lt _ cv) (fun y hy=>hy.2) (pre4 _) (fun y hy=>by simp only[Re.args,List.mem_cons,List.not_mem_nil,or_false] at hy;rcases hy with rfl|rfl;exact di;exact cn) (by simp only[Re.args,Re.sizes];omega)).mono (fun r w h=>⟨zBk (S':=fun b=>((S b∨n1≤b)∧b<w'.heap.size)∨w'.heap.size≤b) (fun b hb=>by rcases hb with h1|h1;exact h1.1;exact .inr (by have:=X0.size;have:=X.size;omega)) (by rw[hN];exact h.1),h.2⟩))
        refine DagStepsP.tail ?_;exact DagStepsP.nil
      · intro s' w7 X7 U H;obtain ⟨an,ar,av,ay,cs,bs⟩:=H 6 rfl 49 (.gen (reG (fun b=>S b∨n1≤b) N) (zBF _ _)) rfl (by rw[ai];rfl);obtain ⟨j7,rfl⟩:=zBA.out (σ:=s') (l:=[(4,(.pointer (some ⟨bo,0,none⟩))),(49,(.agg #[(.int .i64 N.kind),(.slice an N.set.length ar),(.slice av N.args.length ay),(.int .i64 N.mn),(.int .i64 N.mx),(.bool N.neg)]))]) ⟨U 4 rfl,cs,trivial⟩;clear U H;replace Br:=X7.keep Br;replace Bo:=X7.keep Bo;replace Bq:=X7.keep Bq;replace B6:=X7.keep B6;replace E:=E.ext X7;refine zAY (b:=bo) (o:=0) (c':=(R6 N an ar av ay)) rfl rfl qS zAO rfl Bo qL rfl ?_;intro w8 S8;replace bs:=zAe.chg S8.chg (fun y hy h=>by have h2:y=bo:=h;rcases hy with h1|h1;have:=hS y h1;omega;omega) _ bs;replace Br:=S8.keep qO Br;replace Bq:=S8.keep qO Bq;replace B6:=S8.keep qO B6;replace E:=S8.step E qQ;replace Bo:=S8.blk;refine zAB (zAC (zAR (zAZ (zAI (zAr results60 (vs:=[(.int .i64 N.kind),(.slice an N.set.length ar),(.slice av N.args.length ay),(.int .i64 N.mn),(.int .i64 N.mx),(.bool N.neg)]) (b:=bo) rfl zAc zAO rfl (Bo.cells rfl) ?_)))));exact ⟨⟨_,rfl,by rw[if_pos (by simpa using he)];exact zAe.mono (fun y hy=>by rcases hy with h1|h1;exact .inl h1;exact .inr qO) _ bs⟩,E⟩
end Go.Proofs
namespace Go.Proofs
open Go Go.Eng Go.Sort
set_option maxRecDepth 100000
theorem pre6 {m x:Int} (y:Re) (h:0≤m∧m≤x∧x≤8):PreN 6 [] [y] m x false:=⟨qO,rfl,fun _=>rfl,qO,qO,qO,fun _=>rfl,fun _=>h⟩
theorem zUI (c:Int) (n:Nat) (ih:zGI c n) (t:Re) (hn:t.size≤n) (h300:t.size≤300) (hok:zAz t) (hk:t.kind=6) (w0:World) (S:Nat→Prop) (vs:List Value) (ht:zAe S w0 t vs) (hS:∀x,S x→x<w0.heap.size) :
  Ret prog 60 #[.agg vs.toArray,.int .i64 c] w0 fun r w=>(∃us,r=.agg us.toArray∧zAe (fun b=>S b∨w0.heap.size≤b) w (zBK c t) us)∧Ext w0 w:=by
 have cp:=ht;obtain ⟨sa,sc,aa,ac,rfl,c6,co,a3⟩:=ht.form;have hRs:zCU S w0 (.slice aa t.args.length ac) t.args:=zFx cp;have hal:=zCB t;have bc:=t.size_eq;obtain ⟨x,a5,cs,cb,hm1,hm2,hm3,hm4,hm5⟩:=hok.n.k6 hk;have ax:zAz x:=hok.a x (by rw[a5];simp);have hx:t.args[0]?=some x:=by rw[a5];rfl
 have b7:t.args.length=1:=by rw[a5];rfl
 have hxz:=Re.size_arg hx;obtain ⟨ab,ao,hab,rfl,bq⟩:=a3.resolve_left (fun h=>by rw[h] at hx;cases hx);obtain ⟨us,bu,bt⟩:=bq.get hx;have az:=bt;obtain ⟨av,aw,aq,au,rfl,_,_,_⟩:=bt.form;obtain ⟨m1,bz⟩:∃m1,m1=max 0 (t.mn - 1):=⟨_,rfl⟩;obtain ⟨x1,bx⟩:∃x1,x1=t.mx - 1:=⟨_,rfl⟩;obtain ⟨R,hR⟩:∃R,R=zDN (.mk 6 [] [x] m1 x1 false):=⟨_,rfl⟩;have bw:PreN 6 [] [x] m1 x1 false:=pre6 x qO;have b9:zAz R:=by rw[hR];exact zHE bw (by intro z hz;simp at hz;subst hz;exact ax)
 have hRz:R.size≤400:=by
  have h4:=zEe (k:=6) (s:=[]) (a:=[x]) (m:=m1) (x:=x1) (g:=false) qO qO;rw[hR,zEK];simp only[Re.sizes] at h4;simp only[Re.kind,Re.set,Re.args,Re.mn,Re.mx,Re.neg];omega
 obtain ⟨D,hD⟩:∃D,D=zBK c x:=⟨_,rfl⟩;obtain ⟨F,hF⟩:∃F,F=zEz [D,R]:=⟨_,rfl⟩;have cv:zAz D:=by rw[hD];exact zDZ c ax
 have hDz:D.size≤200000:=by rw[hD];exact zCu ax qO
 have bv:zBK c t=F:=by rw[hF,hD,hR,bz,bx];exact st6 hk a5
 rw[bv];clear bv bc;refine qR func60 rfl ntmps60 rfl (fun E=>(zAA (zBL (v:=(.agg (R6 t sa sc (some ⟨ab,ao,none⟩) ac))) (c:=(R6 t sa sc (some ⟨ab,ao,none⟩) ac)) qD rfl rfl ?_)));intro br wr Nr;have Fr:=Nr.ge E;replace E:=E.ext Nr.ext;have Br:=Nr.blk;refine zBJ (c:=#[(I6 0),(.slice none 0 0),(.slice none 0 0),(I6 0),(I6 0),(.bool false)]) qD zAu rfl ?_;intro bo wo No;have Fo:=No.ge E;have Oo_br:=No.lt Br;replace Br:=No.keep Br;replace E:=E.ext No.ext;have Bo:=No.blk;refine zAB (zAK (zAA (qF br 0 0 rfl underlying25 rfl zAv rfl (qV (zAL rfl zAf (Br.cell rfl)) (zAB (zAT (zAA (qV (zAk rfl rfl) (qA _ rfl (zAB ?_))))))))));obtain ⟨n1,bh⟩:∃n1,n1=wo.heap.size:=⟨_,rfl⟩;have hob:br<n1∧bo<n1∧w0.heap.size≤bo∧w0.heap.size≤n1:=⟨by rw[bh];exact Br.lt,by rw[bh];exact Bo.lt,qO,by rw[bh];exact E.size⟩;have c2:n1≤wo.heap.size:=qO
 have cl:(decide ((t.kind:Int)=2))=false:=decide_eq_false qO;refine zAb (cbk cl) (zAA (qV (zAk rfl rfl) (qA _ rfl (zAB ?_))));have cd:(decide ((t.kind:Int)=3))=false:=decide_eq_false qO;refine zAb (cbk cd) (zAK (zAA (qV (zAk rfl rfl) (qA _ rfl (zAB ?_)))));have c1:(decide ((t.kind:Int)=4))=false:=decide_eq_false qO;refine zAb (cbk c1) (zAA (qV (zAk rfl rfl) (qA _ rfl (zAB ?_))));have ct:(decide ((t.kind:Int)=7))=false:=decide_eq_false qO;refine zAb (cbk ct) (zAN (qV (zAk rfl rfl) (qA _ rfl (zAB (zAC ?_)))));have cj:(decide ((t.kind:Int)=8))=false:=decide_eq_false qO;refine zAb (cbk cj) (zAA (qV (zAk rfl rfl) (qA _ rfl (zAB ?_))));have cg:(decide ((t.kind:Int)=5))=false:=decide_eq_false qO;refine zAb (cbk cg) (zAA (qV (zAk rfl rfl) (qA _ rfl (zAB ?_))));have cu:(decide ((t.kind:Int)=6))=true:=decide_eq_true hk;refine zAl (cbk cu) ?_;have cm:w0.heap.size≤wo.heap.size:=E.size;have a6:br<wo.heap.size:=Br.lt;have a7:bo<wo.heap.size:=Bo.lt;refine zAK ?_;obtain ⟨ci,ad⟩:∃Fs:(Nat→Prop)→List Fact,Fs=fun RR=>[.eq (P6 br 2),.eq (.slice (some ⟨ab,ao,none⟩) t.args.length ac),.eq (.pointer (some ⟨ab,ao+0*6,none⟩)),.eq (.agg (R6 x av aw aq au)),.gen (rsG RR [x]) (zCa _ _),.eq (P6 br 3),.eq (I6 t.mn),.eq (I6 (t.mn - 1)),.eq (I6 m1),.eq (P6 br 4),.eq (I6 t.mx),.eq (I6 (t.mx - 1)),.gen (reG RR (.mk 6 [] [x] m1 x1 false)) (zBF _ _),.gen (reG RR R) (zBF _ _),.gen (alF 25 #[(I6 0),(.slice none 0 0),(.slice none 0 0),(I6 0),(I6 0),(.bool false)] wo.heap.size) (zET _ _ _),.eq undef]:=⟨_,rfl⟩;refine zIr [true,true,true,true,true,true,true,true,true,true,true,true,true,true,true,false] [15] 16 15 [] [86,87,88,89,90,91,92,93,94,95,96,97,98,99,10,125] [[],[0],[1],[2],[3],[],[5],[6],[7],[],[9],[10],[4,8,11],[12],[],[]] ci ad (fun b=>S b∨n1≤b) (fun y hy=>.inr qO) 14 10 (lo:=wo.heap.size) (Nat.le_refl _) rfl rfl (zUC.mk' zAu rfl) (fun RR=>⟨_,by rw[ad];rfl⟩) (fun n=>by rw[ad];repeat (first|exact Cvs.nil|refine Cvs.same ?_|refine Cvs.cons (fun v w e h=>by first|exact zLF e h|exact zLD e h|exact zHy e h) ?_)) mixed qK qK rfl qK qK qK ?_ ?_ (fun h9=>absurd h9 qD)
 ·intro wd X0 RR bg a2;refine DagStepsP.cons (fun s' w' X U H=>Or.inl ⟨?_,?_⟩) ?_
  ·exact zAD rfl
  ·exact zAJ (zAQ (U 2 rfl) underlying25 rfl zBS rfl) (Ext.refl _) rfl
  refine DagStepsP.cons (fun s' w' X U H=>Or.inl ⟨?_,?_⟩) ?_
  ·exact zAD rfl
  ·have ck:s' 86=(.pointer (some ⟨br,2,none⟩)):=H 0 rfl 86 (.eq (.pointer (some ⟨br,2,none⟩))) rfl (by rw[ad];rfl);exact zAJ (zAL ck zBE (((X0.trans X).keep Br).cell rfl)) (Ext.refl _) rfl
  refine DagStepsP.cons (fun s' w' X U H=>Or.inl ⟨?_,?_⟩) ?_
  ·exact zAD rfl
  ·have b8:s' 87=(.slice (some ⟨ab,ao,none⟩) t.args.length ac):=H 1 rfl 87 (.eq (.slice (some ⟨ab,ao,none⟩) t.args.length ac)) rfl (by rw[ad];rfl);exact zAJ (zAH (i:=0) b8 rfl rfl underlying23 zAO qO qO) (Ext.refl _) rfl
  refine DagStepsP.cons (fun s' w' X U H=>Or.inl ⟨?_,?_⟩) ?_
  ·exact zAD rfl
  ·have c4:s' 88=(.pointer (some ⟨ab,ao+0*6,none⟩)):=H 2 rfl 88 (.eq (.pointer (some ⟨ab,ao+0*6,none⟩))) rfl (by rw[ad];rfl);exact zAJ (zAG c4 zAc zAO rfl (bu.ext (Ext.trans E (X0.trans X)))) (Ext.refl _) rfl
  refine DagStepsP.cons (fun s' w' X U H=>Or.inl ⟨?_,?_⟩) ?_
  ·exact zAD rfl
  ·have cn:s' 89=(.agg #[(.int .i64 x.kind),(.slice av x.set.length aw),(.slice aq x.args.length au),(.int .i64 x.mn),(.int .i64 x.mx),(.bool x.neg)]):=H 3 rfl 89 (.eq (.agg #[(.int .i64 x.kind),(.slice av x.set.length aw),(.slice aq x.args.length au),(.int .i64 x.mn),(.int .i64 x.mx),(.bool x.neg)])) rfl (by rw[ad];rfl);exact zRe cn (zAe.mono (fun y hy=>bg y (by have:=hS y hy;have:=E.size;omega) (.inl hy)) x (zAe.ext (Ext.trans E (X0.trans X)) x az)) (fun b hb=>a2 b (by have:=X.size;omega))
  refine DagStepsP.cons (fun s' w' X U H=>Or.inl ⟨?_,?_⟩) ?_
  ·exact zAD rfl
  ·exact zAJ (zAQ (U 2 rfl) underlying25 rfl zAv rfl) (Ext.refl _) rfl
  refine DagStepsP.cons (fun s' w' X U H=>Or.inl ⟨?_,?_⟩) ?_
  ·exact zAD rfl
  ·have c9:s' 91=(.pointer (some ⟨br,3,none⟩)):=H 5 rfl 91 (.eq (.pointer (some ⟨br,3,none⟩))) rfl (by rw[ad];rfl);exact zAJ (zAL c9 zAf (((X0.trans X).keep Br).cell rfl)) (Ext.refl _) rfl
  refine DagStepsP.cons (fun s' w' X U H=>Or.inl ⟨?_,?_⟩) ?_
  ·exact zAD rfl
  ·have cz:s' 92=(.int .i64 t.mn):=H 6 rfl 92 (.eq (.int .i64 t.mn)) rfl (by rw[ad];rfl);exact zAJ (zDS cz rfl (zBV qO)) (Ext.refl _) rfl
  refine DagStepsP.cons (fun s' w' X U H=>Or.inl ⟨?_,?_⟩) ?_
  ·exact zAD rfl
  ·have cr:s' 93=(.int .i64 (t.mn - 1)):=H 7 rfl 93 (.eq (.int .i64 (t.mn - 1))) rfl (by rw[ad];rfl);exact zAJ (zPz (c:=m1) rfl cr bz.symm) (Ext.refl _) rfl
  refine DagStepsP.cons (fun s' w' X U H=>Or.inl ⟨?_,?_⟩) ?_
  ·exact zAD rfl
  ·exact zAJ (zAQ (U 2 rfl) underlying25 rfl zAv rfl) (Ext.refl _) rfl
  refine DagStepsP.cons (fun s' w' X U H=>Or.inl ⟨?_,?_⟩) ?_
  ·exact zAD rfl
  ·have cc:s' 95=(.pointer (some ⟨br,4,none⟩)):=H 9 rfl 95 (.eq (.pointer (some ⟨br,4,none⟩))) rfl (by rw[ad];rfl);exact zAJ (zAL cc zAf (((X0.trans X).keep Br).cell rfl)) (Ext.refl _) rfl
  refine DagStepsP.cons (fun s' w' X U H=>Or.inl ⟨?_,?_⟩) ?_
  ·exact zAD rfl
  ·have c0:s' 96=(.int .i64 t.mx):=H 10 rfl 96 (.eq (.int .i64 t.mx)) rfl (by rw[ad];rfl);exact zAJ (zDS c0 rfl (zBV qO)) (Ext.refl _) rfl
  refine DagStepsP.cons (fun s' w' X U H=>Or.inl ⟨?_,?_⟩) ?_
  ·exact zAD rfl
  ·obtain ⟨b90,c8,c3⟩:=H 4 rfl 90 (.gen (rsG RR [x]) (zCa _ _)) rfl (by rw[ad];rfl);have c7:s' 94=(.int .i64 m1):=H 8 rfl 94 (.eq (.int .i64 m1)) rfl (by rw[ad];rfl);have cf:s' 97=(.int .i64 (t.mx - 1)):=H 11 rfl 97 (.eq (.int .i64 (t.mx - 1))) rfl (by rw[ad];rfl);exact zPG c8 c7 (cf.trans (by rw[bx])) c3 rfl
  refine DagStepsP.cons (fun s' w' X U H=>Or.inl ⟨?_,?_⟩) ?_
  ·exact zAD rfl
  ·obtain ⟨cq,ce,cx,cw,ch,c5⟩:=H 12 rfl 98 (.gen (reG RR (.mk 6 [] [x] m1 x1 false)) (zBF _ _)) rfl (by rw[ad];rfl);exact zAs (zAV func115 zSS zTN (zOj ch)) ((zKX _ (fun b=>RR b∧b<w'.heap.size) (.mk 6 [] [x] m1 x1 false) _ (zAe.lt _ c5) (fun y hy=>hy.2) bw (fun y hy=>by simp only[Re.args,List.mem_cons,List.not_mem_nil,or_false] at hy;subst hy;exact ax) (by simp only[Re.args,Re.sizes];omega)).mono (fun r w h=>⟨zBk (S':=fun b=>(RR b∧b<w'.heap.size)∨w'.heap.size≤b) (fun b hb=>by rcases hb with h1|h1;exact h1.1;exact a2 b (by have:=X.size;omega)) (by rw[hR];exact h.1),h.2⟩))
  refine DagStepsP.cons (fun s' w' X U H=>Or.inl ⟨?_,?_⟩) ?_
  ·exact zAD rfl
  ·exact zEk (c:=#[(I6 0),(.slice none 0 0),(.slice none 0 0),(I6 0),(I6 0),(.bool false)]) zAu rfl (by have:=X0.size;have:=X.size;omega)
  refine DagStepsP.tail ?_;exact DagStepsP.nil
 ·intro s' w8 RR β X8 U bm hβ H;obtain ⟨ak,aj,ag,af,ca,bp⟩:=H 13 rfl 99 (.gen (reG RR R) (zBF _ _)) rfl (by rw[ad];rfl);obtain ⟨a1,b1,an,g10⟩:=H 14 rfl 10 (.gen (alF 25 #[(.int .i64 0),(.slice none 0 0),(.slice none 0 0),(.int .i64 0),(.int .i64 0),(.bool false)] wo.heap.size) (zET _ _ _)) rfl (by rw[ad];rfl);have b6:β=a1:=by have h9:=b1.symm.trans hβ;simpa using h9.symm
  rw[b6] at bm;clear hβ b6 β;obtain ⟨j8,rfl⟩:=zBA.out (σ:=s') (l:=[(1,(.int .i64 c)),(2,(.pointer (some ⟨br,0,none⟩))),(4,(.pointer (some ⟨bo,0,none⟩))),(99,(.agg #[(.int .i64 R.kind),(.slice ak R.set.length aj),(.slice ag R.args.length af),(.int .i64 R.mn),(.int .i64 R.mx),(.bool R.neg)])),(10,(.pointer (some ⟨a1,0,none⟩)))]) ⟨U 1 rfl,U 2 rfl,U 4 rfl,ca,b1,trivial⟩;clear U H;replace Br:=X8.keep Br;replace Bo:=X8.keep Bo;replace E:=E.ext X8;refine zAY (b:=a1) (o:=0) (c':=(R6 R ak aj ag af)) rfl rfl qS zAO rfl an qL rfl ?_;intro w9 S9;replace bp:=zAe.chg S9.chg (fun y hy h=>by have h2:y=a1:=h;have:=(bm y hy).2;omega) _ bp;replace Br:=S9.keep qO Br;replace Bo:=S9.keep qO Bo;replace E:=S9.step E qQ;replace an:=S9.blk;refine zAB (zAC ?_);have b2:w0.heap.size≤w9.heap.size:=E.size;have ay:br<w9.heap.size:=Br.lt;have a0:bo<w9.heap.size:=Bo.lt;have ar:a1<w9.heap.size:=an.lt;refine zAK ?_;obtain ⟨bs,ae⟩:∃Fs:List Fact,Fs=[.eq (P6 br 2),.eq (.slice (some ⟨ab,ao,none⟩) t.args.length ac),.eq (.pointer (some ⟨ab,ao+0*6,none⟩)),.eq (.agg (R6 x av aw aq au)),.eq (I6 c),.gen (reG (fun b=>S b∨n1≤b) D) (zBF _ _),.eq (.agg (R6 R ak aj ag af)),.gen (rsG (fun b=>S b∨n1≤b) [D,R]) (zCa _ _),.gen (reG (fun b=>S b∨n1≤b) F) (zBF _ _),.eq undef]:=⟨_,rfl⟩;refine zEU [true,true,true,true,true,true,true,true,true,false] [9] [100,101,102,103,104,105,106,107,108,119] [[],[0],[1],[2],[],[3,4],[],[5,6],[5,7],[]] bs ae mixed qK qK qK qK ?_ ?_
  ·intro wd X0;refine DagStepsP.cons (fun s' w' X U H=>Or.inl ⟨?_,?_⟩) ?_
   ·exact zAD rfl
   ·exact zAJ (zAQ (U 2 rfl) underlying25 rfl zBS rfl) (Ext.refl _) rfl
   refine DagStepsP.cons (fun s' w' X U H=>Or.inl ⟨?_,?_⟩) ?_
   ·exact zAD rfl
   ·have bl:s' 100=(.pointer (some ⟨br,2,none⟩)):=H 0 rfl 100 (.eq (.pointer (some ⟨br,2,none⟩))) rfl (by rw[ae];rfl);exact zAJ (zAL bl zBE (((X0.trans X).keep Br).cell rfl)) (Ext.refl _) rfl
   refine DagStepsP.cons (fun s' w' X U H=>Or.inl ⟨?_,?_⟩) ?_
   ·exact zAD rfl
   ·have bk:s' 101=(.slice (some ⟨ab,ao,none⟩) t.args.length ac):=H 1 rfl 101 (.eq (.slice (some ⟨ab,ao,none⟩) t.args.length ac)) rfl (by rw[ae];rfl);exact zAJ (zAH (i:=0) bk rfl rfl underlying23 zAO qO qO) (Ext.refl _) rfl
   refine DagStepsP.cons (fun s' w' X U H=>Or.inl ⟨?_,?_⟩) ?_
   ·exact zAD rfl
   ·have bn:s' 102=(.pointer (some ⟨ab,ao+0*6,none⟩)):=H 2 rfl 102 (.eq (.pointer (some ⟨ab,ao+0*6,none⟩))) rfl (by rw[ae];rfl);exact zAJ (zAG bn zAc zAO rfl (bu.ext (Ext.trans E (X0.trans X)))) (Ext.refl _) rfl
   refine DagStepsP.cons (fun s' w' X U H=>Or.inl ⟨?_,?_⟩) ?_
   ·exact zAD rfl
   ·exact zAJ (zAi (U 1 rfl)) (Ext.refl _) rfl
   refine DagStepsP.cons (fun s' w' X U H=>Or.inl ⟨?_,?_⟩) ?_
   ·exact zAD rfl
   ·have bd:s' 103=(.agg #[(.int .i64 x.kind),(.slice av x.set.length aw),(.slice aq x.args.length au),(.int .i64 x.mn),(.int .i64 x.mx),(.bool x.neg)]):=H 3 rfl 103 (.eq (.agg #[(.int .i64 x.kind),(.slice av x.set.length aw),(.slice aq x.args.length au),(.int .i64 x.mn),(.int .i64 x.mx),(.bool x.neg)])) rfl (by rw[ae];rfl);have bb:s' 104=(.int .i64 c):=H 4 rfl 104 (.eq (.int .i64 c)) rfl (by rw[ae];rfl);exact zAs (zAV func60 zTh zTx (zHG bd bb)) ((ih x _ S _ qO ax (zAe.ext (Ext.trans E (X0.trans X)) x az) (fun y hy=>by have:=hS y hy;have:=E.size;have:=X0.size;have:=X.size;omega)).mono (fun r w h=>⟨zBk (S':=fun b=>S b∨w'.heap.size≤b) (fun b hb=>by rcases hb with h1|h1;exact .inl h1;exact .inr (by have:=E.size;have:=X0.size;have:=X.size;omega)) (by rw[hD];exact h.1),h.2⟩))
   refine DagStepsP.cons (fun s' w' X U H=>Or.inl ⟨?_,?_⟩) ?_
   ·exact zAD rfl
   ·exact zAJ (zAG (U 10 rfl) zAc zAO rfl (((X0.trans X).keep an).cells rfl)) (Ext.refl _) rfl
   refine DagStepsP.cons (fun s' w' X U H=>Or.inl ⟨?_,?_⟩) ?_
   ·exact zAD rfl
   ·obtain ⟨b3,b0,b4,b5,bi,bj⟩:=H 5 rfl 105 (.gen (reG (fun b=>S b∨n1≤b) D) (zBF _ _)) rfl (by rw[ae];rfl);have be:s' 106=(.agg #[(.int .i64 R.kind),(.slice ak R.set.length aj),(.slice ag R.args.length af),(.int .i64 R.mn),(.int .i64 R.mx),(.bool R.neg)]):=H 6 rfl 106 (.eq (.agg #[(.int .i64 R.kind),(.slice ak R.set.length aj),(.slice ag R.args.length af),(.int .i64 R.mn),(.int .i64 R.mx),(.bool R.neg)])) rfl (by rw[ae];rfl);exact zEQ bi be bj (zAe.mono (fun y hy=>(bm y hy).1) R (zAe.ext (X0.trans X) R bp)) (fun b hb=>.inr (by have:=E.size;have:=X0.size;have:=X.size;omega))
   refine DagStepsP.cons (fun s' w' X U H=>Or.inl ⟨?_,?_⟩) ?_
   ·exact zAD rfl
   ·obtain ⟨cy,bf,ba⟩:=H 7 rfl 107 (.gen (rsG (fun b=>S b∨n1≤b) [D,R]) (zCa _ _)) rfl (by rw[ae];rfl);exact zAs (zAV func118 zQQ zRZ (zOj bf)) ((zLj _ (fun b=>(S b∨n1≤b)∧b<w'.heap.size) _ [D,R] (zCU.lt ba) (fun y hy=>hy.2) (fun y hm hk=>by rcases List.mem_cons.1 hm with rfl|hm;exact (zCA cv).1 (.inl hk);simp at hm;subst hm;exact (zCA b9).1 (.inl hk)) (by simp only[Re.sizes];omega)).mono (fun r w h=>⟨zBk (S':=fun b=>((S b∨n1≤b)∧b<w'.heap.size)∨w'.heap.size≤b) (fun b hb=>by rcases hb with h1|h1;exact h1.1;exact .inr (by have:=E.size;have:=X0.size;have:=X.size;omega)) (by rw[hF];exact h.1),h.2⟩))
   refine DagStepsP.tail ?_;exact DagStepsP.nil
  ·intro s' w10 a8 U H;obtain ⟨ai,am,ah,al,a9,ap⟩:=H 8 rfl 108 (.gen (reG (fun b=>S b∨n1≤b) F) (zBF _ _)) rfl (by rw[ae];rfl);obtain ⟨j10,rfl⟩:=zBA.out (σ:=s') (l:=[(4,(.pointer (some ⟨bo,0,none⟩))),(108,(.agg #[(.int .i64 F.kind),(.slice ai F.set.length am),(.slice ah F.args.length al),(.int .i64 F.mn),(.int .i64 F.mx),(.bool F.neg)]))]) ⟨U 4 rfl,a9,trivial⟩;clear U H;replace Br:=a8.keep Br;replace Bo:=a8.keep Bo;replace an:=a8.keep an;replace E:=E.ext a8;refine zAY (b:=bo) (o:=0) (c':=(R6 F ai am ah al)) rfl rfl qS zAO rfl Bo qL rfl ?_;intro w11 a4;replace ap:=zAe.chg a4.chg (fun y hy h=>by have h2:y=bo:=h;rcases hy with h1|h1;have:=hS y h1;omega;omega) _ ap;replace Br:=a4.keep qO Br;replace an:=a4.keep qO an;replace E:=a4.step E qQ;replace Bo:=a4.blk;refine zAB (zAC (zAR (zAZ (zAI (zAr results60 (vs:=[(.int .i64 F.kind),(.slice ai F.set.length am),(.slice ah F.args.length al),(.int .i64 F.mn),(.int .i64 F.mx),(.bool F.neg)]) (b:=bo) rfl zAc zAO rfl (Bo.cells rfl) ?_)))));exact ⟨⟨_,rfl,zAe.mono (fun y hy=>by rcases hy with h1|h1;exact .inl h1;exact .inr qO) _ ap⟩,E⟩
end Go.Proofs
namespace Go.Proofs
open Go Go.Eng Go.Sort
set_option maxRecDepth 100000
theorem zWU {k:Int} {l m:List Re} (hk:k=4∨k=7∨k=8) (h8:k=8→l.length=1) (hl:m.length=l.length):PreN k [] m 0 0 false:=⟨qO,rfl,fun _=>rfl,fun _=>⟨rfl,rfl⟩,qO,qO,fun h=>by rw[hl];exact h8 qO,qO⟩
theorem zMK {c:Int} {ts:List Re} (h:∀x∈ts,zAz x) (hs:Re.sizes ts≤300):Re.sizes (ts.map (zBK c))≤200000:=by
 have h1:=zGx c 300 (zCv.2 h) hs;have h2:(300+6)*(2*Re.sizes ts)≤(300+6)*600:=Nat.mul_le_mul_left _ qO;rw[zJN] at h1;omega
theorem zUK (c:Int) (n:Nat) (ih:zGI c n) (t:Re) (hn:t.size≤n) (h300:t.size≤300) (hok:zAz t) (hk:t.kind=4∨t.kind=7∨t.kind=8) (w0:World) (S:Nat→Prop) (vs:List Value) (ht:zAe S w0 t vs) (hS:∀x,S x→x<w0.heap.size) :
  Ret prog 60 #[.agg vs.toArray,.int .i64 c] w0 fun r w=>(∃us,r=.agg us.toArray∧zAe (fun b=>S b∨w0.heap.size≤b) w (zBK c t) us)∧Ext w0 w:=by
 have ht0:=ht;obtain ⟨sa,sc,aa,ac,rfl,bn,ba,ah⟩:=ht.form;have hal:=zCB t;have bi:=t.size_eq;obtain ⟨N,hN⟩:∃N,N=zDN (.mk t.kind [] (t.args.map (zBK c)) 0 0 false):=⟨_,rfl⟩;have a7:zBK c t=N:=by rw[hN];exact zXu hk
 rw[a7];clear a7;have h8:t.kind=8→t.args.length=1:=fun h=>by obtain ⟨y,hy,_⟩:=hok.n.k8 h;rw[hy];rfl
 refine qR func60 rfl ntmps60 rfl (fun E=>(zAA (zBL (v:=(.agg (R6 t sa sc aa ac))) (c:=(R6 t sa sc aa ac)) qD rfl rfl ?_)));intro br wr Nr;have Fr:=Nr.ge E;replace E:=E.ext Nr.ext;have Br:=Nr.blk;refine zBJ (c:=#[(I6 0),(.slice none 0 0),(.slice none 0 0),(I6 0),(I6 0),(.bool false)]) qD zAu rfl ?_;intro bo wo No;have Fo:=No.ge E;have Oo_br:=No.lt Br;replace Br:=No.keep Br;replace E:=E.ext No.ext;have Bo:=No.blk;refine zAB (zAK (zAA (qF br 0 0 rfl underlying25 rfl zAv rfl (qV (zAL rfl zAf (Br.cell rfl)) (zAB (zAT (zAA (qV (zAk rfl rfl) (qA _ rfl (zAB ?_))))))))));obtain ⟨n1,an⟩:∃n1,n1=wo.heap.size:=⟨_,rfl⟩;have hob:br<n1∧bo<n1∧w0.heap.size≤bo∧w0.heap.size≤n1:=⟨by rw[an];exact Br.lt,by rw[an];exact Bo.lt,qO,by rw[an];exact E.size⟩;have ae:n1≤wo.heap.size:=qO
 have bq:(decide ((t.kind:Int)=2))=false:=decide_eq_false qO;refine zAb (cbk bq) (zAA (qV (zAk rfl rfl) (qA _ rfl (zAB ?_))));have bh:(decide ((t.kind:Int)=3))=false:=decide_eq_false qO;refine zAb (cbk bh) (zHi (fun σ W3=>∃(q:Bool),(∃jj_,σ=zCH jj_ [(1,(I6 c)),(2,(P6 br 0)),(4,(P6 bo 0)),(12,(I6 t.kind)),(50,(.bool q))])∧Chg zAo w0 W3∧Blk W3 br (R6 t sa sc aa ac) 25∧Blk W3 bo #[(I6 0),(.slice none 0 0),(.slice none 0 0),(I6 0),(I6 0),(.bool false)] 25∧(q=true)∧(n1≤W3.heap.size)) ?_ ?_)
 ·skip
  refine zAA (qV (zAk rfl rfl) (qA _ rfl (zAB (qC rfl (fun h4=>?_) (fun h4=>?_)))))
  ·refine zAP (zAC ?_);exact ⟨(decide ((t.kind:Int)=4)),zBA.out ⟨rfl,rfl,rfl,rfl,rfl,trivial⟩,E,Br,Bo,decide_eq_true h4,ae⟩
  ·refine zAA (qV (zAk rfl rfl) (qA _ rfl (zAB (qC rfl (fun h7=>?_) (fun h7=>?_)))))
   ·refine zAP (zAC ?_);exact ⟨(decide ((t.kind:Int)=7)),zBA.out ⟨rfl,rfl,rfl,rfl,rfl,trivial⟩,E,Br,Bo,decide_eq_true h7,ae⟩
   ·refine zAN (qV (zAk rfl rfl) (qA _ rfl (zAB (zAC ?_))));exact ⟨(decide ((t.kind:Int)=8)),zBA.out ⟨rfl,rfl,rfl,rfl,rfl,trivial⟩,E,Br,Bo,decide_eq_true qO,ae⟩
 ·clear E Br Bo;rintro _ W3 ⟨q,⟨j3,rfl⟩,E,Br,Bo,hq,ae⟩;have bj:(q)=true:=hq;refine zAl (cbk bj) (zAA (qA _ rfl (zAB (zAK (zAA (qF br 0 2 rfl underlying25 rfl zBS rfl (qV (zAL rfl zBE (Br.cell rfl)) (qV (zAM underlying23 rfl) (qM _ rfl (zAB (zAT (zAq (fun nn_ σ W7=>∃(i:Nat) (la:Option Addr) (lc:Nat) (ad:List (List Value)) (T:Nat→Prop),(∃jj_,σ=zCH jj_ [(1,(I6 c)),(2,(P6 br 0)),(4,(P6 bo 0)),(55,(.slice aa t.args.length ac)),(56,(I6 (t.args.length:Int))),(57,(I6 (i:Int))),(7,(.slice la i lc))])∧Chg zAo w0 W7∧Blk W7 br (R6 t sa sc aa ac) 25∧Blk W7 bo #[(I6 0),(.slice none 0 0),(.slice none 0 0),(I6 0),(I6 0),(.bool false)] 25∧(i≤t.args.length)∧(W7.ownsRow n1 TRe 6 (.slice la i lc) i ad.flatten)∧(zAm T W7 ((t.args.take i).map (zBK c)) ad)∧(n1≤W7.heap.size)∧(∀y,T y→(S y∨n1≤y)∧y<W7.heap.size)∧(∀b,(Value.slice la i lc).ownBlock=some b→¬T b)∧nn_=t.args.length - i) (n:=t.args.length - 0) ?_ ?_))))))))))))
  ·exact ⟨0,none,0,[],(fun _=>False),zBA.out ⟨rfl,rfl,rfl,rfl,rfl,rfl,rfl,trivial⟩,E,Br,Bo,Nat.zero_le _,World.ownsRow_nil _ _ _ _,rfl,ae,(fun y h=>h.elim),(fun b _ h=>h),rfl⟩
  ·clear E Br Bo;rintro _ _ W7 ⟨i,la,lc,ad,T,⟨j7,rfl⟩,E,Br,Bo,hi,hO,hR,af,hT,av,rfl⟩;refine zAA (qV (zBH rfl rfl) (zAB (zAK (qC rfl (fun bt=>?_) (fun bt=>?_)))))
   ·obtain ⟨x,hx⟩:=zAU (l:=t.args) (i:=i) qO;have bm:=hok.a x (List.mem_of_getElem? hx);have hxz:=Re.size_arg hx;obtain ⟨ab,ao,hab,rfl,a2⟩:=ah.resolve_left (fun h=>by rw[h] at hx;cases hx);obtain ⟨us,be,a5⟩:=a2.get hx;have a1:=a5;obtain ⟨ap,az,am,a3,rfl,_,_,_⟩:=a5.form;obtain ⟨M,hM⟩:∃M,M=zBK c x:=⟨_,rfl⟩;refine zAP (zAC (zAK (zAT (zAA (qV (zAH (b:=ab) (o:=ao) (len:=t.args.length) (cap:=ac) (i:=i) (o':=ao+i*6) rfl rfl rfl underlying23 zAO qO qO) (qV (zAG rfl zAc zAO rfl (be.ext E)) (zAg (v:=(.agg (R6 x ap az am a3))) (c:=(R6 x ap az am a3)) (n:=6) qD zAu rfl zAO rfl rfl rfl qS ?_)))))));intro bu wu Nu;have Fu:=Nu.ge E;have Ou_br:=Nu.lt Br;have Ou_bo:=Nu.lt Bo;replace Br:=Nu.keep Br;replace Bo:=Nu.keep Bo;replace hO:=zAn hO Nu.ext;replace hR:=zAm.ext Nu.ext hR;replace af:=Nat.le_trans af Nu.ext.size;replace hT:=zJM hT Nu.ext;replace E:=E.ext Nu.ext;have Bu:=Nu.blk;refine zAB (zAN (qM _ rfl (qV (zAG (vs:=[(I6 x.kind),(.slice ap x.set.length az),(.slice am x.args.length a3),(I6 x.mn),(I6 x.mx),(.bool x.neg)]) rfl zAc zAO rfl (Bu.cells rfl)) (qM _ rfl ?_))));obtain ⟨n2,aq⟩:∃n2,n2=(wu).heap.size:=⟨_,rfl⟩;have bl:n1≤n2:=by rw[aq];exact af
    have bk:∀b,(Value.slice la i lc).ownBlock=some b→n1≤b∧b<n2:=fun b hb=>⟨(hO.lt b hb).1,by rw[aq];exact (hO.lt b hb).2⟩;refine qE rfl (zAV func60 zTh zTx rfl) ((ih x _ S _ qO bm (zAe.ext E x a1) (fun y hy=>by have:=hS y hy;have:=E.size;omega)).mono (R':=fun r w=>reG (fun b=>S b∨n2≤b) M r w∧Ext wu w) (fun r w h=>⟨zBk (S':=fun b=>S b∨_≤b) (fun b hb=>by rcases hb with h1|h1;exact .inl h1;exact .inr (by rw[aq];exact h1)) (by rw[hM];exact h.1),h.2⟩)) ?_;rintro _ w9 ⟨⟨ma,mc,pa,pc,rfl,hX⟩,X9⟩;replace Br:=X9.keep Br;replace Bo:=X9.keep Bo;replace Bu:=X9.keep Bu;replace hO:=zAn hO X9;replace hR:=zAm.ext X9 hR;replace af:=Nat.le_trans af X9.size;replace hT:=zJM hT X9;replace E:=E.ext X9;have al:=zAe.lt M hX;refine zAh (ps:=[(0,(.agg (R6 M ma mc pa pc)))]) (c:=(R6 M ma mc pa pc)) qD rfl underlying23 zAO zAu qD qD qK ?_;intro bz wz Nz;have Fz:=Nz.ge E;have Oz_br:=Nz.lt Br;have Oz_bo:=Nz.lt Bo;have Oz_bu:=Nz.lt Bu;replace Br:=Nz.keep Br;replace Bo:=Nz.keep Bo;replace Bu:=Nz.keep Bu;replace hO:=zAn hO Nz.ext;replace hR:=zAm.ext Nz.ext hR;replace af:=Nat.le_trans af Nz.ext.size;replace hT:=zJM hT Nz.ext;replace al:=zAe.ext Nz.ext M al;replace E:=E.ext Nz.ext;have Bz:=Nz.blk;have hQ9:True:=trivial;refine zBC (base:=n1) (n:=i) (m:=1) (xs:=ad.flatten) (news:=[(I6 M.kind),(.slice ma M.set.length mc),(.slice pa M.args.length pc),(I6 M.mn),(I6 M.mx),(.bool M.neg)]) (size:=6) (bytes:=80) (v:=(.slice la i lc)) qD underlying23 zAO zEu zAu rfl qD rfl hO rfl (rfl) (Bz.cells rfl) qS (by unfold maxLen;omega) qO (af) ?_;intro v9 a9 a6 ag bp;replace Br:=ag.keep (fun h=>by have:=(hO.lt _ h).1;omega) Br;replace Bo:=ag.keep (fun h=>by have:=(hO.lt _ h).1;omega) Bo;replace E:=E.step ag (fun x hx h=>absurd (hO.lt x h).1 qO);obtain ⟨bb,bd,rfl⟩:=zAw a6;have ai:∀y,(T y∨((S y∨n2≤y)∧y<w9.heap.size))→(S y∨n1≤y)∧y<(a9).heap.size∧(Value.slice la i lc).ownBlock≠some y:=by
     intro y hy;have bf:=Nz.ext.size;have hz2:=ag.size;rcases hy with hy|⟨hy,hy2⟩
     ·exact ⟨(hT y hy).1,by have:=(hT y hy).2;omega,fun hb=>av y hb hy⟩
     ·refine ⟨hy.imp id (fun h=>by have:=X9.size;omega),qO,fun hb=>?_⟩;have h9:=bk y hb;rcases hy with h1|h1
      ·have:=hS y h1;omega
      ·omega
    have bc:zAm (fun y=>T y∨((S y∨n2≤y)∧y<w9.heap.size)) (a9) ((t.args.take (i+1)).map (zBK c)) (ad++[[.int .i64 M.kind,.slice ma M.set.length mc,.slice pa M.args.length pc,.int .i64 M.mn,.int .i64 M.mx,.bool M.neg]]):=by
     rw[List.take_add_one,hx,Option.toList_some,List.map_append,List.map_cons,List.map_nil,←hM];exact zIF (zAm.mono (fun y hy=>.inl hy) (zAm.chg ag (fun y hy hm=>av y hm hy) hR)) (zAe.mono (fun y hy=>.inr hy) M (zAe.chg ag (fun y hy hm=>(ai y (.inr hy)).2.2 hm) M al))
    refine qA _ rfl (zAB (zAS (zAC (zAN (qV (zAy rfl rfl (zBV qO)) (qM _ rfl (zAB (zAC ?_))))))));exact ⟨t.args.length - (i+1),qO,i+1,bb,bd,ad++[[.int .i64 M.kind,.slice ma M.set.length mc,.slice pa M.args.length pc,.int .i64 M.mn,.int .i64 M.mx,.bool M.neg]],(fun y=>T y∨((S y∨n2≤y)∧y<w9.heap.size)),zBA.out ⟨rfl,rfl,rfl,rfl,rfl,rfl,rfl,trivial⟩,E,Br,Bo,qO,(by simpa using a6),bc,Nat.le_trans af ag.size,(fun y hy=>⟨(ai y hy).1,(ai y hy).2.1⟩),(fun b hb hy=>by rcases bp b hb with h|h;exact (ai b hy).2.2 h;have bf:=Nz.ext.size;rcases hy with hy|hy;have:=(hT b hy).2;omega;have:=hy.2;omega),rfl⟩
   ·have a8:i=t.args.length:=qO
    rw[a8] at hO hR av;rw[a8];rw[List.take_length] at hR;refine zAp (zAX (zAX (zAj (zAC (zAA (qF br 0 0 rfl underlying25 rfl zAv rfl (qV (zAL rfl zAf (Br.cell rfl)) (qM _ rfl (qV (zBd (ps:=[(0,(I6 t.kind)),(2,(.slice la t.args.length lc))]) (v:=(.agg #[(I6 t.kind),(.slice none 0 0),(.slice la t.args.length lc),(I6 0),(I6 0),(.bool false)])) rfl qK) ?_)))))))));have aj:(t.args.map (zBK c)).length=t.args.length:=List.length_map _;obtain ⟨bs,a4⟩:=zDs hO hR aj;have bg:zAe (fun y=>(S y∨n1≤y)∧y<(W7).heap.size) (W7) (.mk t.kind [] (t.args.map (zBK c)) 0 0 false) [.int .i64 t.kind,.slice none 0 0,.slice la t.args.length lc,.int .i64 0,.int .i64 0,.bool false]:=by
     have h9:=zAe.of (S:=fun y=>(S y∨n1≤y)∧y<(W7).heap.size) (w:=W7) (k:=t.kind) (set:=[]) (args:=t.args.map (zBK c)) (mn:=0) (mx:=0) (ng:=false) (sa:=none) (sc:=0) (aa:=la) (ac:=lc) (zDK.nil _ _ _ _ _) (by rw[aj];exact bs) (by
      rcases a4 with h|⟨ob,a0,ax,aw,au⟩
      ·exact .inl h
      ·exact .inr ⟨ob,0,⟨.inr a0,ax⟩,aw,zDB fun i t ht=>by obtain ⟨vs,h6,h7⟩:=au i t ht;exact ⟨vs,h6,zAe.mono (fun y hy=>hT y hy) t h7⟩⟩)
     rw[aj] at h9;exact h9
    have ar:n1≤(W7).heap.size:=af;refine qE rfl (zAV func115 zSS zTN rfl) ((zKX _ _ _ _ bg (fun y hy=>hy.2) (zWU hk h8 aj) (fun y hy=>by obtain ⟨z,hz,rfl⟩:=List.mem_map.1 hy;exact zDZ c (hok.a z hz)) (by have:=zMK (c:=c) hok.a qO;show Re.sizes (t.args.map (zBK c))≤1000000;omega)).mono (R':=fun r w=>reG (fun b=>S b∨n1≤b) N r w∧Ext _ w) (fun r w h=>⟨zBk (S':=fun b=>((S b∨n1≤b)∧b<_)∨_≤b) (fun b hb=>by rcases hb with h1|h1;exact h1.1;exact .inr (Nat.le_trans ar h1)) (by rw[hN];exact h.1),h.2⟩)) ?_;rintro _ w49 ⟨⟨xa,xc,ya,yc,rfl,ay⟩,ak⟩;replace Br:=ak.keep Br;replace Bo:=ak.keep Bo;replace E:=E.ext ak;refine zAY (b:=bo) (o:=0) (c':=(R6 N xa xc ya yc)) rfl rfl qS zAO rfl Bo qL rfl ?_;intro w9 S9;replace ay:=zAe.chg S9.chg (fun y hy h=>by have h2:y=bo:=h;rcases hy with h1|h1;have:=hS y h1;omega;omega) _ ay;replace Br:=S9.keep qO Br;replace E:=S9.step E qQ;replace Bo:=S9.blk;refine zAB (zAR (zAZ (zAI (zAr results60 (vs:=[(.int .i64 N.kind),(.slice xa N.set.length xc),(.slice ya N.args.length yc),(.int .i64 N.mn),(.int .i64 N.mx),(.bool N.neg)]) (b:=bo) rfl zAc zAO rfl (Bo.cells rfl) ?_))));exact ⟨⟨_,rfl,zAe.mono (fun y hy=>by rcases hy with h1|h1;exact .inl h1;exact .inr qO) _ ay⟩,E⟩
end Go.Proofs
namespace Go.Proofs
open Go Go.Eng Go.Sort
set_option maxRecDepth 100000
theorem zND (c:Int):∀n,n≤301→zGI c n
  | 0,_=>fun t _ _ _ h=>absurd h qO
  | n+1,hn=>fun t w0 S vs h hok ht hS=>by
    have ih:=zND c n qO;have hks:=hok.n.ks;by_cases h0:t.kind=0∨t.kind=1
    · exact zUN c n ih t qO qO hok h0 w0 S vs ht hS
    by_cases h2:t.kind=2
    · exact zUM c n ih t qO qO hok h2 w0 S vs ht hS
    by_cases h3:t.kind=3
    · exact zUL c n ih t qO qO hok h3 w0 S vs ht hS
    by_cases h5:t.kind=5
    · exact zUJ c n ih t qO qO hok h5 w0 S vs ht hS
    by_cases h6:t.kind=6
    · exact zUI c n ih t qO qO hok h6 w0 S vs ht hS
    exact zUK c n ih t qO qO hok qO w0 S vs ht hS
mutual
theorem zKL:∀(t:Re),zEB t→zGL t
  | .mk k set args mn mx ng,h=>by
    have h1:=zFJ h;have h2:=zDt h;have h3:=zCR h;simp only[zGL];refine ⟨?_,zLR args h3⟩;obtain ⟨ha,hb,hf⟩:=h2;by_cases hk:k=2
    · unfold zCS at h1;simp only[Re.kind] at ha hb;rw[if_neg (by simp only[Re.kind];omega),if_neg (by simp[hf]),if_pos (by simp only[Re.kind];exact hk)] at h1;split at h1
      · omega
      · rename_i hc
        simp only[Re.set] at hc;unfold zBR at hc;split at hc
        · omega
        · omega
    · simp only[zDb,Bool.and_eq_true,Bool.or_eq_true,decide_eq_true_eq,Re.kind,Re.set] at hf;have:=hf.1.1.1.2.resolve_left (by simp[hk]);simp at this;rw[this];simp
theorem zLR:∀(ts:List Re),zDJ ts→zHB ts
  | [],_=>by simp only[zHB]
  | t::ts,h=>by simp only[zDJ] at h;simp only[zHB];exact ⟨zKL t h.1,zLR ts h.2⟩
end
mutual
theorem zHz {S Z:Nat→Prop} {w:World} (hZ:∀x,Z x→S x):∀(t:Re) {vs:List Value} {L:Nat→Prop},zFA Z w t vs L→(∀x,L x→S x)→zAe S w t vs
  | .mk k set args mn mx ng,vs,L,h,hL=>by
    simp only[zFA] at h;obtain ⟨sa,sc,aa,ac,hv,hs,hn,ha⟩:=h;simp only[zAe];refine ⟨sa,sc,aa,ac,hv,hs.mono hZ,hn,?_⟩;rcases ha with h|⟨b,rows,rest,L',h1,h2,h3,h4,h5,h6⟩
    · exact .inl h
    · refine .inr ⟨b,0,hL b h1,h2,zDB fun i t ht=>?_⟩;obtain ⟨us,h7,h8⟩:=zJL hZ args h5 (fun x hx=>hL x (h6 x hx).1) i t ht;exact ⟨us,by rw[Nat.zero_add];exact zFy h3 h4 h7,h8⟩
theorem zJL {S Z:Nat→Prop} {w:World} (hZ:∀x,Z x→S x):∀(ts:List Re) {rows:List (List Value)} {L:Nat→Prop},zBn Z w ts rows L→(∀x,L x→S x)→∀(i:Nat) (t:Re),ts[i]?=some t→∃vs,rows[i]?=some vs∧zAe S w t vs
  | [],_,_,_,_,i,t,h=>by simp at h
  | u::ts,rows,L,h,hL,i,t,ht=>by
    simp only[zBn] at h;obtain ⟨vs,rs,L1,L2,rfl,h1,h2,h3,h4⟩:=h;cases i with
    | zero=>simp at ht;subst ht;exact ⟨vs,rfl,zHz hZ u h1 fun x hx=>hL x (h3 x hx).1⟩
    | succ i=>
      obtain ⟨us,h5,h6⟩:=zJL hZ ts h2 (fun x hx=>hL x (h4 x hx)) i t (by simpa using ht);exact ⟨us,by simpa using h5,h6⟩
end
theorem zNx (w0:World) (t:Re) (vs:List Value) (ht:zBG w0 t vs) :
  Ret prog 14 #[.agg vs.toArray] w0 fun r w=>r=.int .i64 (zDW t)∧Ext w0 w:=by
 have ae:=ht;obtain ⟨sa,sc,aa,ac,rfl,af,ah,ad⟩:=ht.form;have hD:zDW t=if zDi t 300≠0 then zDi t 300 else if zDI [9,10] t=true then 3 else 0:=rfl;rw[hD];refine qR func14 rfl ntmps14 rfl (fun E=>(zAA (zBL (v:=(.agg (R6 t sa sc aa ac))) (c:=(R6 t sa sc aa ac)) qD rfl rfl ?_)));intro br wr Nr;have Fr:=Nr.ge E;replace E:=E.ext Nr.ext;have Br:=Nr.blk;refine qA _ rfl (zAB (zAK (zAA (qV (zAG (vs:=[(I6 t.kind),(.slice sa t.set.length sc),(.slice aa t.args.length ac),(I6 t.mn),(I6 t.mx),(.bool t.neg)]) rfl zAc zAO rfl (Br.cells rfl)) (qE rfl (zAV func65 nm65 bd65 rfl) (zWz _ t _ (zBG.ext E t ae) 300) ?_)))));rintro _ w9 ⟨rfl,X9⟩;replace Br:=X9.keep Br;replace E:=E.ext X9;refine qA _ rfl (zAB (zAA (qM _ rfl (qV (zBo rfl rfl) (zAB (qC rfl (fun hf=>?_) (fun hf=>?_)))))))
 ·refine zAA (qM _ rfl (qA _ rfl (zAB (zAR (zAI (zAW results14 (v:=(.int .i64 (zDi t 300))) rfl ?_))))));exact ⟨by rw[if_pos hf],E⟩
 ·refine zAP (zAC (zAK (zAA (qV (zAG (vs:=[(I6 t.kind),(.slice sa t.set.length sc),(.slice aa t.args.length ac),(I6 t.mn),(I6 t.mx),(.bool t.neg)]) rfl zAc zAO rfl (Br.cells rfl)) (zAh (ps:=[(0,(I6 9)),(1,(I6 10))]) (c:=#[(I6 9),(I6 10)]) qD rfl underlying26 zAv zFB qD qD qK ?_)))));intro bk wk Nk;have Fk:=Nk.ge E;have Ok_br:=Nk.lt Br;replace Br:=Nk.keep Br;replace E:=E.ext Nk.ext;have Bk:=Nk.blk;refine qE rfl (zAV func66 nm66 bd66 rfl) (zWE _ t _ [9,10] _ (zBG.ext E t ae) (zDv [9,10] Bk qP qP)) ?_;rintro _ w19 ⟨rfl,ab⟩;replace Br:=ab.keep Br;replace Bk:=ab.keep Bk;replace E:=E.ext ab;refine zAB (zAt rfl (fun hu=>?_) (fun hu=>?_))
  ·have ag:=hu;refine zAA (qA _ rfl (zAB (zAR (zAI (zAW results14 (v:=(.int .i64 3)) rfl ?_)))));exact ⟨by rw[if_neg hf,if_pos hu],E⟩
  ·have ag:=hu;refine zAP (zAC (zAA (qA _ rfl (zAB (zAR (zAW results14 (v:=(.int .i64 0)) rfl ?_))))));exact ⟨by rw[if_neg hf,if_neg (by rw[hu];decide)],E⟩
end Go.Proofs
namespace Go.Proofs
open Go Go.Eng Go.Sort
set_option maxRecDepth 100000
theorem zYC {S:Nat→Prop} {w:World}:zAe S w zBa [.int .i64 0,.slice none 0 0,.slice none 0 0,.int .i64 0,.int .i64 0,.bool false]:=zBg _ _ 0
theorem zZK (w0:World) (S:Nat→Prop) (t:Re) (vs:List Value) (c:Int) (ht:zAe S w0 t vs) (hS:∀x,S x→x<w0.heap.size) :
  Ret prog 11 #[.agg vs.toArray,.int .i64 c] w0 fun r w=>(∃us,r=.tuple #[.agg us.toArray,.int .i64 (byE t c)]∧zAe (fun b=>w0.heap.size≤b) w (byD t c) us)∧Ext w0 w:=by
 have ar:=ht;obtain ⟨sa,sc,aa,ac,rfl,a7,az,aw⟩:=ht.form;have hE:byE t c=if zDW t≠0 then zDW t else if zFl c=false then 1 else if 300<(zBK c (zCz t)).size then 2 else 0:=rfl;have hB:byD t c=if byE t c=0 then zBK c (zCz t) else zBa:=rfl;refine qR func11 rfl ntmps11 rfl (fun E=>(zAA (zBL (v:=(.agg (R6 t sa sc aa ac))) (c:=(R6 t sa sc aa ac)) qD rfl rfl ?_)));intro br wr Nr;have Fr:=Nr.ge E;replace E:=E.ext Nr.ext;have Br:=Nr.blk;refine zBJ (c:=#[(I6 0),(.slice none 0 0),(.slice none 0 0),(I6 0),(I6 0),(.bool false)]) qD zAu rfl ?_;intro bo wo No;have Fo:=No.ge E;have Oo_br:=No.lt Br;replace Br:=No.keep Br;replace E:=E.ext No.ext;have Bo:=No.blk;refine qA _ rfl (zAB (zAK (zAA (qV (zAG (vs:=[(I6 t.kind),(.slice sa t.set.length sc),(.slice aa t.args.length ac),(I6 t.mn),(I6 t.mx),(.bool t.neg)]) rfl zAc zAO rfl (Br.cells rfl)) (qE rfl (zAV func14 zXj zXo rfl) (zNx _ t _ (zAe.at t (zAe.ext E t ar))) ?_)))));rintro _ w9 ⟨rfl,X9⟩;replace Br:=X9.keep Br;replace Bo:=X9.keep Bo;replace E:=E.ext X9;refine qA _ rfl (zAB (zAA (qM _ rfl (qV (zBo rfl rfl) (zAB (qC rfl (fun hf=>?_) (fun hf=>?_)))))))
 ·refine zAA (qV (zBd (ps:=[]) (v:=(.agg #[(I6 0),(.slice none 0 0),(.slice none 0 0),(I6 0),(I6 0),(.bool false)])) rfl qK) (qM _ rfl (zAY (b:=bo) (o:=0) (c':=#[(I6 0),(.slice none 0 0),(.slice none 0 0),(I6 0),(I6 0),(.bool false)]) rfl rfl qS zAO rfl Bo qL rfl ?_)));intro w2 S2;replace Br:=S2.keep qO Br;replace E:=S2.step E qQ;replace Bo:=S2.blk;refine qA _ rfl (zAB (zAR (zAI (zEr results11 (vs:=[(.int .i64 0),(.slice none 0 0),(.slice none 0 0),(.int .i64 0),(.int .i64 0),(.bool false)]) (b:=bo) (v':=(.int .i64 (zDW t))) rfl zAc zAO rfl (Bo.cells rfl) rfl ?_))));exact ⟨⟨_,by rw[hE,if_pos hf],by rw[hB,if_neg (by rw[hE,if_pos hf];exact hf)];exact zYC⟩,E⟩
 ·have a2:zDW t=0:=qO
  obtain ⟨ax,a3,hu,ae,au⟩:=zDV a2;refine zAP (zAC (zAK (zAA (qM _ rfl (qE rfl (zAV func59 zaY zal rfl) (zTZ _ _) ?_)))));rintro _ ak ⟨rfl,ap⟩;replace Br:=ap.keep Br;replace Bo:=ap.keep Bo;replace E:=E.ext ap;refine qV (zCf rfl) (zAB (zAt rfl (fun hr=>?_) (fun hr=>?_)))
  ·have a4:=hr;replace hr:=by simpa using hr
   have ad:zFl c=false:=by simpa using hr
   refine zAA (qV (zBd (ps:=[]) (v:=(.agg #[(I6 0),(.slice none 0 0),(.slice none 0 0),(I6 0),(I6 0),(.bool false)])) rfl qK) (zAY (b:=bo) (o:=0) (c':=#[(I6 0),(.slice none 0 0),(.slice none 0 0),(I6 0),(I6 0),(.bool false)]) rfl rfl qS zAO rfl Bo qL rfl ?_));intro w4 S4;replace Br:=S4.keep qO Br;replace E:=S4.step E qQ;replace Bo:=S4.blk;refine qA _ rfl (zAB (zAR (zAI (zEr results11 (vs:=[(.int .i64 0),(.slice none 0 0),(.slice none 0 0),(.int .i64 0),(.int .i64 0),(.bool false)]) (b:=bo) (v':=(.int .i64 1)) rfl zAc zAO rfl (Bo.cells rfl) rfl ?_))));exact ⟨⟨_,by rw[hE,if_neg hf,if_pos ad],by rw[hB,if_neg (by rw[hE,if_neg hf,if_pos ad];decide)];exact zYC⟩,E⟩
  ·have a4:=hr;replace hr:=by simpa using hr
   have ad:¬zFl c=false:=by simpa using hr
   obtain ⟨M,hM⟩:∃M,M=zCz t:=⟨_,rfl⟩;obtain ⟨D,hD⟩:∃D,D=zBK c M:=⟨_,rfl⟩;have hDz:D.size≤200000:=by rw[hD,hM];exact zCu ae qO
   have a1:zAz D:=by rw[hD,hM];exact zDZ c ae
   refine zAP (zAC (zAA (qV (zAG (vs:=[(I6 t.kind),(.slice sa t.set.length sc),(.slice aa t.args.length ac),(I6 t.mn),(I6 t.mx),(.bool t.neg)]) rfl zAc zAO rfl (Br.cells rfl)) ?_)));obtain ⟨n1,a0⟩:∃n1,n1=ak.heap.size:=⟨_,rfl⟩;have hob:bo<n1∧w0.heap.size≤bo:=⟨by rw[a0];exact Bo.lt,qO⟩;refine qE rfl (zAV func58 zXi zXn rfl) ((zQy 300 t _ S _ a3 qO ax hu (zAe.ext E t ar) (fun y hy=>by have:=hS y hy;have:=E.size;omega)).mono (R':=fun r w=>reG (fun b=>S b∨n1≤b) M r w∧Ext ak w) (fun r w h=>⟨zBk (S':=fun b=>S b∨ak.heap.size≤b) (fun b hb=>by rcases hb with h1|h1;exact .inl h1;exact .inr qO) (by rw[hM];exact h.1),h.2⟩)) ?_;rintro _ al ⟨⟨xa,xc,ya,yc,rfl,a5⟩,ai⟩;replace Br:=ai.keep Br;replace Bo:=ai.keep Bo;replace E:=E.ext ai;refine qM _ rfl (qE rfl (zAV func60 zTh zTx rfl) ((zND c 301 qO M _ _ _ (by rw[hM];omega) (by rw[hM];exact ae) (zAe.lt _ a5) (fun y hy=>hy.2)).mono (R':=fun r w=>reG (fun _=>True) D r w∧Ext al w) (fun r w h=>⟨zBk (S':=fun b=>((S b∨n1≤b)∧b<al.heap.size)∨al.heap.size≤b) (fun b hb=>trivial) (by rw[hD];exact h.1),h.2⟩)) ?_);rintro _ an ⟨⟨da,dc,ea,ec,rfl,a6⟩,aj⟩;replace Br:=aj.keep Br;replace Bo:=aj.keep Bo;replace E:=E.ext aj;have ab:=zAe.lt D a6;obtain ⟨h39,am⟩:∃h,h=an.heap.size:=⟨_,rfl⟩;rw[←am] at ab;have E3:Chg zAo an an:=Chg.refl _ _;refine zAg (v:=(.agg (R6 D da dc ea ec))) (c:=(R6 D da dc ea ec)) (n:=6) qD zAu rfl zAO rfl rfl rfl qS ?_;intro bq wq Nq;have Fq:=Nq.ge E;have Fq_E3:=Nq.ge E3;have Oq_br:=Nq.lt Br;have Oq_bo:=Nq.lt Bo;replace Br:=Nq.keep Br;replace Bo:=Nq.keep Bo;replace ab:=zAe.ext Nq.ext _ ab;replace E:=E.ext Nq.ext;have Bq:=Nq.blk;replace E3:=E3.ext Nq.ext;refine zAB (zAK (zAA (qV (zAG (vs:=[(I6 D.kind),(.slice da D.set.length dc),(.slice ea D.args.length ec),(I6 D.mn),(I6 D.mx),(.bool D.neg)]) rfl zAc zAO rfl (Bq.cells rfl)) (qE rfl (zAV func61 zYL zZR rfl) (zPg _ D _ (zAe.at D ab) qO) ?_))));rintro _ ay ⟨rfl,af⟩;replace Br:=af.keep Br;replace Bo:=af.keep Bo;replace Bq:=af.keep Bq;replace ab:=zAe.ext af _ ab;replace E:=E.ext af;replace E3:=E3.ext af;refine qV (zCN rfl rfl) (zAB (qC rfl (fun hz=>?_) (fun hz=>?_)))
   ·refine zAA (qV (zBd (ps:=[]) (v:=(.agg #[(I6 0),(.slice none 0 0),(.slice none 0 0),(I6 0),(I6 0),(.bool false)])) rfl qK) (zAY (b:=bo) (o:=0) (c':=#[(I6 0),(.slice none 0 0),(.slice none 0 0),(I6 0),(I6 0),(.bool false)]) rfl rfl qS zAO rfl Bo qL rfl ?_));intro w6 S6;replace Br:=S6.keep qO Br;replace Bq:=S6.keep qO Bq;replace E:=S6.step E qQ;replace Bo:=S6.blk;refine qA _ rfl (zAB (zAR (zAI (zEr results11 (vs:=[(.int .i64 0),(.slice none 0 0),(.slice none 0 0),(.int .i64 0),(.int .i64 0),(.bool false)]) (b:=bo) (v':=(.int .i64 2)) rfl zAc zAO rfl (Bo.cells rfl) rfl ?_))));exact ⟨⟨_,by rw[hE,if_neg hf,if_neg ad,if_pos (by rw[←hM,←hD];omega)],by rw[hB,if_neg (by rw[hE,if_neg hf,if_neg ad,if_pos (by rw[←hM,←hD];omega)];decide)];exact zYC⟩,E⟩
   ·have av:bo<(ay).heap.size:=by have:=E3.size;have:=ai.size;have:=aj.size;omega
    refine zAP (zAC (zAA (qV (zAG (vs:=[(I6 D.kind),(.slice da D.set.length dc),(.slice ea D.args.length ec),(I6 D.mn),(I6 D.mx),(.bool D.neg)]) rfl zAc zAO rfl (Bq.cells rfl)) (qE rfl (zAV func57 zYM zZS rfl) (zTt D.size D _ _ (Nat.le_refl _) qO (zKL D (zEY a1).1) (zAe.at D ab)) ?_))));rintro _ w59 ⟨⟨us,Z,L,rfl,aq,hZL,ah⟩,ag⟩;replace Br:=ag.keep Br;replace Bo:=ag.keep Bo;replace Bq:=ag.keep Bq;replace ab:=zAe.ext ag _ ab;replace E:=E.ext ag;replace E3:=E3.ext ag;have ao:=zHz (S:=fun b=>bo<b) (fun x hx=>by have:=(ah x (.inl hx)).1;omega) D aq (fun x hx=>by have:=(ah x (.inr hx)).1;omega);obtain ⟨fa,fc,ga,gc,rfl,_,_,_⟩:=aq.form;refine zAY (b:=bo) (o:=0) (c':=(R6 D fa fc ga gc)) rfl rfl qS zAO rfl Bo qL rfl ?_;intro w7 S7;replace ao:=zAe.chg S7.chg (fun y hy h=>by have h2:y=bo:=h;have h3:bo<y:=hy;omega) _ ao;replace Br:=S7.keep qO Br;replace Bq:=S7.keep qO Bq;replace E:=S7.step E qQ;replace Bo:=S7.blk;refine qA _ rfl (zAB (zAR (zEr results11 (vs:=[(.int .i64 D.kind),(.slice fa D.set.length fc),(.slice ga D.args.length gc),(.int .i64 D.mn),(.int .i64 D.mx),(.bool D.neg)]) (b:=bo) (v':=(.int .i64 0)) rfl zAc zAO rfl (Bo.cells rfl) rfl ?_)));exact ⟨⟨_,by rw[hE,if_neg hf,if_neg ad,if_neg (by rw[←hM,←hD];omega)],by rw[hB,if_pos (by rw[hE,if_neg hf,if_neg ad,if_neg (by rw[←hM,←hD];omega)]),←hM,←hD];exact zAe.mono (fun y (hy:bo<y)=>qO) _ ao⟩,E⟩
end Go.Proofs
namespace Go.Proofs
open Go Go.Eng Go.Sort
set_option maxRecDepth 100000
theorem zGc {P:Program} {fn:Func} {R:Value→World→Prop} {t1 t2 t3 t4:Nat} (hr:fn.results=#[.tmp t1,.tmp t2,.tmp t3,.tmp t4]) {σ:Env} {w:World} {v1 v2 v3 v4:Value} (h1:σ t1=v1) (h2:σ t2=v2) (h3:σ t3=v3) (h4:σ t4=v4) (h:R (.tuple #[v1,v2,v3,v4]) w):fin P fn R .ret σ w:=
 ⟨.tuple #[v1,v2,v3,v4],fun a ha=>by subst ha;rw[←h1,←h2,←h3,←h4];simp[results,hr,env],h⟩
theorem zOC {ll out:List (List Sp)} {e:Int} (h:zJp ll out e) (hv:∀l∈ll,zBR l=0) (he:e≠0):e=2:=by
 rcases h with ⟨h1,_⟩|⟨_,cs,_,⟨_,h2,_⟩|⟨_,h2,_⟩⟩
 ·exact absurd (zHU hv) h1
 ·exact h2
 ·exact absurd h2 he
theorem zKa {ll out:List (List Sp)} {e:Int} (h:zJp ll out e) (hv:∀l∈ll,zBR l=0) (he:e=0):zPQ ll out∧out.length≤16:=by
 rcases h with ⟨h1,_⟩|⟨_,cs,h0,⟨_,h2,_⟩|⟨h3,h2,rfl⟩⟩
 ·exact absurd (zHU hv) h1
 ·omega
 ·refine ⟨h0,?_⟩;unfold zLU at h3;exact Nat.le_of_not_lt fun h=>h3 (.inr h)
def zMC (cl:List Sp) (x:Re) (L:List Re):Prop:=(zBK (zBl cl) x).size≤300∧((zBK (zBl cl) x).kind=0∨zBK (zBl cl) x∈L)
theorem zMC.push {cl:List Sp} {x y:Re} {L:List Re} (h:zMC cl x L):zMC cl x (L++[y]):=⟨h.1,h.2.imp id fun h=>List.mem_append_left _ h⟩
theorem zRm.next {cs:List (List Sp)} {i:Nat} {L:List Re} {x:Re} (h:zRm cs i L) (hx:L[i]?=some x) (hg:∀cl∈cs,zMC cl x L):zRm cs (i+1) L:=fun j y hj hy cl hc=>by
 rcases Nat.lt_or_ge j i with h1|h1
 ·exact h j y h1 hy cl hc
 ·obtain rfl:j=i:=qO
  rw[hx] at hy;cases hy;exact hg cl hc
theorem zIZ {cs:List (List Sp)} {k:Nat} {cl:List Sp} {x:Re} {L:List Re} (hk:cs[k]?=some cl) (h:∀c∈cs.take k,zMC c x L) (hg:zMC cl x L):∀c∈cs.take (k+1),zMC c x L:=fun c hc=>by
 rw[List.take_add_one,hk,Option.toList_some] at hc;rcases List.mem_append.1 hc with h1|h1
 ·exact h c h1
 ·rw[List.mem_singleton.1 h1];exact hg
theorem zSD {S S':Nat→Prop} {w:World} {n0 m c:Nat} {a:Option Addr} {ts:List Re} {rows:List (List Value)} (hown:w.ownsRow n0 TRe 6 (.slice a m c) m rows.flatten) (hR:zAm S w ts rows) (hm:ts.length=m) (hS':∀y,S y→S' y) (hn:∀y,n0≤y→S' y):zCU S' w (.slice a m c) ts:=by
 subst hm;obtain ⟨h1,h2⟩:=zDs hown hR rfl;refine ⟨a,c,rfl,h1,?_⟩;rcases h2 with h|⟨b,hb,_,h3,h4⟩
 ·exact .inl h
 ·exact .inr ⟨b,0,hn b hb,h3,zDB fun i t ht=>by obtain ⟨vs,h6,h7⟩:=h4 i t ht;exact ⟨vs,h6,zAe.mono hS' t h7⟩⟩
/-- A list of expressions of one's own. -/
structure ListR (S:Nat→Prop) (z0 n1:Nat) (w:World) (v:Value) (L:List Re) (T:Nat→Prop):Prop where
 o:∃rows,w.ownsRow n1 TRe 6 v L.length rows.flatten∧zAm T w L rows
 t:∀y,T y→(S y∨z0≤y)∧y<w.heap.size
 n:∀b,v.ownBlock=some b→¬T b
section
variable {S T M : Nat → Prop} {z0 n1 : Nat} {w w' : World} {v : Value} {L : List Re}
theorem ListR.lt (h:ListR S z0 n1 w v L T):∀b,v.ownBlock=some b→n1≤b∧b<w.heap.size:=fun b hb=>by obtain ⟨rows,ho,_⟩:=h.o;exact ho.lt b hb
theorem ListR.chg (h:ListR S z0 n1 w v L T) (c:Chg M w w') (h1:∀b,v.ownBlock=some b→¬M b) (h2:∀b,T b→¬M b):ListR S z0 n1 w' v L T:=by
 obtain ⟨aa,ho,hr⟩:=h.o;exact ⟨⟨aa,zBi ho c h1,zAm.chg c h2 hr⟩,fun y hy=>⟨(h.t y hy).1,Nat.lt_of_lt_of_le (h.t y hy).2 c.size⟩,h.n⟩
theorem ListR.ext (h:ListR S z0 n1 w v L T) (e:Ext w w'):ListR S z0 n1 w' v L T:=h.chg e (fun _ _ f=>f) fun _ _ f=>f
theorem ListR.rs {a:Option Addr} {c:Nat} (h:ListR S z0 n1 w (.slice a L.length c) L T) (hz:z0≤n1):zCU (fun b=>S b∨z0≤b) w (.slice a L.length c) L:=by
 obtain ⟨aa,ho,hr⟩:=h.o;exact zSD ho (zAm.mono (fun y hy=>(h.t y hy).1) hr) rfl (fun y hy=>hy) fun y hy=>.inr qO
theorem ListR.at {a:Option Addr} {c i:Nat} {x:Re} (h:ListR S z0 n1 w (.slice a L.length c) L T) (hx:L[i]?=some x):∃b,a=some ⟨b,0,none⟩∧∃vs,zBD w b (0+i*6) vs∧zAe T w x vs:=by
 obtain ⟨aa,ho,hr⟩:=h.o;obtain ⟨_,h2⟩:=zDs ho hr rfl;obtain ⟨b',_,_,h3,h4⟩:=h2.resolve_left (fun h=>by rw[h] at hx;simp at hx);exact ⟨b',h3,h4 i x hx⟩
theorem zXz {l:List Value} {k:Nat} (v:Value):l.toArray.setIfInBounds (0+k) v=(l.set k v).toArray:=by
 apply Array.ext';rw[Array.toList_setIfInBounds,Nat.zero_add]
theorem getV {l:List Value} {k:Nat} {v:Value} (h:k<l.length):(l.set k v).toArray[0+k]?=some v:=by
 rw[Nat.zero_add,List.getElem?_toArray,List.getElem?_set_self h]
/-- One more. -/
theorem ListR.push {w1:World} {v':Value} {x:Re} {us:List Value} {n0:Nat} {rows:List (List Value)} (h:ListR S z0 n1 w v L T) (hr:zAm T w L rows) (hx:zAe (fun b=>T b∨(n0≤b∧b<w.heap.size)) w x us) (hn:∀b,v.ownBlock=some b→b<n0) (hz:z0≤n0)
  (hO:w1.ownsRow n1 TRe 6 v' (L.length+1) (rows.flatten++us)) (C:Chg (fun x=>v.ownBlock=some x) w w1) (hD:∀k,v'.ownBlock=some k→v.ownBlock=some k∨w.heap.size≤k) :
  ListR S z0 n1 w1 v' (L++[x]) (fun b=>T b∨(n0≤b∧b<w.heap.size)):=by
 have hs:=C.size;have aa:∀b,(T b∨(n0≤b∧b<w.heap.size))→¬v.ownBlock=some b:=fun b hb hv=>by
  rcases hb with hb|hb
  ·exact h.n b hv hb
  ·have:=hn b hv;omega
 refine ⟨⟨rows++[us],?_,?_⟩,fun y hy=>?_,fun b hb hy=>?_⟩
 ·rw[List.length_append,List.flatten_append,List.flatten_singleton];exact hO
 ·exact zAm.append (zAm.single (zAe.chg C (fun b hb hm=>aa b hb hm) x hx)) (zAm.mono (fun b hb=>.inl hb) (zAm.chg C (fun b hb hm=>aa b (.inl hb) hm) hr))
 ·rcases hy with hy|hy
  ·exact ⟨(h.t y hy).1,by have:=(h.t y hy).2;omega⟩
  ·exact ⟨.inr qO,qO⟩
 ·rcases hD b hb with h1|h1
  ·exact aa b hy h1
  ·rcases hy with hy|hy
   ·have:=(h.t b hy).2;omega
   ·omega
end
theorem zXA (w0:World) (bz:Nat) (x D:Re) (xs ds:List Value) (hB:Blk w0 bz ds.toArray 25) (hd:zBG w0 D ds) (hx:zBG w0 x xs) :
  Ret prog 137 #[.agg xs.toArray,.pointer (some ⟨bz,0,none⟩)] w0 fun r w=>r=.bool (zBZ x D)∧Ext w0 w:=by
 have ah:=hx;have ag:=hd;obtain ⟨sa,sc,aa,ac,rfl,_,_,_⟩:=hx.form;obtain ⟨ab,af,ae,ad,rfl,_,_,_⟩:=hd.form;refine qR func137 rfl ntmps137 rfl (fun E=>(zAA (zBL (v:=(.agg (R6 x sa sc aa ac))) (c:=(R6 x sa sc aa ac)) qD rfl rfl ?_)));intro br wr Nr;have Fr:=Nr.ge E;have Or_bz:=Nr.lt hB;replace hB:=Nr.keep hB;replace E:=E.ext Nr.ext;have Br:=Nr.blk;refine qA _ rfl (zAB (zAA (qV (zAG (vs:=[(I6 x.kind),(.slice sa x.set.length sc),(.slice aa x.args.length ac),(I6 x.mn),(I6 x.mx),(.bool x.neg)]) rfl zAc zAO rfl (Br.cells rfl)) (qV (zAG (vs:=[(I6 D.kind),(.slice ab D.set.length af),(.slice ae D.args.length ad),(I6 D.mn),(I6 D.mx),(.bool D.neg)]) rfl zAc zAO rfl (hB.cells rfl)) (qE rfl (zAV func25 zYO zZU rfl) (zNM x.size x D _ _ _ (Nat.le_refl _) (zBG.ext E x ah) (zBG.ext E D ag)) ?_)))));rintro _ w9 ⟨rfl,X9⟩;replace hB:=X9.keep hB;replace Br:=X9.keep Br;replace E:=E.ext X9;refine qA _ rfl (zAB (zAR (zAW results137 (v:=(.bool (zBZ x D))) rfl ?_)));exact ⟨rfl,E⟩
end Go.Proofs
namespace Go.Proofs
open Go Go.Eng Go.Sort
set_option maxRecDepth 100000
/-- One class of a state: the list of the states, and the row. -/
def zDc (c:Int) (x:Re) (s:List Re×List Int):List Re×List Int:=
 if (zBK c x).kind=0 then (s.1,s.2++[-1]) else if (s.1.any fun y=>zBZ y (zBK c x))=true then (s.1,s.2++[idx (fun y=>zBZ y (zBK c x)) s.1]) else (s.1++[zBK c x],s.2++[((s.1.length:Nat):Int)])
def zCp (cs:List (List Sp)) (x:Re) (L:List Re):List Re×List Int:=cs.foldl (fun s cl=>zDc (zBl cl) x s) (L,[])
def zCl (cs:List (List Sp)) (t:Re):Nat→List Re×List (List Int)
  | 0=>([zCz t],[])
  | i+1=>match (zCl cs t i).1[i]? with
    | none=>zCl cs t i
    | some x=>((zCp cs x (zCl cs t i).1).1,(zCl cs t i).2++[(zCp cs x (zCl cs t i).1).2])
theorem zJi {cs:List (List Sp)} {t x:Re} {i:Nat} (h:(zCl cs t i).1[i]?=some x):zCl cs t (i+1)=((zCp cs x (zCl cs t i).1).1,(zCl cs t i).2++[(zCp cs x (zCl cs t i).1).2]):=by
 rw[zCl,h]
theorem zOs {cs:List (List Sp)} {t:Re} {i:Nat} (h:(zCl cs t i).1[i]?=none):zCl cs t (i+1)=zCl cs t i:=by
 rw[zCl,h]
theorem zHO {cs:List (List Sp)} {t:Re} {i:Nat} (h:(zCl cs t i).1.length≤i):∀k,zCl cs t (i+k)=zCl cs t i:=by
  intro k
  induction k with
  | zero=>rfl
  | succ k ih=>
    rw[←Nat.add_assoc,zOs,ih];rw[ih,List.getElem?_eq_none qO]
/-- There are too many of them, or one is too large. -/
def zIu (cs:List (List Sp)) (t:Re) (i:Nat):Prop:=∃x,(zCl cs t i).1[i]?=some x∧((∃cl∈cs,300<(zBK (zBl cl) x).size)∨200<(zCl cs t (i+1)).1.length)
def zHk (cs:List (List Sp)) (t:Re):Prop:=∃i,zIu cs t i
def zEw (cs:List (List Sp)) (t:Re) (L:List Re) (rows:List (List Int)):Prop:=∃n,zCl cs t n=(L,rows)∧n=L.length∧∀j,j<n→¬zIu cs t j
theorem zEw.uniq {cs:List (List Sp)} {t:Re} {L L':List Re} {R R':List (List Int)} (h:zEw cs t L R) (h':zEw cs t L' R'):L=L'∧R=R':=by
 obtain ⟨n,h1,h2,_⟩:=h;obtain ⟨m,h3,h4,_⟩:=h';have aa:zCl cs t n=zCl cs t m:=by
  rcases Nat.le_total n m with h|h
  ·have h5:=zHO (i:=n) (by rw[h1];exact Nat.le_of_eq h2.symm) (m - n);rw[show n+(m - n)=m by omega] at h5;exact h5.symm
  ·have h5:=zHO (i:=m) (by rw[h3];exact Nat.le_of_eq h4.symm) (n - m);rw[show m+(n - m)=n by omega] at h5;exact h5
 rw[h1,h3] at aa;exact ⟨congrArg Prod.fst aa,congrArg Prod.snd aa⟩
theorem zEw.ok {cs:List (List Sp)} {t:Re} {L:List Re} {R:List (List Int)} (h:zEw cs t L R):¬zHk cs t:=by
 obtain ⟨n,h1,h2,h3⟩:=h;rintro ⟨i,hb⟩;rcases Nat.lt_or_ge i n with h|h
 ·exact h3 i h hb
 ·obtain ⟨x,hx,_⟩:=hb;rw[show i=n+(i - n) by omega,zHO (by rw[h1];exact Nat.le_of_eq h2.symm),h1] at hx;have:=zAa hx;simp at this;omega
theorem zMn (c:Int) (x:Re) (s:List Re×List Int):∃M v,zDc c x s=(s.1++M,s.2++[v]):=by
 unfold zDc;split
 ·exact ⟨[],-1,qP⟩
 split
 ·exact ⟨[],_,by simp;rfl⟩
 ·exact ⟨[_],_,rfl⟩
theorem zGC (x:Re):∀(cs:List (List Sp)) (s:List Re×List Int),∃M r,cs.foldl (fun s cl=>zDc (zBl cl) x s) s=(s.1++M,s.2++r)∧r.length=cs.length
  | [],s=>⟨[],[],qP,rfl⟩
  | c::cs,s=>by
    obtain ⟨M,v,h⟩:=zMn (zBl c) x s;obtain ⟨M2,r2,h2,h3⟩:=zGC x cs (zDc (zBl c) x s);exact ⟨M++M2,v::r2,by rw[List.foldl_cons,h2,h];simp,by simp[h3]⟩
theorem zIb {cs:List (List Sp)} {x:Re} {L:List Re} {k:Nat} {cl:List Sp} (h:cs[k]?=some cl):zCp (cs.take (k+1)) x L=zDc (zBl cl) x (zCp (cs.take k) x L):=by
 unfold zCp;rw[List.take_add_one,h,Option.toList_some,List.foldl_append];rfl
/-- What is there while a row is made lies at the beginning of what is there behind it. -/
theorem zMm {cs:List (List Sp)} {x:Re} {L:List Re} (k:Nat):(zCp (cs.take k) x L).1.length≤(zCp cs x L).1.length:=by
 have h:zCp cs x L=(cs.drop k).foldl (fun s cl=>zDc (zBl cl) x s) (zCp (cs.take k) x L):=by
  unfold zCp;rw[←List.foldl_append,List.take_append_drop]
 obtain ⟨M,r,h2,_⟩:=zGC x (cs.drop k) (zCp (cs.take k) x L);rw[h,h2];simp
theorem zHQ {cs:List (List Sp)} {x:Re} {L:List Re} {k:Nat} (hk:k≤cs.length):(zCp (cs.take k) x L).2.length=k:=by
 obtain ⟨M,r,h2,h3⟩:=zGC x (cs.take k) (L,[]);unfold zCp;rw[h2];simp[h3];omega
theorem zFe {cs:List (List Sp)} {t x:Re} {i k:Nat} {L:List Re} {R:List (List Int)} (hs:zCl cs t i=(L,R)) (hx:L[i]?=some x) (h:(∃cl∈cs,300<(zBK (zBl cl) x).size)∨200<(zCp (cs.take k) x L).1.length):zHk cs t:=by
 have aa:(zCl cs t i).1[i]?=some x:=by rw[hs];exact hx
 refine ⟨i,x,aa,h.imp id fun h=>?_⟩;rw[zJi aa,hs];exact Nat.lt_of_lt_of_le h (zMm k)
theorem zHP {cs:List (List Sp)} {t x:Re} {i:Nat} {L:List Re} {R:List (List Int)} (hs:zCl cs t i=(L,R)) (hx:L[i]?=some x):zCl cs t (i+1)=((zCp cs x L).1,R++[(zCp cs x L).2]):=by
 rw[zJi (x:=x) (by rw[hs];exact hx),hs]
theorem zJk {cs:List (List Sp)} {t x:Re} {i:Nat} {L:List Re} {R:List (List Int)} (hs:zCl cs t i=(L,R)) (hx:L[i]?=some x) (h1:∀cl∈cs,(zBK (zBl cl) x).size≤300) (h2:(zCp cs x L).1.length≤200):¬zIu cs t i:=by
 rintro ⟨y,hy,hb⟩;rw[hs] at hy;have hy:L[i]?=some y:=hy;rw[hx] at hy;cases hy;rw[zHP hs hx] at hb;rcases hb with ⟨cl,hm,h⟩|h
 ·have:=h1 cl hm;omega
 ·simp only at h;omega
end Go.Proofs
namespace Go.Proofs
open Go Go.Eng
structure Dfa where
 start:Int
 accept:List Int
 next:List (List Int)
end Go.Proofs
namespace Go.Proofs
open Go Go.Eng
set_option maxRecDepth 100000
def zDO (w:World) (v:Value) (ll:List (List Int)):Prop:=∃vs:List Value,zBq w 1 v (vs.map fun x=>[x])∧vs.length=ll.length∧∀(i:Nat) (u:Value) (l:List Int),vs[i]?=some u→ll[i]?=some l→zBt w u l
theorem zDO.ext {w w':World} {v:Value} {ll:List (List Int)} (h:zDO w v ll) (e:Ext w w'):zDO w' v ll:=by
 obtain ⟨vs,h1,h2,h3⟩:=h;exact ⟨vs,h1.ext e,h2,fun i u l hu hl=>(h3 i u l hu hl).ext e⟩
theorem zDO.form {w:World} {v:Value} {ll:List (List Int)} (h:zDO w v ll):∃a c,v=.slice a ll.length c∧ll.length≤c∧ll.length≤9223372036854775807:=by
 obtain ⟨vs,h1,h2,_⟩:=h;obtain ⟨a,c,rfl⟩:=h1.form;have:=h1.cap;have:=h1.le;simp only[List.length_map] at *;rw[h2] at *;exact ⟨a,c,rfl,qO,qO⟩
theorem zIY {w:World} {a:Option Addr} {n c:Nat} {ll:List (List Int)} (h:zDO w (.slice a n c) ll) (hn:0<n) :
  ∃b o,a=some ⟨b,o,none⟩∧∀i l,ll[i]?=some l→∃ra rc,w.cell? ⟨b,o+i,none⟩=some (.slice ra l.length rc)∧zBt w (.slice ra l.length rc) l:=by
 obtain ⟨vs,h1,h2,h3⟩:=h;obtain ⟨b,o,ha,hc⟩:=zBq.at h1 hn;refine ⟨b,o,ha,fun i l hl=>?_⟩;have hi:i<vs.length:=by have:=zAa hl;omega
 have hu:vs[i]?=some vs[i]:=List.getElem?_eq_getElem hi;have h4:=h3 i vs[i] l hu hl;obtain ⟨ra,rc,hf⟩:=zBq.form h4;simp only[List.length_map] at hf;have h5:=hc i [vs[i]] (by simp[hu]) 0 _ rfl;rw[Nat.mul_one,Nat.add_zero,hf] at h5;rw[hf] at h4;exact ⟨ra,rc,h5,h4⟩
def zMx (w:World) (d:Dfa) (vs:List Value):Prop:=∃aa ac na nc,vs=[.int .i64 d.start,.slice aa d.accept.length ac,.slice na d.next.length nc]∧zBt w (.slice aa d.accept.length ac) d.accept∧zDO w (.slice na d.next.length nc) d.next
theorem zMx.ext {w w':World} {d:Dfa} {vs:List Value} (h:zMx w d vs) (e:Ext w w'):zMx w' d vs:=by
 obtain ⟨aa,ac,na,nc,h1,h2,h3⟩:=h;exact ⟨aa,ac,na,nc,h1,h2.ext e,h3.ext e⟩
end Go.Proofs
namespace Go.Proofs
open Go Go.Eng Go.Sort
set_option maxRecDepth 100000
abbrev TDI:Nat:=3
abbrev zXe:Nat:=26
def zPO (l:List Int):Nat×List Value:=(l.length,l.map (Value.int .i64))
theorem zOo (l:List Int):(l.map zPN).flatten=l.map (Value.int .i64):=by
  induction l with
  | nil=>rfl
  | cons x l ih=>simp[zPN];simpa[zPN] using ih
theorem zIO {w:World} {base n:Nat} {v:Value} {l:List Int} (h:w.ownsRow base TDI 1 v n (l.map (Value.int .i64))) (hn:n=l.length):zBt w v l:=by
 rw[←zOo] at h;exact zDC h (by intro x hx;simp only[List.mem_map] at hx;obtain ⟨p,_,rfl⟩:=hx;rfl) (by simp[hn]) qD
end Go.Proofs
namespace Go.Eng
open Go
def two (c1 c2:Nat) (M1 M2:Nat→Prop) (p:Nat):Nat→Prop:=bif Nat.beq p c1 then M1 else bif Nat.beq p c2 then M2 else zAo
end Go.Eng
namespace Go.Proofs
open Go Go.Eng Go.Sort
set_option maxRecDepth 100000
theorem zQG {w:World} {b base n:Nat} {row:List Int} (h:Blk w b (row.map (Value.int .i64)).toArray TDI) (hb:base≤b) (hn:row.length=n) (hl:n≤9223372036854775807:=by omega):w.ownsRow base TDI 1 (.slice (some ⟨b,0,none⟩) n n) n (row.map (Value.int .i64)):=
 ⟨by simp[hn],.inr ⟨b,n,_,rfl,hb,h,Nat.le_refl _,hl,by simp[hn],by simp only[Nat.mul_one];exact List.take_of_length_le (by simp[hn])⟩⟩
end Go.Proofs
namespace Go.Proofs
open Go Go.Eng Go.Sort
set_option maxRecDepth 100000
/-- The blocks of a list of lists. -/
def LB (vo:Value) (vs:List Value) (b:Nat):Prop:=vo.ownBlock=some b∨∃(i:Nat) (v:Value),vs[i]?=some v∧v.ownBlock=some b
section
variable {To e sz base : Nat} {w w' : World} {vo : Value} {vs : List Value} {ns : List (Nat × List Value)}
theorem LSt.ltB (h:LSt To e sz w base vo vs ns) {b:Nat} (hb:LB vo vs b):base≤b∧b<w.heap.size:=by
 rcases hb with h1|⟨i,v,h1,h2⟩
 ·exact h.o.lt b h1
 ·obtain ⟨p,hp⟩:=zAU (l:=ns) (i:=i) (by have:=zAa h1;have:=h.len;omega);exact (h.inn i v p h1 hp).lt b h2
theorem LSt.chgB {M:Nat→Prop} (h:LSt To e sz w base vo vs ns) (c:Chg M w w') (hM:∀b,LB vo vs b→¬M b):LSt To e sz w' base vo vs ns:=
 ⟨zBi h.o c fun b hb=>hM b (.inl hb),h.len,fun i v p hv hp=>zBi (h.inn i v p hv hp) c fun b hb=>hM b (.inr ⟨i,v,hv,hb⟩),h.apo⟩
theorem LB.push {v' u:Value} {b:Nat} (h:LB v' (vs++[u]) b):v'.ownBlock=some b∨u.ownBlock=some b∨LB vo vs b:=by
 rcases h with h|⟨i,v,h1,h2⟩
 ·exact .inl h
 ·right;rcases Nat.lt_or_ge i vs.length with h3|h3
  ·rw[List.getElem?_append_left h3] at h1;exact .inr (.inr ⟨i,v,h1,h2⟩)
  ·rw[List.getElem?_append_right h3] at h1;have h4:=zAa h1;simp at h4;rw[show i - vs.length=0 by omega] at h1;simp at h1;exact .inl (h1▸h2)
end
theorem LSt.intss {w:World} {base:Nat} {N:Value} {vs:List Value} {rows:List (List Int)} (h:LSt zXe TDI 1 w base N vs (rows.map zPO)):zDO w N rows:=by
 have hl:vs.length=rows.length:=by simpa using h.len
 refine ⟨vs,?_,hl,fun i u l hu hl=>?_⟩
 ·have ho:=h.o;rw[show vs=(vs.map fun x=>[x]).flatten by simp[List.flatten_eq_flatMap,List.flatMap_map]] at ho;exact zDC ho (by intro r hr;simp only[List.mem_map] at hr;obtain ⟨x,_,rfl⟩:=hr;rfl) (by simp[hl]) qD
 ·exact zIO (h.inn i u (zPO l) hu (by rw[List.getElem?_map,hl];rfl)) rfl
/-- A row that is being filled. -/
def zSC (n:Nat) (r:List Int):List Value:=r.map (Value.int .i64)++List.replicate (n - r.length) (.int .i64 0)
theorem zSB {n:Nat} {r:List Int} (h:r.length≤n):(zSC n r).length=n:=by simp[zSC];omega
theorem zKE {n k:Nat} {r:List Int} (x:Int) (hk:r.length=k) (h:k<n):(zSC n r).set k (.int .i64 x)=zSC n (r++[x]):=by
 subst hk;obtain ⟨m,hm⟩:∃m,n - r.length=m+1:=⟨n - r.length - 1,by omega⟩;unfold zSC;rw[List.set_append_right _ _ (by simp),List.length_append,List.length_singleton,show n - (r.length+1)=m by omega,hm,List.replicate_succ];simp
theorem zPs {n:Nat} {r:List Int} (h:r.length=n):zSC n r=r.map (Value.int .i64):=by simp[zSC,h]
def zEP (m:Nat) (w:World) (v:Value) (rows:List (List Int)):Prop:=∀(M:Nat→Prop) w',Chg M w w'→(∀b,M b→b<m)→zDO w' v rows
theorem zEP.at' {m:Nat} {w:World} {v:Value} {rows:List (List Int)} (h:zEP m w v rows):zDO w v rows:=h zAo w (Chg.refl _ _) fun _ f=>f.elim
theorem zEP.chg {M:Nat→Prop} {m:Nat} {w w':World} {v:Value} {rows:List (List Int)} (h:zEP m w v rows) (c:Chg M w w') (hM:∀b,M b→b<m):zEP m w' v rows:=fun M2 w2 c2 h2=>
 h (fun b=>M b∨M2 b) w2 (Chg.step (c.mono fun y _ hy=>.inl hy) c2 fun x _ hx=>.inr hx) fun b hb=>hb.elim (hM b) (h2 b)
def zVt (S:Nat→Prop) (z0:Nat) (t:Re) (v:Value) (w:World):Prop:=
 (v=.tuple #[.slice none 0 0,.slice none 0 0,.slice none 0 0,.int .i64 2]∧((∃out,zJp (zCe t) out 2)∨∃cs,zJp (zCe t) cs 0∧zHk cs t))∨
  ∃(L:List Re) (cs:List (List Sp)) (rows:List (List Int)) (la:Option Addr) (lc:Nat) (ca:Option Addr) (cc:Nat) (na:Option Addr) (nc:Nat),v=.tuple #[.slice la L.length lc,.slice ca cs.length cc,.slice na rows.length nc,.int .i64 0]∧zCU (fun b=>S b∨z0≤b) w (.slice la L.length lc) L∧Fam t L∧zRm cs L.length L∧zJp (zCe t) cs 0∧zBy w (.slice ca cs.length cc) cs∧zEP z0 w (.slice na rows.length nc) rows∧zEw cs t L rows∧L.length≤200
theorem zQt (w0:World) (S:Nat→Prop) (t:Re) (vs:List Value) (ht:zAe S w0 t vs) (hS:∀x,S x→x<w0.heap.size) (hc0:zDW t=0) :
    Ret prog 79 #[.agg vs.toArray] w0 fun v w=>zVt S w0.heap.size t v w∧Ext w0 w:=by
  have c4:=ht;obtain ⟨sa,sc,aa,ac,rfl,fh,e3,d3⟩:=ht.form;obtain ⟨df,e8,hu,cq,bt⟩:=zDV hc0;have hv:=zDk df hu;have ay:=zFj hv;have dv:=zKB t;have di:=zNr ay;obtain ⟨z0,dx⟩:∃z,z=w0.heap.size:=⟨_,rfl⟩;rw[←dx];refine qR func79 rfl ntmps79 rfl (fun E=>(zAA (zBL (v:=(.agg (R6 t sa sc aa ac))) (c:=(R6 t sa sc aa ac)) qD rfl rfl ?_)));intro br wr Nr;have Fr:=Nr.ge E;replace E:=E.ext Nr.ext;have Br:=Nr.blk;refine qA _ rfl (qA _ rfl (qA _ rfl (qA _ rfl (zAB (zAK (zAA (qV (zAG (vs:=[(I6 t.kind),(.slice sa t.set.length sc),(.slice aa t.args.length ac),(I6 t.mn),(I6 t.mx),(.bool t.neg)]) rfl zAc zAO rfl (Br.cells rfl)) (qE rfl (zAV func14 zXj zXo rfl) (zNx _ t _ (zAe.at t (zAe.ext E t c4))) ?_))))))));rintro _ w9 ⟨rfl,X9⟩;replace Br:=X9.keep Br;replace E:=E.ext X9;refine qA _ rfl (zAB (zAA (qM _ rfl (qV (zBo rfl rfl) (zAB ?_)))));have eu:(decide ((zDW t:Int)≠0))=false:=by simp[hc0]
  refine zAb (cbk eu) (zAP (zAC (zAA (qV (zAG (vs:=[(I6 t.kind),(.slice sa t.set.length sc),(.slice aa t.args.length ac),(I6 t.mn),(I6 t.mx),(.bool t.neg)]) rfl zAc zAO rfl (Br.cells rfl)) (qE rfl (zAV func104 zZE zaK rfl) ((zaM _ t _ (zAe.at t (zAe.ext E t c4)) hv qO).mono (R':=fun v w=>(∃a c,v=.slice a (zCe t).length c∧zBy w (.slice a (zCe t).length c) (zCe t))∧Ext _ w) (fun v w h=>⟨by obtain ⟨a,c,h1,_⟩:=h.1.form;exact ⟨a,c,h1,h1▸h.1⟩,h.2⟩)) ?_)))));rintro _ w19 ⟨⟨aa9,ac9,rfl,et⟩,ds⟩;replace Br:=ds.keep Br;replace E:=E.ext ds;refine qE rfl (zAV func103 zZF zaL rfl) (zVZ _ _ (zCe t) et qO qO) ?_;rintro _ dh ⟨⟨cs,e,a6,ca,cc,rfl,eg⟩,dg⟩;replace Br:=dg.keep Br;replace E:=E.ext dg;refine qM _ rfl (qV (zBM rfl rfl) (qV (zBM rfl rfl) (qA _ rfl (qA _ rfl (zAB (zAK (zAA (qM _ rfl (qV (zBo rfl rfl) (zAB (qC rfl (fun he=>?_) (fun he=>?_))))))))))))
  · refine zAA (qM _ rfl (qA _ rfl (qA _ rfl (qA _ rfl (qA _ rfl (zAB (zAR (zAI (zGc results79 (v1:=(.slice none 0 0)) (v2:=(.slice none 0 0)) (v3:=(.slice none 0 0)) (v4:=(.int .i64 e)) rfl rfl rfl rfl ?_)))))))));exact ⟨.inl (by have h:=zOC a6 ay he;subst h;exact ⟨rfl,.inl ⟨_,a6⟩⟩),E⟩
  · obtain ⟨ee,e0⟩:=zKa a6 ay qO;replace a6:zJp (zCe t) cs 0:=by have h:e=0:=qO;exact h▸a6
    have ed:=zKZ ee (zQn ay);obtain ⟨M,hM⟩:∃M,M=zCz t:=⟨_,rfl⟩;refine zAP (zAC (zAA (qV (zAG (vs:=[(I6 t.kind),(.slice sa t.set.length sc),(.slice aa t.args.length ac),(I6 t.mn),(I6 t.mx),(.bool t.neg)]) rfl zAc zAO rfl (Br.cells rfl)) (qE rfl (zAV func58 zXi zXn rfl) ((zQy 300 t _ S _ e8 qO df hu (zAe.ext E t c4) (fun y hy=>by have:=hS y hy;have:=E.size;omega)).mono (R':=fun r w=>reG (fun b=>S b∨z0≤b) M r w∧Ext dh w) (fun r w h=>⟨zBk (S':=fun b=>S b∨dh.heap.size≤b) (fun b hb=>by rcases hb with h1|h1;exact .inl h1;exact .inr (by have:=E.size;omega)) (by rw[hM];exact h.1),h.2⟩)) ?_))));rintro _ bo ⟨⟨xa,xc,ya,yc,rfl,hR⟩,cx⟩;replace Br:=cx.keep Br;replace E:=E.ext cx;have bw:=eg.ext cx;have E2:Chg zAo bo bo:=Chg.refl _ _;obtain ⟨n1,a8⟩:∃n,n=(bo).heap.size:=⟨_,rfl⟩;have ea:br<n1:=by rw[a8];exact Br.lt
    have dm:z0≤n1:=by rw[a8,dx];exact E.size
    have en:=zAe.lt M hR;have c8:Fam t [M]:=by rw[hM];exact Fam.first cq bt
    refine zAh (ps:=[(0,(.agg (R6 M xa xc ya yc)))]) (c:=(R6 M xa xc ya yc)) qD rfl underlying23 zAO zAu qD qD qK ?_;intro bq wq Nq;have Fq:=Nq.ge E;have Fq_E2:=Nq.ge E2;have Oq_br:=Nq.lt Br;replace Br:=Nq.keep Br;replace E:=E.ext Nq.ext;have Bq:=Nq.blk;replace E2:=E2.ext Nq.ext;refine qA _ rfl (zAB (zAA (qA _ rfl (zAB (zAK (zAA (qA _ rfl (zAB (zAT ?_)))))))));have fc:n1≤bq:=by have:=Nq.eq;omega
    have cn:∀b,(Value.slice (some ⟨bq,0,none⟩) 1 1).ownBlock=some b→b=bq:=fun b hb=>(by simpa[Value.ownBlock] using hb:bq=b).symm;have da:ListR S z0 n1 wq (.slice (some ⟨bq,0,none⟩) 1 1) [M] (fun b=>(S b∨z0≤b)∧b<n1):=⟨⟨[[.int .i64 M.kind,.slice xa M.set.length xc,.slice ya M.args.length yc,.int .i64 M.mn,.int .i64 M.mx,.bool M.neg]],⟨rfl,.inr ⟨bq,1,_,rfl,fc,Bq,Nat.le_refl _,qD,rfl,rfl⟩⟩,zAm.single (zAe.mono (fun b hb=>⟨hb.1,qO⟩) M (zAe.ext Nq.ext M en))⟩,fun y hy=>⟨hy.1,by have:=Nq.size;omega⟩,fun b hb hy=>by have h2:=cn b hb;have h3:=hy.2;omega⟩;have cz:n1≤wq.heap.size:=by have:=Nq.size;omega
    refine zAq (fun nn_ σ W3=>∃(i:Nat) (L:List Re) (la:Option Addr) (lc:Nat) (T:Nat→Prop) (vs:List Value) (ah:List (List Int)) (na:Option Addr) (nc:Nat),(∃jj_,σ=zCH jj_ [(7,(.slice ca cs.length cc)),(11,(I6 (i:Int))),(9,(.slice la L.length lc)),(10,(.slice na i nc))])∧Chg zAo w0 W3∧Chg zAo bo W3∧Blk W3 br (R6 t sa sc aa ac) 25∧(i≤L.length)∧(ListR S z0 n1 W3 (.slice la L.length lc) L T)∧(LSt zXe TDI 1 W3 n1 (.slice na i nc) vs (ah.map zPO))∧(ah.length=i)∧(zCl cs t i=(L,ah))∧(∀j,j<i→¬zIu cs t j)∧(∀b,LB (.slice na i nc) vs b→¬T b∧(Value.slice la L.length lc).ownBlock≠some b)∧(Fam t L)∧(zRm cs i L)∧(L.length≤200)∧(n1≤W3.heap.size)∧nn_=201 - i) (n:=201 - 0) ?_ ?_
    · exact ⟨0,[M],some ⟨bq,0,none⟩,1,(fun b=>(S b∨z0≤b)∧b<n1),[],[],none,0,zBA.out ⟨rfl,rfl,rfl,rfl,trivial⟩,E,E2,Br,Nat.zero_le _,da,LSt.start _ _ _ _ _,rfl,(by rw[hM];rfl),(fun j h=>absurd h (Nat.not_lt_zero _)),(fun b h=>by rcases h with h|⟨i,v,h,_⟩;cases h;simp at h),c8,(fun j x h=>absurd h (Nat.not_lt_zero _)),qP,cz,rfl⟩
    · clear E E2 Br;rintro _ _ W3 ⟨i,L,la,lc,T,vs,ah,na,nc,⟨j3,rfl⟩,E,E2,Br,hi,bh,hX,b7,bn,d8,hA,c1,c2,dk,b4,rfl⟩;refine zAK (zAA (qM _ rfl (qM _ rfl (qV (zAM underlying23 rfl) (qV (zBH rfl rfl) (zAB (qC rfl (fun ex=>?_) (fun ex=>?_))))))))
      · obtain ⟨x,hx⟩:=zAU (l:=L) (i:=i) qO;obtain ⟨cr,ek⟩:=c1.ok x (List.mem_of_getElem? hx);have d2:=fun b (h:LB (.slice na i nc) vs b)=>(hX.ltB h).2;have eh:=fun b h=>(bh.lt b h).2;have fg:=fun b h=>(bh.t b h).2;have ei:=b4;refine zAP (zAC (zAK (zAT (zAA (qM _ rfl (qV (zAM underlying50 rfl) (zTY (n:=cs.length) (z:=(I6 0)) (bytes:=8) qD underlying26 zAv zPA zFB rfl rfl rfl qO qO ?_)))))));intro bm wm Nm;have Fm:=Nm.ge E;have Fm_E2:=Nm.ge E2;have Om_br:=Nm.lt Br;replace Br:=Nm.keep Br;replace bh:=bh.ext Nm.ext;replace hX:=hX.ext Nm.ext;replace b4:=Nat.le_trans b4 Nm.ext.size;replace E:=E.ext Nm.ext;have Bm:=Nm.blk;replace E2:=E2.ext Nm.ext;refine qA _ rfl (zAB (zAK (zAA (qM _ rfl (qV (zAM underlying50 rfl) (qM _ rfl (zAB (zAT ?_))))))));have bp:n1≤bm:=by have:=Nm.eq;omega
        have b5:∀b,LB (.slice na i nc) vs b→b≠bm:=fun b hb e=>by have:=d2 b hb;have:=Nm.eq;omega
        refine zAq (fun nn_ σ W5=>∃(k:Nat) (L1:List Re) (lb:Option Addr) (ld:Nat) (T1:Nat→Prop) (ar:List Int),(∃jj_,σ=zCH jj_ [(7,(.slice ca cs.length cc)),(10,(.slice na i nc)),(11,(I6 (i:Int))),(12,(.slice (some ⟨bm,0,none⟩) cs.length cs.length)),(42,(.slice ca cs.length cc)),(43,(I6 (cs.length:Int))),(44,(I6 (k:Int))),(9,(.slice lb L1.length ld))])∧Chg zAo w0 W5∧Chg zAo bo W5∧Blk W5 br (R6 t sa sc aa ac) 25∧Blk W5 bm ((zSC cs.length ar).toArray) 3∧(k≤cs.length)∧(zCp (cs.take k) x L=(L1,ar))∧(L1[i]?=some x)∧(ListR S z0 n1 W5 (.slice lb L1.length ld) L1 T1)∧(LSt zXe TDI 1 W5 n1 (.slice na i nc) vs (ah.map zPO))∧(∀b,(b=bm∨LB (.slice na i nc) vs b)→¬T1 b∧(Value.slice lb L1.length ld).ownBlock≠some b)∧(Fam t L1)∧(zRm cs i L1)∧(∀cl∈cs.take k,zMC cl x L1)∧(L1.length≤200)∧(n1≤W5.heap.size∧bm<W5.heap.size)∧nn_=cs.length - k) (n:=cs.length - 0) ?_ ?_
        · exact ⟨0,L,la,lc,T,[],zBA.out ⟨rfl,rfl,rfl,rfl,rfl,rfl,rfl,rfl,trivial⟩,E,E2,Br,Bm,Nat.zero_le _,rfl,hx,bh,hX,(fun b hb=>by rcases hb with rfl|hb;exact ⟨fun h=>by have:=fg _ h;have:=Nm.eq;omega,fun h=>by have:=eh _ h;have:=Nm.eq;omega⟩;exact hA b hb),c1,c2,qP,dk,⟨b4,Bm.lt⟩,rfl⟩
        · clear E E2 Br Bm;rintro _ _ W5 ⟨k,L1,lb,ld,T1,ar,⟨j5,rfl⟩,E,E2,Br,Bm,hk,ap,a4,ab,ae,au,bl,cf,bg,b9,c9,rfl⟩;refine zAA (qV (zBH rfl rfl) (zAB (zAK (qC rfl (fun dd=>?_) (fun dd=>?_)))))
          · have a5:ar.length=k:=by have h:=zHQ (x:=x) (L:=L) hk;rw[ap] at h;exact h
            obtain ⟨rv,ax⟩:∃rv,rv=zSC cs.length ar:=⟨_,rfl⟩;have ep:rv.length=cs.length:=by rw[ax];exact zSB qO
            rw[←ax] at Bm;obtain ⟨cl,aq⟩:=zAU (l:=cs) (i:=k) qO;have bz:=List.mem_of_getElem? aq;obtain ⟨bc,hlo,hhi⟩:=ed cl bz;obtain ⟨b2,o2,rfl,ec⟩:=zBz bw qO;obtain ⟨ra,rc,bk,c0⟩:=ec k cl aq;obtain ⟨b3,o3,rfl,eb⟩:=zBN c0 (List.length_pos_iff.2 bc);obtain ⟨s0,fi,e9⟩:∃s0,cl[0]?=some s0∧zBl cl=s0.1:=by
              cases cl with
              | nil=>exact absurd rfl bc
              | cons s l=>exact ⟨s,rfl,rfl⟩
            have d5:=List.length_pos_iff.2 bc;obtain ⟨D,hD⟩:∃D,D=zBK (zBl cl) x:=⟨_,rfl⟩;have af:=zIb (x:=x) (L:=L) aq;rw[ap] at af;unfold zDc at af;rw[←hD] at af;simp only at af;have ez:D=zBK s0.1 x:=by rw[hD,e9]
            have e6:zAz D:=by rw[hD];exact zDZ _ cr
            have hDz:D.size≤200000:=by rw[hD];exact zCu cr ek
            obtain ⟨lg,rfl,xs,ej,dt⟩:=ab.at a4;have co:=zAa a4;have c5:=dt;obtain ⟨c6,de,ck,cv,rfl,_,_,_⟩:=dt.form;obtain ⟨nw,hnw⟩:∃n,n=(W5).heap.size:=⟨_,rfl⟩;have ao:=fun b h=>(ab.t b h).2;have av:=fun b h=>(ab.lt b h).2;have aw:=fun b (h:LB (.slice na i nc) vs b)=>(ae.ltB h).2;refine zAP (zAC (zAK (zAT (zAA (qM _ rfl (qV (zAH (b:=b2) (o:=o2) (len:=cs.length) (cap:=cc) (i:=k) (o':=o2+k) rfl rfl rfl underlying50 zBm qO qO) (qV (zAL rfl zBe (E2.cell (fun f=>f) bk)) ?_)))))));have ag:=au bm (.inl rfl);refine qA _ rfl (qA _ rfl (zAB ?_));have e5:w0.heap.size≤W5.heap.size:=E.size;have b6:br<W5.heap.size:=Br.lt;have cb:bm<W5.heap.size:=Bm.lt;refine zAK ?_;obtain ⟨eo,ad⟩:∃Fs:(Nat→Prop)→List Fact,Fs=fun RR=>[.eq (.slice (some ⟨lg,0,none⟩) L1.length ld),.eq (I6 (i:Int)),.eq (.pointer (some ⟨lg,0+i*6,none⟩)),.eq (.agg (R6 x c6 de ck cv)),.eq (.slice (some ⟨b3,o3,none⟩) cl.length rc),.eq (.pointer (some ⟨b3,o3+0*2,none⟩)),.eq (.pointer (some ⟨b3,o3+0*2,none⟩)),.eq (I6 s0.1),.gen (reG RR D) (zBF _ _),.gen (alF 25 #[(I6 0),(.slice none 0 0),(.slice none 0 0),(I6 0),(I6 0),(.bool false)] W5.heap.size) (zET _ _ _),.eq undef]:=⟨_,rfl⟩;refine zIr [true,true,true,true,true,true,true,true,true,true,false] [10] 11 10 [] [49,50,51,52,53,54,55,56,57,15,107] [[],[],[0,1],[2],[],[4],[5],[6],[3,7],[],[]] eo ad (fun b=>T1 b∨nw≤b) (fun y hy=>.inr qO) 9 15 (lo:=W5.heap.size) (Nat.le_refl _) rfl rfl (zUC.mk' zAu rfl) (fun RR=>⟨_,by rw[ad];rfl⟩) (fun n=>by rw[ad];repeat (first|exact Cvs.nil|refine Cvs.same ?_|refine Cvs.cons (fun v w e h=>by first|exact zLF e h|exact zLD e h|exact zHy e h) ?_)) mixed qK qK rfl qK qK qK ?_ ?_ (fun h9=>absurd h9 qD)
            · intro wd X0 RR cu db;refine DagStepsP.cons (fun s' w' X U H=>Or.inl ⟨?_,?_⟩) ?_
              · exact zAD rfl
              · exact zAJ (zAi (U 9 rfl)) (Ext.refl _) rfl
              refine DagStepsP.cons (fun s' w' X U H=>Or.inl ⟨?_,?_⟩) ?_
              · exact zAD rfl
              · exact zAJ (zAi (U 11 rfl)) (Ext.refl _) rfl
              refine DagStepsP.cons (fun s' w' X U H=>Or.inl ⟨?_,?_⟩) ?_
              · exact zAD rfl
              · have es:s' 49=(.slice (some ⟨lg,0,none⟩) L1.length ld):=H 0 rfl 49 (.eq (.slice (some ⟨lg,0,none⟩) L1.length ld)) rfl (by rw[ad];rfl);have ew:s' 50=(.int .i64 ((i:Nat):Int)):=H 1 rfl 50 (.eq (.int .i64 ((i:Nat):Int))) rfl (by rw[ad];rfl);exact zAJ (zAH (i:=i) es ew rfl underlying23 zAO qO qO) (Ext.refl _) rfl
              refine DagStepsP.cons (fun s' w' X U H=>Or.inl ⟨?_,?_⟩) ?_
              · exact zAD rfl
              · have ey:s' 51=(.pointer (some ⟨lg,0+i*6,none⟩)):=H 2 rfl 51 (.eq (.pointer (some ⟨lg,0+i*6,none⟩))) rfl (by rw[ad];rfl);exact zAJ (zAG ey zAc zAO rfl (ej.ext (X0.trans X))) (Ext.refl _) rfl
              refine DagStepsP.cons (fun s' w' X U H=>Or.inl ⟨?_,?_⟩) ?_
              · exact zAD rfl
              · exact zAJ (zAi (U 14 rfl)) (Ext.refl _) rfl
              refine DagStepsP.cons (fun s' w' X U H=>Or.inl ⟨?_,?_⟩) ?_
              · exact zAD rfl
              · have ff:s' 53=(.slice (some ⟨b3,o3,none⟩) cl.length rc):=H 4 rfl 53 (.eq (.slice (some ⟨b3,o3,none⟩) cl.length rc)) rfl (by rw[ad];rfl);exact zAJ (zAH (i:=0) ff rfl rfl underlying22 zBB qO qO) (Ext.refl _) rfl
              refine DagStepsP.cons (fun s' w' X U H=>Or.inl ⟨?_,?_⟩) ?_
              · exact zAD rfl
              · have fa:s' 54=(.pointer (some ⟨b3,o3+0*2,none⟩)):=H 5 rfl 54 (.eq (.pointer (some ⟨b3,o3+0*2,none⟩))) rfl (by rw[ad];rfl);exact zAJ (zAQ fa underlying103 rfl zAv rfl) (Ext.refl _) rfl
              refine DagStepsP.cons (fun s' w' X U H=>Or.inl ⟨?_,?_⟩) ?_
              · exact zAD rfl
              · have fj:s' 55=(.pointer (some ⟨b3,o3+0*2,none⟩)):=H 6 rfl 55 (.eq (.pointer (some ⟨b3,o3+0*2,none⟩))) rfl (by rw[ad];rfl);exact zAJ (zAL fj zAf (((eb 0 s0 fi).ext (Ext.trans E2 (X0.trans X))).at0)) (Ext.refl _) rfl
              refine DagStepsP.cons (fun s' w' X U H=>Or.inl ⟨?_,?_⟩) ?_
              · exact zAD rfl
              · have e7:s' 52=(.agg #[(.int .i64 x.kind),(.slice c6 x.set.length de),(.slice ck x.args.length cv),(.int .i64 x.mn),(.int .i64 x.mx),(.bool x.neg)]):=H 3 rfl 52 (.eq (.agg #[(.int .i64 x.kind),(.slice c6 x.set.length de),(.slice ck x.args.length cv),(.int .i64 x.mn),(.int .i64 x.mx),(.bool x.neg)])) rfl (by rw[ad];rfl);have ef:s' 56=(.int .i64 s0.1):=H 7 rfl 56 (.eq (.int .i64 s0.1)) rfl (by rw[ad];rfl);exact zAs (zAV func60 zTh zTx (zHG e7 ef)) ((zND s0.1 301 qO x _ T1 _ qO cr (zAe.ext (X0.trans X) x c5) (fun y hy=>by have:=ao y hy;have:=X0.size;have:=X.size;omega)).mono (fun r w h=>⟨zBk (S':=fun b=>T1 b∨w'.heap.size≤b) (fun b hb=>by rcases hb with h1|h1;exact cu b (by have:=ao b h1;omega) (.inl h1);exact db b (by have:=X.size;omega)) (by rw[ez];exact h.1),h.2⟩))
              refine DagStepsP.cons (fun s' w' X U H=>Or.inl ⟨?_,?_⟩) ?_
              · exact zAD rfl
              · exact zEk (c:=#[(I6 0),(.slice none 0 0),(.slice none 0 0),(I6 0),(I6 0),(.bool false)]) zAu rfl (by have:=X0.size;have:=X.size;omega)
              refine DagStepsP.tail ?_;exact DagStepsP.nil
            · intro s' w7 RR β X7 U bj hβ H;obtain ⟨ak,an,am,al,e4,aj⟩:=H 8 rfl 57 (.gen (reG RR D) (zBF _ _)) rfl (by rw[ad];rfl);obtain ⟨be,dj,ai,g15⟩:=H 9 rfl 15 (.gen (alF 25 #[(.int .i64 0),(.slice none 0 0),(.slice none 0 0),(.int .i64 0),(.int .i64 0),(.bool false)] W5.heap.size) (zET _ _ _)) rfl (by rw[ad];rfl);have d4:β=be:=by have h9:=dj.symm.trans hβ;simpa using h9.symm
              rw[d4] at bj;clear hβ d4 β;obtain ⟨j7,rfl⟩:=zBA.out (σ:=s') (l:=[(7,(.slice (some ⟨b2,o2,none⟩) cs.length cc)),(9,(.slice (some ⟨lg,0,none⟩) L1.length ld)),(10,(.slice na i nc)),(11,(.int .i64 ((i:Nat):Int))),(12,(.slice (some ⟨bm,0,none⟩) cs.length cs.length)),(13,(.int .i64 ((k:Nat):Int))),(42,(.slice (some ⟨b2,o2,none⟩) cs.length cc)),(43,(.int .i64 ((cs.length:Nat):Int))),(44,(.int .i64 ((k:Nat):Int))),(57,(.agg #[(.int .i64 D.kind),(.slice ak D.set.length an),(.slice am D.args.length al),(.int .i64 D.mn),(.int .i64 D.mx),(.bool D.neg)])),(15,(.pointer (some ⟨be,0,none⟩)))]) ⟨U 7 rfl,U 9 rfl,U 10 rfl,U 11 rfl,U 12 rfl,U 13 rfl,U 42 rfl,U 43 rfl,U 44 rfl,e4,dj,trivial⟩;clear U H;replace Br:=X7.keep Br;replace Bm:=X7.keep Bm;replace ab:=ab.ext X7;replace ae:=ae.ext X7;replace E:=E.ext X7;replace E2:=E2.ext X7;have fd:nw≤be:=qO
              refine zAY (b:=be) (o:=0) (c':=(R6 D ak an am al)) rfl rfl qS zAO rfl ai qL rfl ?_;intro w8 S8;replace ab:=ab.chg S8.chg (fun b hb h=>by have h2:b=_:=h;first|(have:=av b hb;omega)|(subst h2;exact ag.2 hb)) (fun b hb h=>by have h2:b=_:=h;first|(have:=ao b hb;omega)|(subst h2;exact ag.1 hb));replace ae:=ae.chgB S8.chg fun b hb h=>by have h2:b=_:=h;first|(have:=aw b hb;omega)|exact b5 b hb h2
              replace aj:=zAe.chg S8.chg (fun y hy h=>by have h2:y=be:=h;exact (bj y hy).2 h2) _ aj;replace Br:=S8.keep qO Br;replace Bm:=S8.keep qO Bm;replace E:=S8.step E qQ;replace E2:=S8.step E2 (Or.inl qO);replace ai:=S8.blk;refine zAB (zAC (zAK (zAA (qV (zAG (vs:=[(I6 D.kind),(.slice ak D.set.length an),(.slice am D.args.length al),(I6 D.mn),(I6 D.mx),(.bool D.neg)]) rfl zAc zAO rfl (ai.cells rfl)) (qE rfl (zAV func61 zYL zZR rfl) (zPg _ D _ (zAe.at D aj) qO) ?_)))));rintro _ w49 ⟨rfl,a1⟩;replace Br:=a1.keep Br;replace Bm:=a1.keep Bm;replace ai:=a1.keep ai;replace ab:=ab.ext a1;replace ae:=ae.ext a1;replace aj:=zAe.ext a1 D aj;replace E:=E.ext a1;replace E2:=E2.ext a1;refine qV (zCN rfl rfl) (zAB (qC rfl (fun hz=>?_) (fun hz=>?_)))
              · refine zAA (qA _ rfl (qA _ rfl (qA _ rfl (qA _ rfl (zAB (zAR (zAI (zAZ (zAI (zAI (zAZ (zAI (zAZ (zAI (zAI (zAZ (zAI (zGc results79 (v1:=(.slice none 0 0)) (v2:=(.slice none 0 0)) (v3:=(.slice none 0 0)) (v4:=(.int .i64 2)) rfl rfl rfl rfl ?_))))))))))))))))));exact ⟨.inl ⟨rfl,.inr ⟨cs,a6,zFe (k:=0) bn hx (.inl ⟨cl,bz,by rw[←hD];omega⟩)⟩⟩,E⟩
              · have a0:D.size≤300:=qO
                refine zAP (zAC (zAK (zAA (qM _ rfl (qM _ rfl (qV (zAH (b:=bm) (o:=0) (len:=cs.length) (cap:=cs.length) (i:=k) (o':=0+k) rfl rfl rfl underlying26 zAv qO qO) (zBr (b:=bm) (o:=0+k) (c':=(rv.set k (I6 (-1))).toArray) (v:=(I6 (-1))) rfl rfl rfl zAv Bm (by simp;omega) (zXz _) ?_)))))));intro w10 a3;replace ab:=ab.chg a3.chg (fun b hb h=>by have h2:b=_:=h;first|(have:=av b hb;omega)|(subst h2;exact ag.2 hb)) (fun b hb h=>by have h2:b=_:=h;first|(have:=ao b hb;omega)|(subst h2;exact ag.1 hb));replace ae:=ae.chgB a3.chg fun b hb h=>by have h2:b=_:=h;first|(have:=aw b hb;omega)|exact b5 b hb h2
                replace aj:=zAe.chg a3.chg (fun y hy h=>by have h2:y=bm:=h;subst h2;rcases (bj _ hy).1 with h3|h3;exact ag.1 h3;omega) D aj;replace Br:=a3.keep qO Br;replace ai:=a3.keep qO ai;replace E:=a3.step E qQ;replace E2:=a3.step E2 (Or.inl qO);replace Bm:=a3.blk;refine zAB (zAA (qV (zAG (vs:=[(I6 D.kind),(.slice ak D.set.length an),(.slice am D.args.length al),(I6 D.mn),(I6 D.mx),(.bool D.neg)]) rfl zAc zAO rfl (ai.cells rfl)) (qE rfl (zAV func136 zSR zTM rfl) (zGf _ D _ (zAe.at D aj)) ?_)));rintro _ w59 ⟨rfl,a9⟩;replace Br:=a9.keep Br;replace Bm:=a9.keep Bm;replace ai:=a9.keep ai;replace ab:=ab.ext a9;replace ae:=ae.ext a9;replace aj:=zAe.ext a9 D aj;replace E:=E.ext a9;replace E2:=E2.ext a9;refine zAB (zAt rfl (fun bf=>?_) (fun bf=>?_))
                · have cy:=bf;have cp:D.kind=0:=by simpa[zBc] using bf
                  rw[if_pos cp] at af;rw[ax,zKE (-1) a5 qO] at Bm;refine zAp (zAX (zAj (zAC (zAN (qV (zAy rfl rfl (zBV qO)) (qM _ rfl (zAB (zAC ?_))))))));exact ⟨cs.length - (k+1),qO,k+1,L1,some ⟨lg,0,none⟩,ld,T1,ar++[-1],zBA.out ⟨rfl,rfl,rfl,rfl,rfl,rfl,rfl,rfl,trivial⟩,E,E2,Br,Bm,qO,af,a4,ab,ae,au,bl,cf,zIZ aq bg ⟨by rw[←hD];exact a0,.inl (by rw[←hD];simpa[zBc] using bf)⟩,b9,⟨by rw[a8];exact E2.size,Bm.lt⟩,rfl⟩
                · have cy:=bf;have cp:D.kind≠0:=by simpa[zBc] using bf
                  rw[if_neg cp] at af;obtain ⟨dc,az⟩:∃r,r=rv.set k (.int .i64 (-1)):=⟨_,rfl⟩;rw[←az] at Bm;have cj:dc.length=cs.length:=by rw[az];simp[ep]
                  obtain ⟨ix,ct⟩:∃ix,ix=idx (fun y=>zBZ y D) L1:=⟨_,rfl⟩;have b0:=zGB (fun y=>zBZ y D) L1;rw[←ct] at b0;refine zAP (zAC (zAA (qM _ rfl (qM _ rfl (qM _ rfl (qV (zCj rfl rfl) (qE rfl (zAV func82 zXf zXk rfl) ((zGP _ _ _ L1 (fun y=>zBZ y D) (zKC (ab.rs dm)) (fun w y ys hE hm hy=>zCD.mk (first:=#[]) (cap:=#[.pointer (some ⟨be,0,none⟩)]) func137 zYp zZv rfl (zXA w be y D _ _ (hE.keep ai) (zBG.ext hE D (zAe.at D aj)) hy))).mono (R':=fun v w=>v=.int .i64 ix∧Ext _ w) (fun v w h=>⟨by rw[h.1,ct],h.2⟩)) ?_)))))));rintro _ w69 ⟨rfl,a7⟩;replace Br:=a7.keep Br;replace Bm:=a7.keep Bm;replace ai:=a7.keep ai;replace ab:=ab.ext a7;replace ae:=ae.ext a7;replace aj:=zAe.ext a7 D aj;replace E:=E.ext a7;replace E2:=E2.ext a7;refine qV (zAH (b:=bm) (o:=0) (len:=cs.length) (cap:=cs.length) (i:=k) (o':=0+k) rfl rfl rfl underlying26 zAv qO qO) (zBr (b:=bm) (o:=0+k) (c':=(dc.set k (I6 ix)).toArray) (v:=(I6 ix)) rfl rfl rfl zAv Bm (by simp;omega) (zXz _) ?_);intro w12 ba;replace ab:=ab.chg ba.chg (fun b hb h=>by have h2:b=_:=h;first|(have:=av b hb;omega)|(subst h2;exact ag.2 hb)) (fun b hb h=>by have h2:b=_:=h;first|(have:=ao b hb;omega)|(subst h2;exact ag.1 hb));replace ae:=ae.chgB ba.chg fun b hb h=>by have h2:b=_:=h;first|(have:=aw b hb;omega)|exact b5 b hb h2
                  replace aj:=zAe.chg ba.chg (fun y hy h=>by have h2:y=bm:=h;subst h2;rcases (bj _ hy).1 with h3|h3;exact ag.1 h3;omega) D aj;replace Br:=ba.keep qO Br;replace ai:=ba.keep qO ai;replace E:=ba.step E qQ;replace E2:=ba.step E2 (Or.inl qO);replace Bm:=ba.blk;refine zAB (zAA (qM _ rfl (qM _ rfl (qV (zAH (b:=bm) (o:=0) (len:=cs.length) (cap:=cs.length) (i:=k) (o':=0+k) rfl rfl rfl underlying26 zAv qO qO) (qV (zAL (v:=(I6 ix)) rfl zAf (Bm.cell (getV qO))) (qV (zBH rfl rfl) (zAB (qC rfl (fun ch=>?_) (fun ch=>?_)))))))))
                  · have c7:(L1.any fun y=>zBZ y D)=false:=by rw[←b0];exact decide_eq_false qO
                    rw[if_neg (by rw[c7];decide)] at af;have cm:D∉L1:=fun hm=>by
                      have h1:(L1.any fun y=>zBZ y D)=true:=List.any_eq_true.2 ⟨D,hm,(zBP D D).2 rfl⟩;rw[h1] at b0;have h2:=of_decide_eq_true b0;omega
                    obtain ⟨d0,bb⟩:∃r,r=dc.set k (.int .i64 ix):=⟨_,rfl⟩;rw[←bb] at Bm;have fe:d0.length=cs.length:=by rw[bb];simp[cj]
                    refine zAA (qM _ rfl (qM _ rfl (qM _ rfl (qV (zAM underlying23 rfl) (qV (zAH (b:=bm) (o:=0) (len:=cs.length) (cap:=cs.length) (i:=k) (o':=0+k) rfl rfl rfl underlying26 zAv qO qO) (zBr (b:=bm) (o:=0+k) (c':=(d0.set k (I6 ((L1.length:Int)))).toArray) (v:=(I6 (L1.length:Int))) rfl rfl rfl zAv Bm (by simp;omega) (zXz _) ?_))))));intro w14 a2;replace ab:=ab.chg a2.chg (fun b hb h=>by have h2:b=_:=h;first|(have:=av b hb;omega)|(subst h2;exact ag.2 hb)) (fun b hb h=>by have h2:b=_:=h;first|(have:=ao b hb;omega)|(subst h2;exact ag.1 hb));replace ae:=ae.chgB a2.chg fun b hb h=>by have h2:b=_:=h;first|(have:=aw b hb;omega)|exact b5 b hb h2
                    replace aj:=zAe.chg a2.chg (fun y hy h=>by have h2:y=bm:=h;subst h2;rcases (bj _ hy).1 with h3|h3;exact ag.1 h3;omega) D aj;replace Br:=a2.keep qO Br;replace ai:=a2.keep qO ai;replace E:=a2.step E qQ;replace E2:=a2.step E2 (Or.inl qO);replace Bm:=a2.blk;refine zAB (zAA (qM _ rfl (qV (zAG (vs:=[(I6 D.kind),(.slice ak D.set.length an),(.slice am D.args.length al),(I6 D.mn),(I6 D.mx),(.bool D.neg)]) rfl zAc zAO rfl (ai.cells rfl)) (zAh (ps:=[(0,(.agg (R6 D ak an am al)))]) (c:=(R6 D ak an am al)) qD rfl underlying23 zAO zAu qD qD qK ?_))));intro bu wu Nu;have Fu:=Nu.ge E;have Fu_E2:=Nu.ge E2;have Ou_br:=Nu.lt Br;have Ou_bm:=Nu.lt Bm;have Ou_b15:=Nu.lt ai;replace Br:=Nu.keep Br;replace Bm:=Nu.keep Bm;replace ai:=Nu.keep ai;replace ab:=ab.ext Nu.ext;replace ae:=ae.ext Nu.ext;replace aj:=zAe.ext Nu.ext D aj;replace E:=E.ext Nu.ext;have Bu:=Nu.blk;replace E2:=E2.ext Nu.ext;have er:=ai.lt;obtain ⟨bv,ce,e2⟩:=ab.o;refine zBC (base:=n1) (n:=L1.length) (m:=1) (xs:=bv.flatten) (news:=[(I6 D.kind),(.slice ak D.set.length an),(.slice am D.args.length al),(I6 D.mn),(I6 D.mx),(.bool D.neg)]) (size:=6) (bytes:=80) (v:=(.slice (some ⟨lg,0,none⟩) L1.length ld)) qD underlying23 zAO zEu zAu rfl qD rfl ce rfl (rfl) (Bu.cells rfl) qS (by unfold maxLen;omega) qO (by rw[a8];exact E2.size) ?_;intro v9 w79 dw bi d6;replace Br:=bi.keep (fun h=>by have:=(ce.lt _ h).1;omega) Br;replace Bm:=bi.keep (fun h=>ag.2 h) Bm;replace E:=E.step bi (fun x hx h=>absurd (ce.lt x h).1 qO);replace E2:=E2.step bi (fun x hx h=>absurd (ce.lt x h).1 qO);obtain ⟨dy,dz,rfl⟩:=zAw dw;have e1:nw≤wu.heap.size:=qO
                    have bd:=ab.push (n0:=nw) (x:=D) e2 (zAe.mono (fun b hb=>(bj b hb.1).1.imp id (fun h=>⟨h,hb.2⟩)) D (zAe.lt D aj)) (fun b h=>by have:=av b h;omega) qO dw bi d6;have cg:=ae.chgB bi (fun b hb h=>(au b (.inr hb)).2 h);have cd:∀b,(b=bm∨LB (.slice na i nc) vs b)→¬(T1 b∨(nw≤b∧b<wu.heap.size))∧(Value.slice dy (L1.length+1) dz).ownBlock≠some b:=fun b hb=>by
                      have hbw:b<nw:=by
                        rcases hb with rfl|hb
                        · have:=c9.2;omega
                        · have:=aw b hb;omega
                      refine ⟨fun h=>?_,fun h=>?_⟩
                      · rcases h with h|h
                        · exact (au b hb).1 h
                        · omega
                      · rcases d6 b h with h|h
                        · exact (au b hb).2 h
                        · omega
                    refine qA _ rfl (zAB (zAA (qM _ rfl (qV (zAM underlying23 rfl) (qV (zCN rfl rfl) (zAB (qC rfl (fun cw=>?_) (fun cw=>?_))))))))
                    · refine zAA (qA _ rfl (qA _ rfl (qA _ rfl (qA _ rfl (zAB (zAR (zAZ (zAI (zAI (zAZ (zAI (zAZ (zAI (zAI (zAZ (zAI (zGc results79 (v1:=(.slice none 0 0)) (v2:=(.slice none 0 0)) (v3:=(.slice none 0 0)) (v4:=(.int .i64 2)) rfl rfl rfl rfl ?_)))))))))))))))));exact ⟨.inl ⟨rfl,.inr ⟨cs,a6,zFe (k:=k+1) bn hx (.inr (by rw[af];simp;omega))⟩⟩,E⟩
                    · have du:(L1++[D]).length=L1.length+1:=qP
                      rw[←du] at cd⊢;rw[bb,az,List.set_set,List.set_set,ax,zKE _ a5 qO] at Bm;refine zAP (zAS (zAC (zAN (qV (zAy rfl rfl (zBV qO)) (qM _ rfl (zAB (zAC ?_)))))));exact ⟨cs.length - (k+1),qO,k+1,L1++[D],dy,dz,(fun b=>T1 b∨(nw≤b∧b<wu.heap.size)),ar++[((L1.length:Nat):Int)],zBA.out ⟨rfl,rfl,rfl,rfl,rfl,rfl,rfl,rfl,trivial⟩,E,E2,Br,Bm,qO,af,(by rw[List.getElem?_append_left co];exact a4),(by rw[du];exact bd),cg,cd,bl.push ⟨e6,a0⟩ cm (fun P hP=>by rw[hD];exact zGm _ (bl.cl P hP x (List.mem_of_getElem? a4))),cf.push qO,zIZ aq (fun c hc=>(bg c hc).push) ⟨by rw[←hD];exact a0,.inr (by rw[←hD];simp)⟩,qO,⟨by rw[a8];exact E2.size,Bm.lt⟩,rfl⟩
                  · have dl:D∈L1:=by
                      have h1:(L1.any fun y=>zBZ y D)=true:=by rw[←b0];exact decide_eq_true qO
                      obtain ⟨y,hy,h2⟩:=List.any_eq_true.1 h1;rw[←(zBP y D).1 h2];exact hy
                    rw[if_pos (show (L1.any fun y=>zBZ y D)=true from List.any_eq_true.2 ⟨D,dl,(zBP D D).2 rfl⟩),←ct] at af;rw[az,List.set_set,ax,zKE _ a5 qO] at Bm;refine zAP (zAS (zAC (zAN (qV (zAy rfl rfl (zBV qO)) (qM _ rfl (zAB (zAC ?_)))))));exact ⟨cs.length - (k+1),qO,k+1,L1,some ⟨lg,0,none⟩,ld,T1,ar++[ix],zBA.out ⟨rfl,rfl,rfl,rfl,rfl,rfl,rfl,rfl,trivial⟩,E,E2,Br,Bm,qO,af,a4,ab,ae,au,bl,cf,zIZ aq bg ⟨by rw[←hD];exact a0,.inr (by rw[←hD];exact dl)⟩,b9,⟨by rw[a8];exact E2.size,Bm.lt⟩,rfl⟩
          · have dq:k=cs.length:=qO
            have a5:ar.length=k:=by have h:=zHQ (x:=x) (L:=L) hk;rw[ap] at h;exact h
            rw[dq,List.take_length] at bg ap;rw[dq] at a5;have b1:=zHP bn hx;rw[ap] at b1;have ci:∀j,j<i+1→¬zIu cs t j:=fun j hj=>by
              rcases Nat.lt_or_ge j i with h|h
              · exact d8 j h
              · obtain rfl:j=i:=qO
                exact zJk bn hx (fun cl hc=>(bg cl hc).1) (by rw[ap];exact b9)
            rw[zPs a5] at Bm;have bs:n1≤bm∧∀b,LB (.slice na i nc) vs b→b<bm:=⟨bp,fun b hb=>by have:=d2 b hb;have:=Nm.eq;omega⟩;have em:=cf.next a4 bg;have hi1:=zAa a4;refine zAp (zAX (zAX (zAj (zAC (zAN (qM _ rfl (qM _ rfl (zAh (ps:=[(0,(.slice (some ⟨bm,0,none⟩) cs.length cs.length))]) (c:=#[(.slice (some ⟨bm,0,none⟩) cs.length cs.length)]) qD rfl underlying47 zEX zRo qD qD qK ?_))))))));intro bu wu Nu;have Fu:=Nu.ge E;have Fu_E2:=Nu.ge E2;have Ou_br:=Nu.lt Br;have Ou_bm:=Nu.lt Bm;replace Br:=Nu.keep Br;replace Bm:=Nu.keep Bm;replace ab:=ab.ext Nu.ext;replace ae:=ae.ext Nu.ext;replace E:=E.ext Nu.ext;have Bu:=Nu.blk;replace E2:=E2.ext Nu.ext;have b8:=ae.on (n:=i) (by simp[b7]);have fb:=zQG Bm (Nat.le_refl bm) a5;refine zBC (base:=n1) (n:=i) (m:=1) (xs:=vs) (news:=[(.slice (some ⟨bm,0,none⟩) cs.length cs.length)]) (size:=1) (bytes:=24) (v:=(.slice na i nc)) qD underlying47 zEX zXI zRo rfl qD rfl b8 rfl (rfl) (Bu.cells rfl) qS (by unfold maxLen;omega) qO (by rw[a8];exact E2.size) ?_;intro v8 w89 d7 bx dr;replace Br:=bx.keep (fun h=>by have:=(b8.lt _ h).1;omega) Br;replace E:=E.step bx (fun x hx h=>absurd (b8.lt x h).1 qO);replace E2:=E2.step bx (fun x hx h=>absurd (b8.lt x h).1 qO);obtain ⟨d1,d9,rfl⟩:=zAw d7;have bd:=ab.chg bx (fun b hb h=>(au b (.inr (.inl h))).2 hb) (fun b hb h=>(au b (.inr (.inl h))).1 hb);have cg:=ae.push (n:=i) (by simp[b7]) fb bs.1 (fun b hb=>bs.2 b (.inl hb)) d7 bx dr;have cd:∀b,LB (.slice d1 (i+1) d9) (vs++[.slice (some ⟨bm,0,none⟩) cs.length cs.length]) b→¬T1 b∧(Value.slice lb L1.length ld).ownBlock≠some b:=fun b hb=>by
              rcases LB.push (vo:=.slice na i nc) hb with hb|hb|hb
              · rcases dr b hb with h|h
                · exact au b (.inr (.inl h))
                · exact ⟨fun h2=>by have:=(ab.t b h2).2;omega,fun h2=>by have:=(ab.lt b h2).2;omega⟩
              · exact au b (.inl (by simpa[Value.ownBlock] using hb.symm))
              · exact au b (.inr hb)
            rw[show (ah.map zPO++[(cs.length,ar.map (Value.int .i64))])=(ah++[ar]).map zPO by simp[zPO,a5]] at cg;refine qA _ rfl (zAB (zAS (zAC (zAN (qM _ rfl (qV (zAy rfl rfl (zBV qO)) (qA _ rfl (zAB (zAC ?_)))))))));exact ⟨201 - (i+1),qO,i+1,L1,lb,ld,T1,vs++[.slice (some ⟨bm,0,none⟩) cs.length cs.length],ah++[ar],d1,d9,zBA.out ⟨rfl,rfl,rfl,rfl,trivial⟩,E,E2,Br,qO,bd,cg,(by simp[b7]),b1,ci,cd,bl,em,b9,(by rw[a8];exact E2.size),rfl⟩
      · have dn:i=L.length:=qO
        rw[dn] at c2;have dp:zEP z0 (W3) (.slice na i nc) ah:=fun M w' C hM=>(hX.chg C fun b h1 _ h2=>by have:=hM b h2;omega).intss;have c3:zEw cs t L ah:=⟨i,bn,dn,d8⟩;refine zAp (zAX (zAX (zAj (zAC (zAA (qM _ rfl (qM _ rfl (qM _ rfl (qA _ rfl (qA _ rfl (qA _ rfl (qA _ rfl (zAB (zAR (zGc results79 (v1:=(.slice la L.length lc)) (v2:=(.slice ca cs.length cc)) (v3:=(.slice na i nc)) (v4:=(.int .i64 0)) rfl rfl rfl rfl ?_)))))))))))))));rw[←b7] at dp⊢;exact ⟨.inr ⟨L,cs,ah,la,lc,_,_,na,nc,rfl,bh.rs dm,c1,c2,a6,bw.ext E2,dp,c3,dk⟩,E⟩
end Go.Proofs
namespace Go.Proofs
open Go Go.Eng Go.Sort
set_option maxRecDepth 100000
/-- What the family is: an error, or the derivatives with their rows. -/
def zGt (t:Re) (e:Int) (L:List Re) (cs:List (List Sp)) (rows:List (List Int)):Prop:=
 (L=[]∧cs=[]∧rows=[]∧e≠0∧((zDW t≠0∧e=zDW t)∨(zDW t=0∧e=2∧((∃out,zJp (zCe t) out 2)∨∃c,zJp (zCe t) c 0∧zHk c t))))∨
  (e=0∧zDW t=0∧Fam t L∧zRm cs L.length L∧zJp (zCe t) cs 0∧zEw cs t L rows)
def zRd (S:Nat→Prop) (z0:Nat) (t:Re) (v:Value) (w:World):Prop:=
 ∃(e:Int) (L:List Re) (cs:List (List Sp)) (rows:List (List Int)) (la:Option Addr) (lc:Nat) (ca:Option Addr) (cc:Nat) (na:Option Addr) (nc:Nat),v=.tuple #[.slice la L.length lc,.slice ca cs.length cc,.slice na rows.length nc,.int .i64 e]∧
  zCU (fun b=>S b∨z0≤b) w (.slice la L.length lc) L∧zBy w (.slice ca cs.length cc) cs∧zEP z0 w (.slice na rows.length nc) rows∧L.length≤200∧(∀x∈L,zAz x∧x.size≤300)∧zGt t e L cs rows
theorem zIX (w:World):zDO w (.slice none 0 0) []:=⟨[],zBq.nil _ _ _ _,rfl,fun i u l h=>by simp at h⟩
theorem zNu {S:Nat→Prop} {z0:Nat} {t:Re} {w:World} {e:Int} (he:e≠0) (h:(zDW t≠0∧e=zDW t)∨(zDW t=0∧e=2∧((∃out,zJp (zCe t) out 2)∨∃c,zJp (zCe t) c 0∧zHk c t))):zRd S z0 t (.tuple #[.slice none 0 0,.slice none 0 0,.slice none 0 0,.int .i64 e]) w:=
 ⟨e,[],[],[],none,0,none,0,none,0,rfl,⟨none,0,rfl,qP,.inl rfl⟩,zDP w,fun _ _ _ _=>zIX _,qP,qP,.inl ⟨rfl,rfl,rfl,he,h⟩⟩
theorem zSn (w0:World) (t:Re) (vs:List Value) (ht:zBG w0 t vs) (hc:zDW t≠0) :
  Ret prog 79 #[.agg vs.toArray] w0 fun v w=>v=.tuple #[.slice none 0 0,.slice none 0 0,.slice none 0 0,.int .i64 (zDW t)]∧Ext w0 w:=by
 have ad:=ht;obtain ⟨sa,sc,aa,ac,rfl,_,_,_⟩:=ht.form;refine qR func79 rfl ntmps79 rfl (fun E=>(zAA (zBL (v:=(.agg (R6 t sa sc aa ac))) (c:=(R6 t sa sc aa ac)) qD rfl rfl ?_)));intro br wr Nr;have Fr:=Nr.ge E;replace E:=E.ext Nr.ext;have Br:=Nr.blk;refine qA _ rfl (qA _ rfl (qA _ rfl (qA _ rfl (zAB (zAK (zAA (qV (zAG (vs:=[(I6 t.kind),(.slice sa t.set.length sc),(.slice aa t.args.length ac),(I6 t.mn),(I6 t.mx),(.bool t.neg)]) rfl zAc zAO rfl (Br.cells rfl)) (qE rfl (zAV func14 zXj zXo rfl) (zNx _ t _ (zBG.ext E t ad)) ?_))))))));rintro _ w9 ⟨rfl,X9⟩;replace Br:=X9.keep Br;replace E:=E.ext X9;refine qA _ rfl (zAB (zAA (qM _ rfl (qV (zBo rfl rfl) (zAB ?_)))));have ab:(decide ((zDW t:Int)≠0))=true:=by simp[hc]
 refine zAl (cbk ab) (zAA (qM _ rfl (qA _ rfl (qA _ rfl (qA _ rfl (qA _ rfl (zAB (zAR (zAI (zGc results79 (v1:=(.slice none 0 0)) (v2:=(.slice none 0 0)) (v3:=(.slice none 0 0)) (v4:=(.int .i64 (zDW t))) rfl rfl rfl rfl ?_))))))))));exact ⟨rfl,E⟩
theorem zLf (w0:World) (S:Nat→Prop) (t:Re) (vs:List Value) (ht:zAe S w0 t vs) (hS:∀x,S x→x<w0.heap.size) :
  Ret prog 79 #[.agg vs.toArray] w0 fun v w=>zRd S w0.heap.size t v w∧Ext w0 w:=by
 by_cases hc:zDW t=0
 ·refine (zQt w0 S t vs ht hS hc).mono fun v w h=>⟨?_,h.2⟩;rcases h.1 with ⟨rfl,h1⟩|⟨L,cs,aa,la,lc,ca,cc,na,nc,rfl,h1,h2,h3,h4,h5,h6,h7,h8⟩
  ·exact zNu qD (.inr ⟨hc,rfl,h1⟩)
  ·exact ⟨0,L,cs,aa,la,lc,ca,cc,na,nc,rfl,h1,h5,h6,h8,h2.ok,.inr ⟨rfl,hc,h2,h3,h4,h7⟩⟩
 ·refine (zSn w0 t vs (zAe.at t ht) hc).mono fun v w h=>⟨?_,h.2⟩;rw[h.1];exact zNu hc (.inl ⟨hc,rfl⟩)
def zVu (t:Re) (v:Value) (w:World):Prop:=∃(e:Int) (L:List Re) (cs:List (List Sp)) (rows:List (List Int)) (la:Option Addr) (lc:Nat),v=.tuple #[.slice la L.length lc,.int .i64 e]∧zIs w (.slice la L.length lc) L∧L.length≤200∧zGt t e L cs rows
theorem zVQ (w0:World) (S:Nat→Prop) (t:Re) (vs:List Value) (ht:zAe S w0 t vs) (hS:∀x,S x→x<w0.heap.size) :
  Ret prog 23 #[.agg vs.toArray] w0 fun v w=>zVu t v w∧Ext w0 w:=by
 have a8:=ht;obtain ⟨sa,sc,aa,ac,rfl,bd,a5,ax⟩:=ht.form;refine qR func23 rfl ntmps23 rfl (fun E=>(zAA (zBL (v:=(.agg (R6 t sa sc aa ac))) (c:=(R6 t sa sc aa ac)) qD rfl rfl ?_)));intro br wr Nr;have Fr:=Nr.ge E;replace E:=E.ext Nr.ext;have Br:=Nr.blk;refine qA _ rfl (qA _ rfl (zAB (zAA (qV (zAG (vs:=[(I6 t.kind),(.slice sa t.set.length sc),(.slice aa t.args.length ac),(I6 t.mn),(I6 t.mx),(.bool t.neg)]) rfl zAc zAO rfl (Br.cells rfl)) (qE rfl (zAV func79 zaU zah rfl) (zLf _ S t _ (zAe.ext E t a8) (fun y hy=>by have:=hS y hy;have:=E.size;omega)) ?_)))));rintro _ w9 ⟨⟨e,L,cs,ao,la,lc,ca,cc,na,nc,rfl,bf,_,_,a4,a2,ah⟩,X9⟩;replace Br:=X9.keep Br;replace E:=E.ext X9;have E2:Chg zAo w9 w9:=Chg.refl _ _;obtain ⟨n1,aj⟩:∃n,n=(w9).heap.size:=⟨_,rfl⟩;have a7:br<n1:=by rw[aj];exact Br.lt
 have hn0:w0.heap.size≤n1:=by rw[aj];exact E.size
 refine qM _ rfl (qV (zBM rfl rfl) (qV (zBM rfl rfl) (qV (zBM rfl rfl) (qV (zBM rfl rfl) (qA _ rfl (qA _ rfl (qA _ rfl (qA _ rfl (zAB (zAA (qA _ rfl (zAB (zAK (zAA (qM _ rfl (qV (zAM underlying23 rfl) (qM _ rfl ?_)))))))))))))))));refine zAB (zAT (zAq (fun nn_ σ W1=>∃(k:Nat) (oa:Option Addr) (oc:Nat) (T:Nat→Prop),(∃jj_,σ=zCH jj_ [(7,(I6 e)),(18,(.slice la L.length lc)),(19,(I6 (L.length:Int))),(20,(I6 (k:Int))),(8,(.slice oa ((L.take k).length) oc))])∧Chg zAo w0 W1∧Chg zAo w9 W1∧Blk W1 br (R6 t sa sc aa ac) 25∧(k≤L.length)∧(ListR (fun _=>False) n1 n1 W1 (.slice oa (L.take k).length oc) (L.take k) T)∧nn_=L.length - k) (n:=L.length - 0) ?_ ?_))
 ·exact ⟨0,none,0,(fun _=>False),zBA.out ⟨rfl,rfl,rfl,rfl,rfl,trivial⟩,E,E2,Br,Nat.zero_le _,⟨⟨[],World.ownsRow_nil _ _ _ _,rfl⟩,fun y f=>f.elim,fun b h=>by cases h⟩,rfl⟩
 ·clear E E2 Br;rintro _ _ W1 ⟨k,oa,oc,T,⟨j1,rfl⟩,E,E2,Br,hk,ab,rfl⟩;refine zAA (qV (zBH rfl rfl) (zAB (zAK (qC rfl (fun bh=>?_) (fun bh=>?_)))))
  ·obtain ⟨x,hx⟩:=zAU (l:=L) (i:=k) qO;obtain ⟨b,o,rfl,bc⟩:=zCU.cells bf qO;obtain ⟨xs,a6,au⟩:=bc k x hx;have al:=au;obtain ⟨an,ap,am,ar,rfl,_,_,_⟩:=au.form;obtain ⟨a9,hxz⟩:=a2 x (List.mem_of_getElem? hx);have htl:(L.take k).length=k:=by rw[List.length_take];omega
   have bg:=fun b h=>(ab.lt b h).2;refine zAP (zAC (zAK (zAT (zAA (qV (zAH (b:=b) (o:=o) (len:=L.length) (cap:=lc) (i:=k) (o':=o+k*6) rfl rfl rfl underlying23 zAO qO qO) (qV (zAG rfl zAc zAO rfl (a6.ext E2)) (zAg (v:=(.agg (R6 x an ap am ar))) (c:=(R6 x an ap am ar)) (n:=6) qD zAu rfl zAO rfl rfl rfl qS ?_)))))));intro bz wz Nz;have Fz:=Nz.ge E;have Fz_E2:=Nz.ge E2;have Oz_br:=Nz.lt Br;replace Br:=Nz.keep Br;replace ab:=ab.ext Nz.ext;replace E:=E.ext Nz.ext;have Bz:=Nz.blk;replace E2:=E2.ext Nz.ext;refine zAB (zAN (qM _ rfl (qV (zAG (vs:=[(I6 x.kind),(.slice an x.set.length ap),(.slice am x.args.length ar),(I6 x.mn),(I6 x.mx),(.bool x.neg)]) rfl zAc zAO rfl (Bz.cells rfl)) ?_)));obtain ⟨nw,a0⟩:∃n,n=wz.heap.size:=⟨_,rfl⟩;have hzn:bz<nw∧n1≤nw:=⟨by rw[a0];exact Bz.lt,by rw[a0,aj];exact E2.size⟩;refine qE rfl (zAV func57 zYM zZS rfl) ((zTt x.size x _ _ (Nat.le_refl _) qO (zKL x (zEY a9).1) (zAe.at x (zAe.ext E2 x al))).mono (R':=fun v w=>reG (fun b=>nw≤b) x v w∧Ext wz w) (fun v w h=>by obtain ⟨⟨us,Z,L9,h1,a1,hZL,ad⟩,h3⟩:=h;exact ⟨zBk (S':=fun b=>nw≤b) (fun b hb=>hb) ⟨us,h1,zHz (fun y hy=>by have:=(ad y (.inl hy)).1;omega) x a1 (fun y hy=>by have:=(ad y (.inr hy)).1;omega)⟩,h3⟩)) ?_;rintro _ w59 ⟨⟨fa,fc,ga,gc,rfl,aq⟩,ag⟩;replace Br:=ag.keep Br;replace Bz:=ag.keep Bz;replace ab:=ab.ext ag;replace E:=E.ext ag;replace E2:=E2.ext ag;refine zAh (ps:=[(0,(.agg (R6 x fa fc ga gc)))]) (c:=(R6 x fa fc ga gc)) qD rfl underlying23 zAO zAu qD qD qK ?_;intro bu wu Nu;have Fu:=Nu.ge E;have Fu_E2:=Nu.ge E2;have Ou_br:=Nu.lt Br;have Ou_bz:=Nu.lt Bz;replace Br:=Nu.keep Br;replace Bz:=Nu.keep Bz;replace ab:=ab.ext Nu.ext;replace aq:=zAe.ext Nu.ext x aq;replace E:=E.ext Nu.ext;have Bu:=Nu.blk;replace E2:=E2.ext Nu.ext;obtain ⟨ae,ak,a3⟩:=ab.o;refine zBC (base:=n1) (n:=(L.take k).length) (m:=1) (xs:=ae.flatten) (news:=[(I6 x.kind),(.slice fa x.set.length fc),(.slice ga x.args.length gc),(I6 x.mn),(I6 x.mx),(.bool x.neg)]) (size:=6) (bytes:=80) (v:=(.slice oa ((L.take k).length) oc)) qD underlying23 zAO zEu zAu rfl qD rfl ak rfl (rfl) (Bu.cells rfl) qS (by unfold maxLen;omega) qO (by rw[aj];exact E2.size) ?_;intro v9 w79 aw ai be;replace Br:=ai.keep (fun h=>by have:=(ak.lt _ h).1;omega) Br;replace E:=E.step ai (fun x hx h=>absurd (ak.lt x h).1 qO);replace E2:=E2.step ai (fun x hx h=>absurd (ak.lt x h).1 qO);obtain ⟨ba,bb,rfl⟩:=zAw aw;have af:=ab.push (n0:=nw) (x:=x) a3 (zAe.mono (fun b hb=>.inr hb) x (zAe.lt x aq)) (fun b h=>by have:=bg b h;have:=Nz.ext.size;omega) qO aw ai be;have az:L.take (k+1)=L.take k++[x]:=by rw[List.take_add_one,hx];rfl
   have av:(L.take (k+1)).length=(L.take k).length+1:=by rw[az,List.length_append];rfl
   rw[←az,←av] at af;rw[←av];refine qA _ rfl (zAB (zAS (zAC (zAN (qV (zAy rfl rfl (zBV qO)) (qM _ rfl (zAB (zAC ?_))))))));exact ⟨L.length - (k+1),qO,k+1,ba,bb,(fun b=>T b∨(nw≤b∧b<wu.heap.size)),zBA.out ⟨rfl,rfl,rfl,rfl,rfl,trivial⟩,E,E2,Br,qO,af,rfl⟩
  ·have ay:k=L.length:=qO
   rw[ay,List.take_length] at ab;refine zAp (zAX (zAX (zAj (zAC (zAA (qM _ rfl (qM _ rfl (qA _ rfl (qA _ rfl (zAB (zAR (zCK results23 (v:=(.slice oa ((L.take k).length) oc)) (v':=(.int .i64 e)) rfl rfl ?_))))))))))));rw[ay,List.take_length];exact ⟨⟨e,L,cs,ao,oa,oc,rfl,zKC (ab.rs (Nat.le_refl _)),a4,ah⟩,E⟩
theorem Blk.cell_out {w:World} {b:Nat} {c:Array Value} {t:TypeId} (h:Blk w b c t) {o:Nat}:w.cell? ⟨b,o,none⟩=c[o]?:=by
 unfold Blk at h;simp[World.cell?,h]
theorem zBq.off {w w':World} {bo k:Nat} {v:Value} {rows:List (List Value)} (h:zBq w k v rows) (C:Chg (fun y=>y=bo) w w') (hno:∀o r,rows[0]?=some r→¬zBD w bo o r):zBq w' k v rows:=by
 obtain ⟨a,aa,rfl,h1,h2,h3⟩:=h;refine ⟨a,aa,rfl,h1,h2,?_⟩;rcases h3 with h3|⟨b,o,rfl,hc⟩
 ·exact .inl h3
 by_cases he:rows=[]
 ·exact .inl he
 obtain ⟨r,hr⟩:=zAU (l:=rows) (i:=0) (List.length_pos_iff.2 he);have hb:b≠bo:=fun e=>by
  subst e;exact hno _ r hr (hc 0 r hr)
 exact .inr ⟨b,o,rfl,fun i r hr=>(hc i r hr).chg C hb⟩
/-- Classes do not lie in a cell that holds an empty automaton. -/
theorem zBy.off {w w':World} {bo T:Nat} {v:Value} {cs:List (List Sp)} (h:zBy w v cs) (hB:Blk w bo #[.int .i64 0,.slice none 0 0,.slice none 0 0] T) (hne:∀cl∈cs,cl≠[]) (C:Chg (fun y=>y=bo) w w'):zBy w' v cs:=by
  obtain ⟨vs,h1,h2,h3⟩:=h;refine ⟨vs,zBq.off h1 C fun o r hr hc=>?_,h2,fun i u l hu hl=>zBq.off (h3 i u l hu hl) C fun o r hr hc=>?_⟩
  · rw[List.getElem?_map,Option.map_eq_some_iff] at hr;obtain ⟨u,hu,rfl⟩:=hr;obtain ⟨l,hl⟩:=zAU (l:=cs) (i:=0) (by have:=zAa hu;omega);obtain ⟨a,c,rfl⟩:=zBq.form (h3 0 u l hu hl);have h4:=hc 0 _ rfl;rw[Go.Proofs.Blk.cell_out hB] at h4;have h5:=List.length_pos_iff.2 (hne l (List.mem_of_getElem? hl));rw[List.length_map] at h4
    match o,h4 with
    | 0,h4=>simp at h4
    | 1,h4=>simp at h4;omega
    | 2,h4=>simp at h4;omega
    | o+3,h4=>simp at h4
  · rw[List.getElem?_map,Option.map_eq_some_iff] at hr;obtain ⟨s,_,rfl⟩:=hr;have h4:=hc 0 _ rfl;have h5:=hc 1 _ rfl;rw[Go.Proofs.Blk.cell_out hB] at h4 h5
    match o,h4,h5 with
    | 0,_,h5=>simp at h5
    | 1,h4,_=>simp at h4
    | 2,h4,_=>simp at h4
    | o+3,h4,_=>simp at h4
def zHo (x:Re):Int:=if zBW x=true then 0 else -1
def zRh (t:Re) (v:Value) (w:World):Prop:=∃(e:Int) (L:List Re) (cs:List (List Sp)) (rows:List (List Int)) (vs:List Value) (ca:Option Addr) (cc:Nat),v=.tuple #[.agg vs.toArray,.slice ca cs.length cc,.int .i64 e]∧zMx w ⟨0,L.map zHo,rows⟩ vs∧zBy w (.slice ca cs.length cc) cs∧zGt t e L cs rows∧L.length≤200
theorem zHu {L:List Re} {k:Nat} {x:Re} (h:L[k]?=some x):(L.take (k+1)).map zHo=(L.take k).map zHo++[zHo x]:=by
 rw[List.take_add_one,h,Option.toList_some,List.map_append];rfl
theorem zXD (w0:World) (S:Nat→Prop) (t:Re) (vs:List Value) (ht:zAe S w0 t vs) (hS:∀x,S x→x<w0.heap.size) :
  Ret prog 29 #[.agg vs.toArray] w0 fun v w=>zRh t v w∧Ext w0 w:=by
 have bc:=ht;obtain ⟨sa,sc,aa,ac,rfl,bj,ba,a7⟩:=ht.form;refine qR func29 rfl ntmps29 rfl (fun E=>(zAA (zBL (v:=(.agg (R6 t sa sc aa ac))) (c:=(R6 t sa sc aa ac)) qD rfl rfl ?_)));intro br wr Nr;have Fr:=Nr.ge E;replace E:=E.ext Nr.ext;have Br:=Nr.blk;refine zBJ (c:=#[(I6 0),(.slice none 0 0),(.slice none 0 0)]) qD zRn rfl ?_;intro bo wo No;have Fo:=No.ge E;have Oo_br:=No.lt Br;replace Br:=No.keep Br;replace E:=E.ext No.ext;have Bo:=No.blk;refine qA _ rfl (qA _ rfl (zAB (zAA (qV (zAG (vs:=[(I6 t.kind),(.slice sa t.set.length sc),(.slice aa t.args.length ac),(I6 t.mn),(I6 t.mx),(.bool t.neg)]) rfl zAc zAO rfl (Br.cells rfl)) ?_))));have bf:=Bo.lt;refine qE rfl (zAV func79 zaU zah rfl) (zLf _ S t _ (zAe.ext E t bc) (fun y hy=>by have:=hS y hy;have:=E.size;omega)) ?_;rintro _ w9 ⟨⟨e,L,cs,ab,la,lc,ca,cc,na,nc,rfl,bl,bi,bg,a5,av,af⟩,X9⟩;replace Br:=X9.keep Br;replace Bo:=X9.keep Bo;replace E:=E.ext X9;refine qM _ rfl (qV (zBM rfl rfl) (qV (zBM rfl rfl) (qV (zBM rfl rfl) (qV (zBM rfl rfl) (qA _ rfl (qA _ rfl (qA _ rfl (qA _ rfl (zAB (zAK (zAA (qM _ rfl (qV (zBo rfl rfl) (zAB (qC rfl (fun he=>?_) (fun he=>?_))))))))))))))))
 ·have au:L=[]∧cs=[]∧ab=[]:=by rcases af with ⟨h1,h2,h3,_⟩|⟨h1,_⟩;exact ⟨h1,h2,h3⟩;exact absurd h1 he
  refine zAA (qV (zBd (ps:=[]) (v:=(.agg #[(I6 0),(.slice none 0 0),(.slice none 0 0)])) rfl qK) (qM _ rfl (zAY (b:=bo) (o:=0) (c':=#[(I6 0),(.slice none 0 0),(.slice none 0 0)]) rfl rfl qS zJA rfl Bo qL rfl ?_)));intro w2 S2;replace Br:=S2.keep qO Br;replace E:=S2.step E qQ;replace Bo:=S2.blk;refine qA _ rfl (qA _ rfl (zAB (zAR (zAI (zHa results29 (vs:=[(.int .i64 0),(.slice none 0 0),(.slice none 0 0)]) (b:=bo) (v':=(.slice none 0 0)) (v'':=(.int .i64 e)) rfl zRa zJA rfl (Bo.cells rfl) rfl rfl ?_)))));exact ⟨⟨e,L,cs,ab,_,none,0,by rw[au.2.1];rfl,by rw[au.1,au.2.2];exact ⟨none,0,none,0,rfl,zBq.nil _ _ _ _,zIX _⟩,by rw[au.2.1];exact zDP _,af,a5⟩,E⟩
 ·have a6:e=0:=qO
  have a1:∀cl∈cs,cl≠[]:=by
   rcases af with ⟨_,_,_,h1,_⟩|⟨_,h2,_,_,h3,_⟩
   ·exact absurd a6 h1
   ·obtain ⟨av,_,hu,_⟩:=zDV h2;have ao:=zFj (zDk av hu);exact fun cl hc=>(zKZ (zKa h3 ao rfl).1 (zQn ao) cl hc).1
  obtain ⟨n1,be⟩:∃n,n=(w9).heap.size:=⟨_,rfl⟩;have a9:bo<n1:=by rw[be];exact Bo.lt
  have E2:Chg zAo w9 w9:=Chg.refl _ _;refine zAP (zAC (zAA (qM _ rfl (qV (zBd (ps:=[(2,(.slice na ab.length nc))]) (v:=(.agg #[(I6 0),(.slice none 0 0),(.slice na ab.length nc)])) rfl qK) (zAg (v:=(.agg #[(I6 0),(.slice none 0 0),(.slice na ab.length nc)])) (c:=#[(I6 0),(.slice none 0 0),(.slice na ab.length nc)]) (n:=3) qD zRn rfl zJA rfl rfl rfl qS ?_)))));intro bd wd Nd;have Fd:=Nd.ge E;have Fd_E2:=Nd.ge E2;have Od_bo:=Nd.lt Bo;replace Bo:=Nd.keep Bo;replace E:=E.ext Nd.ext;have Bd:=Nd.blk;replace E2:=E2.ext Nd.ext;refine zAB (zAK (zAA (qM _ rfl (qV (zAM underlying23 rfl) (qM _ rfl (zAB (zAT (zAq (fun nn_ σ W3=>∃(k:Nat) (oa:Option Addr) (oc:Nat),(∃jj_,σ=zCH jj_ [(2,(P6 bo 0)),(6,(.slice ca cs.length cc)),(9,(P6 bd 0)),(25,(.slice la L.length lc)),(26,(I6 (L.length:Int))),(27,(I6 (k:Int)))])∧Chg zAo w0 W3∧Chg zAo w9 W3∧Blk W3 bo #[(I6 0),(.slice none 0 0),(.slice none 0 0)] 49∧Blk W3 bd (#[.int .i64 0,.slice oa k oc,.slice na ab.length nc]) 49∧(k≤L.length)∧(W3.ownsRow (bd+1) TDI 1 (.slice oa k oc) k (((L.take k).map zHo).map (Value.int .i64)))∧(n1≤bd∧bd+1≤W3.heap.size)∧nn_=L.length - k) (n:=L.length - 0) ?_ ?_))))))))
  ·exact ⟨0,none,0,zBA.out ⟨rfl,rfl,rfl,rfl,rfl,rfl,trivial⟩,E,E2,Bo,Bd,Nat.zero_le _,World.ownsRow_nil _ _ _ _,⟨by have:=Nd.eq;omega,by have:=Bd.lt;omega⟩,rfl⟩
  ·clear E E2 Bo Bd;rintro _ _ W3 ⟨k,oa,oc,⟨j3,rfl⟩,E,E2,Bo,Bd,hk,hX,ae,rfl⟩;refine zAA (qV (zBH rfl rfl) (zAB (zAK (qC rfl (fun bm=>?_) (fun bm=>?_)))))
   ·obtain ⟨x,hx⟩:=zAU (l:=L) (i:=k) qO;obtain ⟨b,o,rfl,bh⟩:=zCU.cells bl qO;obtain ⟨xs,bb,a4⟩:=bh k x hx;have aw:=a4;obtain ⟨az,a0,ax,a3,rfl,_,_,_⟩:=a4.form;obtain ⟨hxo,hxz⟩:=av x (List.mem_of_getElem? hx);have hXz:=fun b h=>(hX.lt b h).1;refine zAP (zAC (zAK (zAT (zAA (qV (zAH (b:=b) (o:=o) (len:=L.length) (cap:=lc) (i:=k) (o':=o+k*6) rfl rfl rfl underlying23 zAO qO qO) (qV (zAG rfl zAc zAO rfl (bb.ext E2)) (zAg (v:=(.agg (R6 x az a0 ax a3))) (c:=(R6 x az a0 ax a3)) (n:=6) qD zAu rfl zAO rfl rfl rfl qS ?_)))))));intro bz wz Nz;have Fz:=Nz.ge E;have Fz_E2:=Nz.ge E2;have Oz_bo:=Nz.lt Bo;have Oz_bd:=Nz.lt Bd;replace Bo:=Nz.keep Bo;replace Bd:=Nz.keep Bd;replace hX:=zAn hX Nz.ext;replace ae:=And.intro ae.1 (Nat.le_trans ae.2 Nz.ext.size);replace E:=E.ext Nz.ext;have Bz:=Nz.blk;replace E2:=E2.ext Nz.ext;refine zAB (zAA (qV (zAG (vs:=[(I6 x.kind),(.slice az x.set.length a0),(.slice ax x.args.length a3),(I6 x.mn),(I6 x.mx),(.bool x.neg)]) rfl zAc zAO rfl (Bz.cells rfl)) (qE rfl (zAV func63 zXh zXm rfl) (zQx x.size x _ _ (Nat.le_refl _) qO (zAe.at x (zAe.ext E2 x aw))) ?_)));rintro _ w59 ⟨rfl,al⟩;replace Bo:=al.keep Bo;replace Bd:=al.keep Bd;replace Bz:=al.keep Bz;replace hX:=zAn hX al;replace ae:=And.intro ae.1 (Nat.le_trans ae.2 al.size);replace E:=E.ext al;replace E2:=E2.ext al;refine zAB (zAt rfl (fun aq=>?_) (fun aq=>?_))
    ·have a2:=aq;refine zAN (qF bd 0 1 rfl underlying49 rfl zEX rfl (qV (zAL rfl zGb (Bd.cell rfl)) (zAh (ps:=[(0,(I6 0))]) (c:=#[(I6 0)]) qD rfl underlying26 zAv zFB qD qD qK ?_)));intro bu wu Nu;have Fu:=Nu.ge E;have Fu_E2:=Nu.ge E2;have Ou_bo:=Nu.lt Bo;have Ou_bd:=Nu.lt Bd;have Ou_bz:=Nu.lt Bz;replace Bo:=Nu.keep Bo;replace Bd:=Nu.keep Bd;replace Bz:=Nu.keep Bz;replace hX:=zAn hX Nu.ext;replace ae:=And.intro ae.1 (Nat.le_trans ae.2 Nu.ext.size);replace E:=E.ext Nu.ext;have Bu:=Nu.blk;replace E2:=E2.ext Nu.ext;refine zBC (base:=bd+1) (n:=k) (m:=1) (xs:=((L.take k).map zHo).map (Value.int .i64)) (news:=[(I6 0)]) (size:=1) (bytes:=8) (v:=(.slice oa k oc)) qD underlying26 zAv zPA zFB rfl qD rfl hX rfl (rfl) (Bu.cells rfl) qS (by unfold maxLen;omega) qO (ae.2) ?_;intro v9 ar ap ag bk;replace Bo:=ag.keep (fun h=>by have:=(hX.lt _ h).1;omega) Bo;replace Bd:=ag.keep (fun h=>by have:=(hX.lt _ h).1;omega) Bd;replace E:=E.step ag (fun x hx h=>absurd (hX.lt x h).1 qO);replace E2:=E2.step ag (fun x hx h=>absurd (hX.lt x h).1 qO);obtain ⟨ah,ai,rfl⟩:=zAw ap;have am:zHo x=0:=by unfold zHo;rw[if_pos aq]
     have aj:(ar).ownsRow (bd+1) TDI 1 (.slice ah (k+1) ai) (k+1) (((L.take (k+1)).map zHo).map (Value.int .i64)):=by rw[zHu hx,am,List.map_append];exact ap
     have ad:n1≤bd∧bd+1≤(ar).heap.size:=⟨ae.1,Nat.le_trans ae.2 ag.size⟩;refine qF bd 0 1 rfl underlying49 rfl zEX rfl (zBr (b:=bd) (o:=1) (c':=#[(I6 0),(.slice ah (k+1) ai),(.slice na ab.length nc)]) (v:=(.slice ah (k+1) ai)) rfl rfl rfl zEX Bd qP rfl ?_);intro w6 S6;replace aj:=zBi aj S6.chg (fun b hb h=>by have h2:b=bd:=h;have:=(aj.lt b hb).1;omega);replace ad:=And.intro ad.1 (Nat.le_trans ad.2 S6.chg.size);replace Bo:=S6.keep qO Bo;replace E:=S6.step E qQ;replace E2:=S6.step E2 (Or.inl qO);replace Bd:=S6.blk;refine zAB (zAS (zAC (zAN (qV (zAy rfl rfl (zBV qO)) (qM _ rfl (zAB (zAC ?_)))))));exact ⟨L.length - (k+1),qO,k+1,ah,ai,zBA.out ⟨rfl,rfl,rfl,rfl,rfl,rfl,trivial⟩,E,E2,Bo,Bd,qO,aj,ad,rfl⟩
    ·have a2:=aq;refine zAN (qF bd 0 1 rfl underlying49 rfl zEX rfl (qV (zAL rfl zGb (Bd.cell rfl)) (zAh (ps:=[(0,(I6 (-1)))]) (c:=#[(I6 (-1))]) qD rfl underlying26 zAv zFB qD qD qK ?_)));intro b7 w7 N7;have F7:=N7.ge E;have F7_E2:=N7.ge E2;have O7_bo:=N7.lt Bo;have O7_bd:=N7.lt Bd;have O7_bz:=N7.lt Bz;replace Bo:=N7.keep Bo;replace Bd:=N7.keep Bd;replace Bz:=N7.keep Bz;replace hX:=zAn hX N7.ext;replace ae:=And.intro ae.1 (Nat.le_trans ae.2 N7.ext.size);replace E:=E.ext N7.ext;have B7:=N7.blk;replace E2:=E2.ext N7.ext;refine zBC (base:=bd+1) (n:=k) (m:=1) (xs:=((L.take k).map zHo).map (Value.int .i64)) (news:=[(I6 (-1))]) (size:=1) (bytes:=8) (v:=(.slice oa k oc)) qD underlying26 zAv zPA zFB rfl qD rfl hX rfl (rfl) (B7.cells rfl) qS (by unfold maxLen;omega) qO (ae.2) ?_;intro v9 ar ap ag bk;replace Bo:=ag.keep (fun h=>by have:=(hX.lt _ h).1;omega) Bo;replace Bd:=ag.keep (fun h=>by have:=(hX.lt _ h).1;omega) Bd;replace E:=E.step ag (fun x hx h=>absurd (hX.lt x h).1 qO);replace E2:=E2.step ag (fun x hx h=>absurd (hX.lt x h).1 qO);obtain ⟨ah,ai,rfl⟩:=zAw ap;have am:zHo x = -1:=by unfold zHo;rw[if_neg (by simp[aq])]
     have aj:(ar).ownsRow (bd+1) TDI 1 (.slice ah (k+1) ai) (k+1) (((L.take (k+1)).map zHo).map (Value.int .i64)):=by rw[zHu hx,am,List.map_append];exact ap
     have ad:n1≤bd∧bd+1≤(ar).heap.size:=⟨ae.1,Nat.le_trans ae.2 ag.size⟩;refine qF bd 0 1 rfl underlying49 rfl zEX rfl (zBr (b:=bd) (o:=1) (c':=#[(I6 0),(.slice ah (k+1) ai),(.slice na ab.length nc)]) (v:=(.slice ah (k+1) ai)) rfl rfl rfl zEX Bd qP rfl ?_);intro w8 S8;replace aj:=zBi aj S8.chg (fun b hb h=>by have h2:b=bd:=h;have:=(aj.lt b hb).1;omega);replace ad:=And.intro ad.1 (Nat.le_trans ad.2 S8.chg.size);replace Bo:=S8.keep qO Bo;replace E:=S8.step E qQ;replace E2:=S8.step E2 (Or.inl qO);replace Bd:=S8.blk;refine zAB (zAS (zAC (zAN (qV (zAy rfl rfl (zBV qO)) (qM _ rfl (zAB (zAC ?_)))))));exact ⟨L.length - (k+1),qO,k+1,ah,ai,zBA.out ⟨rfl,rfl,rfl,rfl,rfl,rfl,trivial⟩,E,E2,Bo,Bd,qO,aj,ad,rfl⟩
   ·have a8:k=L.length:=qO
    rw[a8,List.take_length] at hX;have an:=bg.chg E2 fun _ f=>f.elim;have ak:=bi.ext E2;have ay:=Bo;refine zAp (zAX (zAX (zAj (zAC (zAA (qV (zAG (vs:=[(I6 0),(.slice oa k oc),(.slice na ab.length nc)]) rfl zRa zJA rfl (Bd.cells rfl)) (qM _ rfl (zAY (b:=bo) (o:=0) (c':=#[(I6 0),(.slice oa k oc),(.slice na ab.length nc)]) rfl rfl qS zJA rfl Bo qL rfl ?_))))))));intro w9 S9;replace hX:=zBi hX S9.chg (fun b hb h=>by have h2:b=bo:=h;have:=(hX.lt b hb).1;omega);replace an:=an.chg S9.chg fun b hb=>by have h2:b=bo:=hb;omega
    replace ak:=ak.off ay a1 S9.chg;replace Bd:=S9.keep qO Bd;replace E:=S9.step E qQ;replace Bo:=S9.blk;refine qA _ rfl (qA _ rfl (zAB (zAR (zHa results29 (vs:=[(.int .i64 0),(.slice oa k oc),(.slice na ab.length nc)]) (b:=bo) (v':=(.slice ca cs.length cc)) (v'':=(.int .i64 0)) rfl zRa zJA rfl (Bo.cells rfl) rfl rfl ?_))));exact ⟨⟨e,L,cs,ab,_,ca,cc,by rw[a6,a8],⟨oa,oc,na,nc,qP,by simpa using zIO hX qP,by simpa using an.at'⟩,ak,af,a5⟩,E⟩
end Go.Proofs
namespace Go.Proofs
open Go Go.Eng Go.Sort
set_option maxRecDepth 100000
theorem zUe (w0:World) (t:Re) (vs:List Value) (m:Nat) (hm:m≤1000000) (ht:zBG w0 t vs) (hs:t.size≤2097152) :
  Ret prog 89 #[.agg vs.toArray,.int .i64 (m:Int)] w0 fun v w=>v=.int .i64 ((min (m+1) t.size:Nat):Int)∧Ext w0 w:=by
 have ah:=ht;obtain ⟨sa,sc,aa,ac,rfl,af,ag,ab⟩:=ht.form;have ae:((zGQ t).take ((m:Int)+1).toNat).length=min (m+1) t.size:=by rw[List.length_take,zDh];congr 1
 refine qR func89 rfl ntmps89 rfl (fun E=>(zAA (zBL (v:=(.agg (R6 t sa sc aa ac))) (c:=(R6 t sa sc aa ac)) qD rfl rfl ?_)));intro b1 w1 N1;have F1:=N1.ge E;replace E:=E.ext N1.ext;have B1:=N1.blk;refine qA _ rfl (zAB (zAA (qV (zAG (vs:=[(I6 t.kind),(.slice sa t.set.length sc),(.slice aa t.args.length ac),(I6 t.mn),(I6 t.mx),(.bool t.neg)]) rfl zAc zAO rfl (B1.cells rfl)) (qM _ rfl (qV (zAy rfl rfl (zBV qO)) (qE rfl (zAV func19 zWc zXM rfl) (zQD _ t _ _ (zBG.ext E t ah) hs) ?_))))));rintro _ w9 ⟨la,lc,ai,rfl,hsl,ad,X9⟩;replace B1:=X9.keep B1;replace E:=E.ext X9;refine qV (zAM underlying23 rfl) (qA _ rfl (zAB (zAR (zAW results89 (v:=(.int .i64 ((((zGQ t).take ((m:Int)+1).toNat).length:Nat):Int))) rfl ?_))));exact ⟨by rw[ae],E⟩
/-- A list of slices of one's own, whose elements lie elsewhere. -/
structure SpSt (wr w:World) (base:Nat) (vo:Value) (vs:List Value) (ll:List (List Sp)):Prop where
 o:w.ownsRow base TSs 1 vo ll.length vs
 len:vs.length=ll.length
 el:∀(i:Nat) u l,vs[i]?=some u→ll[i]?=some l→zBQ wr u l
theorem SpSt.spss {wr w:World} {base:Nat} {vo:Value} {vs:List Value} {ll:List (List Sp)} (h:SpSt wr w base vo vs ll) (e:Ext wr w):zBy w vo ll:=by
 refine ⟨vs,?_,h.len,fun i u l hu hl=>(h.el i u l hu hl).ext e⟩;have ho:=h.o;rw[show vs=(vs.map fun x=>[x]).flatten by simp[List.flatten_eq_flatMap,List.flatMap_map]] at ho;exact zDC ho (by intro r hr;simp only[List.mem_map] at hr;obtain ⟨x,_,rfl⟩:=hr;rfl) (by simp[h.len]) qD
theorem SpSt.push {wr w w':World} {base:Nat} {vo v' u:Value} {vs:List Value} {ll:List (List Sp)} {l:List Sp} (h:SpSt wr w base vo vs ll) (O:w'.ownsRow base TSs 1 v' (ll.length+1) (vs++[u])) (hu:zBQ wr u l):SpSt wr w' base v' (vs++[u]) (ll++[l]):=by
 refine ⟨by rw[List.length_append];exact O,by simp[h.len],fun i x y hx hy=>?_⟩;rcases Nat.lt_or_ge i vs.length with h1|h1
 ·rw[List.getElem?_append_left h1] at hx;rw[List.getElem?_append_left (by have:=h.len;omega)] at hy;exact h.el i x y hx hy
 ·rw[List.getElem?_append_right h1] at hx;rw[List.getElem?_append_right (by have:=h.len;omega)] at hy;have h2:=zAa hx;simp at h2;rw[show i - vs.length=0 by omega] at hx;rw[show i - ll.length=0 by have:=h.len;omega] at hy;simp at hx hy;subst hx;subst hy;exact hu
theorem zRb {L:List Re} {k:Nat} {x:Re} (h:L[k]?=some x):(L.take (k+1)).foldl zHh []=zHh ((L.take k).foldl zHh []) x:=by
 rw[List.take_add_one,h,Option.toList_some,List.foldl_append];rfl
theorem zRx (w0:World) (t:Re) (vs:List Value) (ht:zBG w0 t vs) (hs:t.size≤1000) :
  Ret prog 31 #[.agg vs.toArray] w0 fun v w=>zBy w v (zCe t)∧Ext w0 w:=by
 have a7:=ht;obtain ⟨sa,sc,aa,ac,rfl,bf,a6,a0⟩:=ht.form;refine qR func31 rfl ntmps31 rfl (fun E=>(zAA (zBL (v:=(.agg (R6 t sa sc aa ac))) (c:=(R6 t sa sc aa ac)) qD rfl rfl ?_)));intro br wr Nr;have Fr:=Nr.ge E;replace E:=E.ext Nr.ext;have Br:=Nr.blk;refine qA _ rfl (zAB (zAA (qA _ rfl (zAB (zAK (zAA (qV (zAG (vs:=[(I6 t.kind),(.slice sa t.set.length sc),(.slice aa t.args.length ac),(I6 t.mn),(I6 t.mx),(.bool t.neg)]) rfl zAc zAO rfl (Br.cells rfl)) (qE rfl (zAV func19 zWc zXM rfl) (zQD _ t _ _ (zBG.ext E t a7) qO) ?_))))))));rintro _ w9 ⟨la,lc,aq,rfl,a1,ae,X9⟩;replace Br:=X9.keep Br;replace E:=E.ext X9;obtain ⟨L,hL⟩:∃L,L=zGQ t:=⟨_,rfl⟩;have hLl:L.length=t.size:=by rw[hL,zDh]
 have a4:(zGQ t).take (1000000:Int).toNat=L:=by rw[hL];exact List.take_of_length_le (by rw[zDh];have:(1000000:Int).toNat=1000000:=rfl;omega)
 rw[a4] at a1 ae⊢;have ag:zBv w9 L aq:=zBv.ext X9 ae;have bi:zCe t=L.foldl zHh []:=by rw[hL];rfl
 have EQ:Chg zAo w9 w9:=Chg.refl _ _;obtain ⟨n1,ba⟩:∃n,n=w9.heap.size:=⟨_,rfl⟩;have hn0:w0.heap.size≤n1:=by rw[ba];exact E.size
 refine qV (zAM underlying23 rfl) (qM _ rfl (zAB (zAT (zAq (fun nn_ σ W1=>∃(k:Nat) (ll:List (List Sp)) (us:List Value) (oa:Option Addr) (oc:Nat),(∃jj_,σ=zCH jj_ [(10,(.slice la L.length lc)),(11,(I6 (L.length:Int))),(12,(I6 (k:Int))),(3,(.slice oa ll.length oc))])∧Chg zAo w0 W1∧Chg zAo w9 W1∧(k≤L.length)∧(ll=(L.take k).foldl zHh [])∧(SpSt w9 W1 n1 (.slice oa ll.length oc) us ll)∧(n1≤W1.heap.size)∧nn_=L.length - k) (n:=L.length - 0) ?_ ?_))))
 ·exact ⟨0,[],[],none,0,zBA.out ⟨rfl,rfl,rfl,rfl,trivial⟩,E,EQ,Nat.zero_le _,rfl,⟨World.ownsRow_nil _ _ _ _,rfl,fun i u l h=>by simp at h⟩,qO,rfl⟩
 ·clear E EQ;rintro _ _ W1 ⟨k,ll,us,oa,oc,⟨j1,rfl⟩,E,EQ,hk1,ak,hO,hbs,rfl⟩;refine zAA (qV (zBH rfl rfl) (zAB (zAK (qC rfl (fun bd=>?_) (fun bd=>?_)))))
  ·obtain ⟨x,hx⟩:=zAU (l:=L) (i:=k) qO;obtain ⟨r,hr,a5⟩:=ag.get hx;obtain ⟨b,o,rfl,bc⟩:=zBq.at a1 qO;have bj:=(bc k r hr).ext EQ;obtain ⟨xa,xc,ya,yc,rfl,af,a2,au⟩:=a5.form;have a3:ll.length≤1000:=by have h:=zKe (L.take k) [];rw[←ak] at h;simp at h;omega
   have ah:=zRb hx;rw[←ak] at ah;have ao:=hO.o;refine zAP (zAC (zAK (zAT (zAA (qV (zAH (b:=b) (o:=o) (len:=L.length) (cap:=lc) (i:=k) (o':=o+k*6) rfl rfl rfl underlying23 zAO qO qO) (qV (zAG rfl zAc zAO rfl (bj)) ?_))))));have E3:Chg zAo W1 W1:=Chg.refl _ _;refine zAg (v:=(.agg (R6 x xa xc ya yc))) (c:=(R6 x xa xc ya yc)) (n:=6) qD zAu rfl zAO rfl rfl rfl qS ?_;intro bu wu Nu;have Fu:=Nu.ge E;have Fu_EQ:=Nu.ge EQ;have Fu_E3:=Nu.ge E3;replace E:=E.ext Nu.ext;have Bu:=Nu.blk;replace EQ:=EQ.ext Nu.ext;replace E3:=E3.ext Nu.ext;refine zAB (zAA (qF bu 0 0 rfl underlying25 rfl zAv rfl (qV (zAL rfl zAf (Bu.cell rfl)) (qV (zBo rfl rfl) (qA _ rfl (zAB (zAK (zAA (qM _ rfl (qV (zAM underlying50 rfl) (qM _ rfl (zAB (zAT (zAq (fun nn_ σ W3=>∃(j:Nat) (al:Bool),(∃jj_,σ=zCH jj_ [(3,(.slice oa ll.length oc)),(5,(P6 bu 0)),(10,(.slice (some ⟨b,o,none⟩) L.length lc)),(11,(I6 (L.length:Int))),(12,(I6 (k:Int))),(19,(.slice oa ll.length oc)),(20,(I6 (ll.length:Int))),(21,(I6 (j:Int))),(6,(.bool al))])∧Chg zAo w0 W3∧Chg zAo w9 W3∧Chg zAo W1 W3∧Blk W3 bu (R6 x xa xc ya yc) 25∧(j≤ll.length)∧(al=(decide (x.kind≠2) || decide (x.set∈ll.take j)))∧nn_=ll.length - j) (n:=ll.length - 0) ?_ ?_))))))))))))))
   ·exact ⟨0,decide ((x.kind:Int)≠2),zBA.out ⟨rfl,rfl,rfl,rfl,rfl,rfl,rfl,rfl,rfl,trivial⟩,E,EQ,E3,Bu,Nat.zero_le _,qP,rfl⟩
   ·clear E EQ E3 Bu;rintro _ _ W3 ⟨j,al,⟨j3,rfl⟩,E,EQ,E3,Bu,hj,hq,rfl⟩;refine zAA (qV (zBH rfl rfl) (zAB (zAK (qC rfl (fun ap=>?_) (fun ap=>?_)))))
    ·obtain ⟨l,hl⟩:=zAU (l:=ll) (i:=j) qO;have bg:=SpSt.spss ⟨(zAn ao E3),hO.len,hO.el⟩ EQ;obtain ⟨kb,ko,rfl,a8⟩:=zBz bg qO;obtain ⟨ra,rc,ai,ax⟩:=a8 j l hl;refine zAP (zAC (zAK (zAT (zAA (qV (zAH (b:=kb) (o:=ko) (len:=ll.length) (cap:=oc) (i:=j) (o':=ko+j) rfl rfl rfl underlying50 zBm qO qO) (qV (zAL rfl zBe (ai)) (qA _ rfl (zAB (zAN (qM _ rfl (qM _ rfl ?_)))))))))));rcases Bool.eq_false_or_eq_true (al) with g1|g1
     ·have av:=g1;refine zAE rfl rfl qD (v:=.bool true) (cbk g1) (Or.inl rfl) (zAE rfl rfl qD (v:=.bool true) (cbk g1) (Or.inl rfl) (zAE rfl rfl qD (v:=.bool true) (cbk g1) (Or.inl rfl) (zAE rfl rfl qD (v:=.bool true) (cbk g1) (Or.inl rfl) (qV (zAd (v:=(.bool true)) rfl (by rw[g1];rfl)) (qA _ rfl (zAB (zAS (zAC (zAN (qV (zAy rfl rfl (zBV qO)) (qM _ rfl (zAB (zAC ?_)))))))))))));exact ⟨ll.length - (j+1),qO,j+1,true,zBA.out ⟨rfl,rfl,rfl,rfl,rfl,rfl,rfl,rfl,rfl,trivial⟩,E,EQ,E3,Bu,qO,(by have h2:=hq;simp[av] at h2⊢;rw[List.take_add_one,hl];simp;rcases h2 with h2|h2;exact .inl h2;exact .inr (.inl h2)),rfl⟩
     ·have av:=g1;refine zAF rfl rfl qD (cbk g1) (qM _ rfl (zAF rfl rfl qD (cbk g1) (qF bu 0 1 rfl underlying25 rfl zBm rfl (zAF rfl rfl qD (cbk g1) (qV (zAL rfl zBe (Bu.cell rfl)) (zAF rfl rfl qD (cbk g1) (qE rfl (zAV func67 zYJ zZP rfl) (zMQ _ _ _ l x.set ax (zBq.ext af EQ)) ?_)))))));rintro _ w19 ⟨rfl,am⟩;replace Bu:=am.keep Bu;replace E:=E.ext am;replace EQ:=EQ.ext am;replace E3:=E3.ext am;refine qV (zAd (v:=(.bool (decide (l=x.set)))) rfl (by rw[g1];rfl)) (qA _ rfl (zAB (zAS (zAC (zAN (qV (zAy rfl rfl (zBV qO)) (qM _ rfl (zAB (zAC ?_)))))))));exact ⟨ll.length - (j+1),qO,j+1,decide (l=x.set),zBA.out ⟨rfl,rfl,rfl,rfl,rfl,rfl,rfl,rfl,rfl,trivial⟩,E,EQ,E3,Bu,qO,(by have h2:=hq;simp[av] at h2⊢;rw[List.take_add_one,hl];simp[h2,eq_comm]),rfl⟩
    ·rw[show ll.take j=ll from List.take_of_length_le qO] at hq;refine zAp (zAX (zAX (zAj (zAC (zAA (qM _ rfl (qV (zCf rfl) (zAB (zAt rfl (fun ab=>?_) (fun ab=>?_))))))))))
     ·have aj:=ab;replace ab:=by simpa using ab
      have bh:x.kind=2∧x.set∉ll:=by rw[hq] at ab;simpa using ab
      refine zAN (qM _ rfl (qF bu 0 1 rfl underlying25 rfl zBm rfl (qV (zAL rfl zBe (Bu.cell rfl)) (zAh (ps:=[(0,(.slice xa x.set.length xc))]) (c:=#[(.slice xa x.set.length xc)]) qD rfl underlying50 zBm zKi qD qD qK ?_))));intro bv wv Nv;have Fv:=Nv.ge E;have Fv_EQ:=Nv.ge EQ;have Fv_E3:=Nv.ge E3;have Ov_bu:=Nv.lt Bu;replace Bu:=Nv.keep Bu;replace E:=E.ext Nv.ext;have Bv:=Nv.blk;replace EQ:=EQ.ext Nv.ext;replace E3:=E3.ext Nv.ext;have ar:=zAn ao E3;have hS3:=E3.size;refine zBC (base:=n1) (n:=ll.length) (m:=1) (xs:=us) (news:=[(.slice xa x.set.length xc)]) (size:=1) (bytes:=24) (v:=(.slice oa ll.length oc)) qD underlying50 zBm zTI zKi rfl qD rfl ar rfl (rfl) (Bv.cells rfl) qS (by unfold maxLen;omega) qO qO ?_;intro v9 w79 az an Dv9;replace E:=E.step an (fun x hx h=>absurd (ar.lt x h).1 qO);replace EQ:=EQ.step an (fun x hx h=>absurd (ar.lt x h).1 qO);obtain ⟨a9,bb,rfl⟩:=zAw az;have aw:(ll++[x.set]).length=ll.length+1:=qP
      have ay:=hO.push az af;rw[←aw] at ay⊢;have ad:zHh ll x=ll++[x.set]:=by unfold zHh;rw[if_pos bh]
      refine qA _ rfl (zAB (zAS (zAC (zAN (qV (zAy rfl rfl (zBV qO)) (qM _ rfl (zAB (zAC ?_))))))));exact ⟨L.length - (k+1),qO,k+1,ll++[x.set],us++[.slice xa x.set.length xc],a9,bb,zBA.out ⟨rfl,rfl,rfl,rfl,trivial⟩,E,EQ,qO,(by rw[ah,ad]),ay,(by have:=an.size;omega),rfl⟩
     ·have aj:=ab;replace ab:=by simpa using ab
      have ad:zHh ll x=ll:=by unfold zHh;rw[if_neg (by rintro ⟨h1,h2⟩;rw[hq] at ab;simp[h1,h2] at ab)]
      refine zAP (zAS (zAC (zAN (qV (zAy rfl rfl (zBV qO)) (qM _ rfl (zAB (zAC ?_)))))));exact ⟨L.length - (k+1),qO,k+1,ll,us,oa,oc,zBA.out ⟨rfl,rfl,rfl,rfl,trivial⟩,E,EQ,qO,(by rw[ah,ad]),⟨(zAn ao E3),hO.len,hO.el⟩,(by have:=E3.size;omega),rfl⟩
  ·have be:L.take k=L:=List.take_of_length_le qO;rw[be,←bi] at ak;refine zAp (zAX (zAX (zAj (zAC (zAA (qM _ rfl (qA _ rfl (zAB (zAR (zAW results31 (v:=(.slice oa ll.length oc)) rfl ?_))))))))));rw[←ak];exact ⟨hO.spss EQ,E⟩
end Go.Proofs
namespace Go.Proofs
open Go Go.Eng Go.Sort
set_option maxRecDepth 100000
def zIz:List Int→List Int→Int
  | x::l,y::m=>if x=y then zIz l m else if x<y then -1 else 1
  | [],m=>0 - (m.length:Int)
  | l,[]=>l.length
def zKs:List (Int×Int)→List Int
  | []=>[]
  | s::l=>s.1::s.2::zKs l
mutual
def zCy:Re→List Int
  | .mk k s a m x _=>k::(zKs s++(-1::m::x::(zCY a++[-1])))
def zCY:List Re→List Int
  | []=>[]
  | t::ts=>zCy t++zCY ts
end
mutual
/-- Kinds and bounds of spans are not negative. -/
def zIx:Re→Prop
  | .mk k s a _ _ _=>0≤k∧(∀p∈s,0≤p.1)∧zIw a
def zIw:List Re→Prop
  | []=>True
  | t::ts=>zIx t∧zIw ts
end
theorem zDU (x y:Int) (l m:List Int):zIz (x::l) (y::m)=zFo (zCI x y) (zIz l m):=by
 simp only[zIz];unfold zFo zCI;by_cases h:x=y
 ·subst h;simp
 ·rw[if_neg h];by_cases h2:x<y
  ·simp[h2]
  ·have h3:y<x:=qO
   simp[h2,h3]
theorem zHH (a b c:Int):zFo (zFo a b) c=zFo a (zFo b c):=by
 unfold zFo;by_cases h:a=0<;>simp[h]
theorem zTk (a:Int):zFo 0 a=a:=by simp[zFo]
theorem zFK {a:Int} (b:Int) (h:a≠0):zFo a b=a:=by simp[zFo,h]
theorem zRK {a b:Int} (h:a<b):zCI a b = -1:=by simp[zCI,h]
theorem zRL {a b:Int} (h:b<a):zCI a b=1:=by
 unfold zCI;rw[if_neg qO,if_pos h]
theorem zLs (a:Int):zCI a a=0:=by simp[zCI]
theorem zPc:∀(s s':List (Int×Int)) (u v:List Int),(∀p∈s,0≤p.1)→(∀p∈s',0≤p.1)→zIz (zKs s ++ -1::u) (zKs s' ++ -1::v)=zFo (zDY zCT s s') (zIz u v)
  | [],[],u,v,_,_=>by simp only[zKs,List.nil_append,zDU,zLs,zDY]
  | [],p::s',u,v,_,h'=>by
    have h1:=h' p (by simp);simp only[zKs,List.nil_append,List.cons_append,zDU,zDY];rw[zRK (show (-1:Int)<p.1 by omega),zFK _ (by decide),zFK _ (by decide)]
  | p::s,[],u,v,h,_=>by
    have h1:=h p (by simp);simp only[zKs,List.nil_append,List.cons_append,zDU,zDY];rw[zRL (show (-1:Int)<p.1 by omega),zFK _ (by decide),zFK _ (by decide)]
  | p::s,q::s',u,v,h,h'=>by
    have ih:=zPc s s' u v (fun r hr=>h r (by simp[hr])) (fun r hr=>h' r (by simp[hr]));simp only[zKs,List.cons_append,zDU,zDY,ih,zCT,zEJ,zFI,zHH,zTk]
mutual
theorem zOB:∀(t t':Re) (u v:List Int),zIx t→zIx t'→zIz (zCy t++u) (zCy t'++v)=zFo (zCm t t') (zIz u v)
  | .mk k s a m x g,.mk k' s' a' m' x' g',u,v,h,h'=>by
    have ih:=zLn a a' u v h.2.2 h'.2.2;simp only[zCy,List.cons_append,List.append_assoc,zDU,zPc _ _ _ _ h.2.1 h'.2.1,List.nil_append,ih,zCm,zEJ,zFI,zHH,zTk]
theorem zLn:∀(a a':List Re) (u v:List Int),zIw a→zIw a'→zIz (zCY a ++ -1::u) (zCY a' ++ -1::v)=zFo (zCG a a') (zIz u v)
  | [],[],u,v,_,_=>by simp only[zCY,List.nil_append,zDU,zLs,zCG]
  | [],.mk k s b m x g::ts,u,v,_,h'=>by
    have h1:=h'.1.1;simp only[zCY,zCy,List.nil_append,List.cons_append,zDU,zCG];rw[zRK (show (-1:Int)<k by omega),zFK _ (by decide),zFK _ (by decide)]
  | .mk k s b m x g::ts,[],u,v,h,_=>by
    have h1:=h.1.1;simp only[zCY,zCy,List.nil_append,List.cons_append,zDU,zCG];rw[zRL (show (-1:Int)<k by omega),zFK _ (by decide),zFK _ (by decide)]
  | t::ts,t'::ts',u,v,h,h'=>by
    have ih:=zLn ts ts' u v h.2 h'.2;have ih2:=zOB t t' (zCY ts ++ -1::u) (zCY ts' ++ -1::v) h.1 h'.1;simp only[zCY,List.append_assoc,ih2,ih,zCG,zHH]
end
theorem zSy {t u:Re} (h:zIx t) (k:zIx u):zIz (zCy t) (zCy u)=zCm t u:=by
 have:=zOB t u [] [] h k;simp only[List.append_nil] at this;rw[this];unfold zFo;by_cases h0:zCm t u=0<;>simp[zIz,h0]
theorem zRP:∀(l:List (Int×Int)) (p:Option Int),zDH p l=0→∀s∈l,0≤s.1:=by
  intro l
  induction l with
  | nil=>simp
  | cons a l ih=>
    intro p h s hs;rw[zCC] at h;by_cases h1:zDd a=false
    · rw[if_pos h1] at h;simp at h
    rw[if_neg h1] at h;have h2:zDH (some a.2) l=0:=by
      split at h
      · split at h
        · simp at h
        · exact h
      · simpa using h
    replace h:=h2;rcases List.mem_cons.1 hs with rfl|hs
    · simp[zDd] at h1;omega
    · exact ih _ h s hs
mutual
theorem zNH:∀{t:Re},zAz t→zIx t
  | .mk k s a m x g,h=>by
    have hk:=h.1.ks;refine ⟨qO,?_,zKy h.2⟩;by_cases h2:k=2
    · have h3:=(h.1.k2 h2).2;unfold zBR at h3;split at h3
      · cases h3
      · exact zRP _ _ h3
    · rw[h.1.st h2];simp
theorem zKy:∀{ts:List Re},zDe ts→zIw ts
  | [],_=>trivial
  | t::ts,h=>⟨zNH h.1,zKy h.2⟩
end
mutual
theorem zOA:∀{t:Re},zAz t→(zCy t).length≤40*t.size
  | .mk k s a m x g,h=>by
    have ih:=zLm h.2;have hs:(zKs s).length=2*s.length:=by
      clear ih h
      induction s with
      | nil=>rfl
      | cons p s ih=>simp only[zKs,List.length_cons,ih];omega
    have hl:s.length≤16:=by
      by_cases h2:k=2
      · have h3:=(h.1.k2 h2).2;unfold zBR at h3;split at h3
        · cases h3
        · omega
      · rw[h.1.st h2];simp
    simp only[zCy,List.length_cons,List.length_append,hs,Re.size,List.length_nil];omega
theorem zLm:∀{ts:List Re},zDe ts→(zCY ts).length≤40*Re.sizes ts
  | [],_=>by simp[zCY]
  | t::ts,h=>by
    have h1:=zOA h.1;have h2:=zLm h.2;simp only[zCY,List.length_append,Re.sizes];omega
end
def zED:List Re→Re→List Re
  | [],a=>[a]
  | b::l,a=>if zCm a b=0 then b::l else if zCm a b<0 then a::b::l else b::zED l a
theorem zNb (a:Re):zCm a a=0:=by
 have:=zBs a a;omega
theorem zQH {a b c:Re} (h:zCm a b<0) (k:zCm b c<0):zCm a c<0:=(zMJ a b c).2.1 h qO
theorem zKO:∀{l:List Re} {a x:Re},(∀y∈l,zEn y=true)→zEn a=true→(x∈zED l a↔x=a∨x∈l)
  | [],a,x,_,_=>by simp[zED]
  | b::l,a,x,hl,ha=>by
    have ih:=zKO (l:=l) (a:=a) (x:=x) (fun y hy=>hl y (by simp[hy])) ha;simp only[zED];split
    · rename_i h
      rw[(zHr ha (hl b qP)).1 h];simp
    split
    · simp
    · rw[List.mem_cons,ih,List.mem_cons];constructor
      · rintro (h|h|h)<;>simp[h]
      · rintro (h|h|h)<;>simp[h]
theorem zJb:∀{l:List Re} {a:Re},(∀y∈l,zEn y=true)→zEn a=true→(l.Pairwise fun y z=>zCm y z<0)→(zED l a).Pairwise fun y z=>zCm y z<0
  | [],a,_,_,_=>by simp[zED]
  | b::l,a,hl,ha,h=>by
    obtain ⟨h1,h2⟩:=List.pairwise_cons.1 h;have ih:=zJb (l:=l) (a:=a) (fun y hy=>hl y (by simp[hy])) ha h2;simp only[zED];split
    · exact h
    split
    · rename_i h3 h4
      refine List.pairwise_cons.2 ⟨fun x hx=>?_,h⟩;rcases List.mem_cons.1 hx with rfl|hx
      · exact h4
      · exact zQH h4 (h1 x hx)
    · rename_i h3 h4
      refine List.pairwise_cons.2 ⟨fun x hx=>?_,ih⟩;rcases (zKO (fun y hy=>hl y (by simp[hy])) ha).1 hx with rfl|hx
      · have:=zBs b x;have:=zBs x b;omega
      · exact h1 x hx
theorem zQi:∀{l:List Re} {a:Re},(zED l a).length≤l.length+1
  | [],a=>by simp[zED]
  | b::l,a=>by
    have:=zQi (l:=l) (a:=a);simp only[zED];split
    · simp
    split
    · simp
    · simp only[List.length_cons];omega
/-- Two lists in strict order that hold the same. -/
theorem zIA:∀{l m:List Re},(l.Pairwise fun y z=>zCm y z<0)→(m.Pairwise fun y z=>zCm y z<0)→(∀x,x∈l↔x∈m)→l=m
  | [],[],_,_,_=>rfl
  | [],y::m,_,_,h=>absurd ((h y).2 qP) qP
  | x::l,[],_,_,h=>absurd ((h x).1 qP) qP
  | x::l,y::m,hl,hm,h=>by
    obtain ⟨l1,l2⟩:=List.pairwise_cons.1 hl;obtain ⟨m1,m2⟩:=List.pairwise_cons.1 hm;have e:x=y:=by
      rcases List.mem_cons.1 ((h x).1 qP) with e|hx
      · exact e
      rcases List.mem_cons.1 ((h y).2 qP) with e|hy
      · exact e.symm
      have h1:=l1 y hy;have h2:=m1 x hx;have:=zBs x y;omega
    subst e;rw[zIA l2 m2 fun z=>?_];constructor
    · intro hz;rcases List.mem_cons.1 ((h z).1 (by simp[hz])) with e|aa
      · subst e;have:=l1 z hz;rw[zNb] at this;omega
      · exact aa
    · intro hz;rcases List.mem_cons.1 ((h z).2 (by simp[hz])) with e|aa
      · subst e;have:=m1 z hz;rw[zNb] at this;omega
      · exact aa
theorem zNo:∀(q l:List Re),(∀y∈q,zEn y=true)→(∀y∈l,zEn y=true)→(l.Pairwise fun y z=>zCm y z<0)→(q.foldl zED l).Pairwise (fun y z=>zCm y z<0)∧∀x,x∈q.foldl zED l↔x∈l∨x∈q
  | [],l,_,_,h=>⟨h,qP⟩
  | a::q,l,hq,hl,h=>by
    have ha:=hq a qP;have hl':∀y∈zED l a,zEn y=true:=fun y hy=>by
      rcases (zKO hl ha).1 hy with rfl|hy
      · exact ha
      · exact hl y hy
    obtain ⟨h1,h2⟩:=zNo q (zED l a) (fun y hy=>hq y (by simp[hy])) hl' (zJb hl ha h);refine ⟨h1,fun x=>?_⟩;rw[List.foldl_cons,h2 x,zKO hl ha];constructor
    · rintro ((h|h)|h)<;>simp[h]
    · rintro (h|h)
      · simp[h]
      · rcases List.mem_cons.1 h with h|h<;>simp[h]
theorem zSr {q:List Re} (h:∀y∈q,zEn y=true):q.foldl zED []=zGu (zER q):=by
 obtain ⟨h1,h2⟩:=zNo q [] h qP List.Pairwise.nil;refine zIA h1 (zFg (fun x hx=>h x (zFW.1 hx)) (zFt q)) fun x=>?_;rw[h2 x,zHR,zFW];simp
theorem zQM {x:Re} (h:zAz x) (h0:x.kind=0):x=zBa:=by
  have hn:=h.n;cases x with
  | mk k s a m x g=>
    simp only[Re.kind,Re.set,Re.args,Re.mn,Re.mx,Re.neg] at hn h0;subst h0;obtain ⟨e1,e2⟩:=hn.mm qD;rw[hn.st qD,hn.none qO,e1,e2,hn.ng]
theorem zXb {x:Re} (h:zAz x) (h0:zCw x=true):x=zGK:=by
  have hn:=h.n;have ha:=h.a;cases x with
  | mk k s a m x g=>
    simp only[zCw,Bool.and_eq_true,decide_eq_true_eq] at h0;simp only[Re.kind,Re.set,Re.args,Re.mn,Re.mx,Re.neg] at hn h0 ha;obtain ⟨h8,hy⟩:=h0;subst h8;obtain ⟨y,rfl,_⟩:=hn.k8 rfl;obtain ⟨e1,e2⟩:=hn.mm qD;rw[hn.st qD,e1,e2,hn.ng,zQM (ha y qP) hy];rfl
theorem zIW {x:Re} (h:zAz x):zBc x=zBZ x zBa:=by
 rw[Bool.eq_iff_iff,zBP];constructor
 ·intro h0;exact zQM h (by simpa[zBc] using h0)
 ·rintro rfl;rfl
theorem zJY {x:Re} (h:zAz x):zCw x=zBZ x zGK:=by
 rw[Bool.eq_iff_iff,zBP];constructor
 ·intro h0;exact zXb h h0
 ·rintro rfl;rfl
/-- What similarJoin gathers. -/
def zLY (k:Int) (l:List Re) (strong neutral:Re):Re:=
 if (l.any fun a=>zBZ a strong)=true then strong else zCL k neutral ((zFq (fun b=>zBZ b neutral) (zBY k l)).foldl zED [])
theorem zLa {k:Int} {l:List Re} (h:∀x∈l,zAz x):∀x∈zBY k l,zAz x:=by
 intro x hx;obtain ⟨y,hy,h1|h1⟩:=zDE.1 hx
 ·exact (h y hy).a x h1.2
 ·rw[h1.2];exact h y hy
theorem zNk {k:Int} {l:List Re} {sb wb:Re→Bool} {st nt:Re} (h:∀x∈l,zAz x) (hs:∀x,zAz x→sb x=zBZ x st) (hw:∀x,zAz x→wb x=zBZ x nt):zLY k l st nt=zJG k l sb wb nt:=by
  unfold zLY zJG;cases hf:l.find? sb with
  | some x=>
    have h1:=List.find?_some hf;have h2:=List.mem_of_find?_eq_some hf;rw[hs x (h x h2)] at h1;rw[if_pos (List.any_eq_true.2 ⟨x,h2,h1⟩)];exact ((zBP _ _).1 h1).symm
  | none=>
    have h1:=List.find?_eq_none.1 hf;rw[if_neg]
    · have h3:zFq wb (zBY k l)=zFq (fun b=>zBZ b nt) (zBY k l):=by
        unfold zFq;exact List.filter_congr fun x hx=>by rw[hw x (zLa h x hx)]
      show zCL k nt _=zCL k nt _;rw[h3,zSr fun y hy=>zEZ (zLa h y (zGE.1 hy).1)]
    · intro h2;obtain ⟨x,hx,h3⟩:=List.any_eq_true.1 h2;rw[←hs x (h x hx)] at h3;exact h1 x hx h3
def zJH (l:List Re):List Re:=l.flatMap fun a=>if a.kind=3 then a.args else if a.kind=1 then [] else [a]
def zVf (l:List Re):Re:=if (l.any fun a=>decide (a.kind=0))=true then zBa else zCL 3 zBT (zJH l)
theorem zVe {l:List Re} (h:∀x∈l,zAz x):zVf l=zEz l:=by
  have e:∀l:List Re,(∀x∈l,zAz x)→zFq zCF (zBY 3 l)=zJH l:=by
    intro l
    induction l with
    | nil=>intro _;rfl
    | cons x l ih=>
      intro h;have h1:=ih fun y hy=>h y (by simp[hy]);have hx:=h x qP;unfold zFq zBY zJH at *;rw[List.flatMap_cons,List.filter_append,h1,List.flatMap_cons];congr 1;by_cases h3:x.kind=3
      · rw[if_pos h3,if_pos h3];refine List.filter_eq_self.2 fun y hy=>?_;have:=((hx.n.k3 h3).2 y hy).2.1;simp[zCF,this]
      · rw[if_neg h3,if_neg h3];by_cases h4:x.kind=1<;>simp[zCF,h4]
  unfold zVf zEz;rw[e l h];have e2:(zJH l).any zBc=l.any fun a=>decide (a.kind=0):=by
    rw[Bool.eq_iff_iff,List.any_eq_true,List.any_eq_true];constructor
    · rintro ⟨x,hx,h0⟩;unfold zJH at hx;obtain ⟨y,hy,aa⟩:=List.mem_flatMap.1 hx;split at aa
      · rename_i h3
        have:=((h y hy).n.k3 h3).2 x aa;exact absurd (by simpa[zBc] using h0) this.1
      · split at aa
        · simp at aa
        · rw[List.mem_singleton] at aa;subst aa;exact ⟨x,hy,h0⟩
    · rintro ⟨x,hx,h0⟩;refine ⟨x,?_,h0⟩;unfold zJH;have h1:x.kind=0:=by simpa using h0
      exact List.mem_flatMap.2 ⟨x,hx,by rw[if_neg qO,if_neg qO];simp⟩
  rw[e2]
mutual
def zMB:Re→Prop
  | .mk k s a m x g=>PreN k s a m x g∧zIt a
def zIt:List Re→Prop
  | []=>True
  | t::ts=>zMB t∧zIt ts
end
theorem zIJ {ts:List Re}:zIt ts↔∀t∈ts,zMB t:=by
  induction ts with
  | nil=>simp[zIt]
  | cons t ts ih=>simp only[zIt,ih,List.mem_cons,forall_eq_or_imp]
theorem zMB.n {t:Re} (h:zMB t):PreN t.kind t.set t.args t.mn t.mx t.neg:=by cases t;exact h.1
theorem zMB.a {t:Re} (h:zMB t):∀x∈t.args,zMB x:=by cases t;exact zIJ.1 h.2
theorem PreN.len {k:Int} {s:List (Int×Int)} {a b:List Re} {m x:Int} {g:Bool} (h:PreN k s a m x g) (e:b.length=a.length):PreN k s b m x g:=
 ⟨h.ks,h.ng,h.st,h.mm,h.k2,fun h0=>List.eq_nil_of_length_eq_zero (by rw[e,h.none h0];rfl),fun h0=>by rw[e];exact h.one h0,h.rep⟩
mutual
theorem zQC:∀{t:Re},zMB t→zAz (zCz t)
  | .mk k s a m x g,h=>by
    simp only[zCz];exact zHE (h.1.len (b:=zCx a) (by rw[zCh,List.length_map])) (zNT h.2)
theorem zNT:∀{ts:List Re},zIt ts→∀x∈zCx ts,zAz x
  | [],_,x,hx=>by simp[zCx] at hx
  | t::ts,h,x,hx=>by
    simp only[zCx,List.mem_cons] at hx;rcases hx with rfl|hx
    · exact zQC h.1
    · exact zNT h.2 x hx
end
mutual
theorem zMS:∀{t:Re},zEB t→zDI [9,10] t=false→zMB t
  | .mk k s a m x g,h,hu=>by
    obtain ⟨h1,h2⟩:=zFD hu;have h9:k≠9:=fun e=>by subst e;simp at h1
    have h10:k≠10:=fun e=>by subst e;simp at h1
    exact ⟨zNU (t:=.mk k s a m x g) h h9 h10 rfl,zNW (zCR h) h2⟩
theorem zNW:∀{ts:List Re},zDJ ts→zCt [9,10] ts=false→zIt ts
  | [],_,_=>trivial
  | t::ts,h,hu=>by
    simp only[zDJ] at h;simp only[zCt,Bool.or_eq_false_iff] at hu;exact ⟨zMS h.1 hu.1,zNW h.2 hu.2⟩
end
theorem zFa {t:Re} (h:zAz t):zMB t:=zMS (zEY h).1 (zEY h).2
mutual
def zDX (c:Int):Re→Re
  | .mk k s a m x g=>if k=2 then (if inS s c=true then zBT else zBa) else if k=3 then zFz c a
    else if k=4∨k=7∨k=8 then .mk k s (zEC c a) m x g
    else if k=5 then .mk 3 [] [(zEC c a).headD zBa,.mk k s a m x g] 0 0 false
    else if k=6 then (if x=0 then zBa else .mk 3 [] [(zEC c a).headD zBa,.mk 6 [] a (max 0 (m - 1)) (x - 1) false] 0 0 false)
    else zBa
def zEC (c:Int):List Re→List Re
  | []=>[]
  | t::ts=>zDX c t::zEC c ts
def zFz (c:Int):List Re→Re
  | []=>zBa
  | t::ts=>if ts=[] then zDX c t else (let x:=.mk 3 [] [zDX c t,.mk 3 [] ts 0 0 false] 0 0 false;if zBW t=true then .mk 4 [] [x,zFz c ts] 0 0 false else x)
end
theorem zLH (c:Int) (ts:List Re):zEC c ts=ts.map (zDX c):=by
  induction ts with
  | nil=>rfl
  | cons t ts ih=>simp[zEC,ih]
theorem zLN {k:Int} {a:List Re} (hk:k=3∨k=4) (h:∀x∈a,zMB x):zMB (.mk k [] a 0 0 false):=by
 refine ⟨⟨qO,rfl,fun _=>rfl,fun _=>⟨rfl,rfl⟩,qO,qO,qO,qO⟩,zIJ.2 h⟩
theorem zFu (k:Int) (s:List (Int×Int)) (a:List Re) (m x:Int) (g:Bool):zCz (.mk k s a m x g)=zCr k s (a.map zCz) m x g:=by rw[zCz,zCh]
theorem zMO {a:List Re} (h:∀x∈a,zAz x):a.map zCz=a:=by
 rw[←zCh];exact zKA (zCv.2 h)
theorem zTE {a:List Re} (hk:∀y∈a,y.kind≠0∧y.kind≠1∧y.kind≠3):zEz a=zCL 3 zBT a:=by
 unfold zEz;rw[zMi fun x hx=>(hk x hx).2.2,zRB fun x hx=>by simp[zCF,(hk x hx).2.1],if_neg];intro h;obtain ⟨x,hx,h0⟩:=List.any_eq_true.1 h;exact (hk x hx).1 (by simpa[zBc] using h0)
theorem zNh (a:List Re):zCr 3 [] a 0 0 false=zEz a:=by unfold zCr;rw[if_pos rfl]
mutual
/-- The derivative, brought to similar form, is the derivative that the program makes. -/
theorem zMR (c:Int):∀{t:Re},zAz t→zMB (zDX c t)∧zCz (zDX c t)=zBK c t
  | .mk k s a m x g,h=>by
    have hn:=h.1;have hsa:=zCv.1 h.2;have hid:zCz (.mk k s a m x g)=.mk k s a m x g:=zHA h;simp only[zDX,zBK];by_cases h2:k=2
    · rw[if_pos h2,if_pos h2];split
      · exact ⟨zFa zDp,zHA zDp⟩
      · exact ⟨zFa zDQ,zHA zDQ⟩
    rw[if_neg h2,if_neg h2];by_cases h3:k=3
    · rw[if_pos h3,if_pos h3];exact zNR c h.2 (hn.k3 h3).2 (fun e=>by have:=(hn.k3 h3).1;rw[e] at this;simp at this)
    rw[if_neg h3,if_neg h3];obtain ⟨i1,i2⟩:=zNP c h.2;by_cases h4:k=4∨k=7∨k=8
    · rw[if_pos h4,if_pos h4];obtain ⟨e1,e2⟩:=hn.mm qO;rw[hn.st h2,e1,e2,hn.ng];refine ⟨⟨⟨qO,rfl,fun _=>rfl,fun _=>⟨rfl,rfl⟩,qO,qO,fun h8=>?_,qO⟩,i1⟩,?_⟩
      · obtain ⟨y,rfl,_⟩:=hn.k8 qO;rfl
      · rw[zFu,←zCh,i2]
    rw[if_neg h4,if_neg h4];by_cases h5:k=5
    · rw[if_pos h5,if_pos h5];obtain ⟨y,rfl,_⟩:=hn.k5 h5;simp only[zEC,zBw,zCx,List.headD_cons,zIt,List.cons.injEq,and_true] at i1 i2⊢;refine ⟨zLN (.inl rfl) fun z hz=>?_,?_⟩
      · simp only[List.mem_cons,List.not_mem_nil,or_false] at hz;rcases hz with rfl|rfl
        · exact i1
        · exact zFa h
      · rw[zFu,zNh];simp only[List.map_cons,List.map_nil,i2,hid]
    rw[if_neg h5,if_neg h5];by_cases h6:k=6
    · rw[if_pos h6,if_pos h6];obtain ⟨y,rfl,_,_,m0,m1,m2,m3,_⟩:=hn.k6 h6;rw[if_neg m3];simp only[zEC,zBw,zCx,List.headD_cons,zIt,List.cons.injEq,and_true] at i1 i2⊢;refine ⟨zLN (.inl rfl) fun z hz=>?_,?_⟩
      · simp only[List.mem_cons,List.not_mem_nil,or_false] at hz;rcases hz with rfl|rfl
        · exact i1
        · refine ⟨⟨qO,rfl,fun _=>rfl,qO,qO,qO,fun _=>rfl,fun _=>qO⟩,zFa (hsa y qP),trivial⟩
      · rw[zFu,zNh];simp only[List.map_cons,List.map_nil,i2,zFu,zHA (hsa y qP)]
    rw[if_neg h6,if_neg h6];exact ⟨zFa zDQ,zHA zDQ⟩
theorem zNP (c:Int):∀{ts:List Re},zDe ts→zIt (zEC c ts)∧zCx (zEC c ts)=zBw c ts
  | [],_=>⟨trivial,rfl⟩
  | t::ts,h=>by
    obtain ⟨h1,h2⟩:=zMR c h.1;obtain ⟨h3,h4⟩:=zNP c h.2;exact ⟨⟨h1,h3⟩,by simp only[zEC,zCx,zBw,h2,h4]⟩
theorem zNR (c:Int):∀{ts:List Re},zDe ts→(∀y∈ts,y.kind≠0∧y.kind≠1∧y.kind≠3)→ts≠[]→zMB (zFz c ts)∧zCz (zFz c ts)=zEx c ts
  | [],_,_,h=>absurd rfl h
  | t::ts,h,hk,_=>by
    obtain ⟨h1,h2⟩:=zMR c h.1;simp only[zFz,zEx];by_cases hts:ts=[]
    · rw[if_pos hts,if_pos hts];exact ⟨h1,h2⟩
    rw[if_neg hts,if_neg hts];have hk2:∀y∈ts,y.kind≠0∧y.kind≠1∧y.kind≠3:=fun y hy=>hk y (by simp[hy]);obtain ⟨h3,h4⟩:=zNR c h.2 hk2 hts;have hs:=zCv.1 h.2;have hx:zMB (.mk 3 [] [zDX c t,.mk 3 [] ts 0 0 false] 0 0 false)∧zCz (.mk 3 [] [zDX c t,.mk 3 [] ts 0 0 false] 0 0 false)=zEz [zBK c t,zCL 3 zBT ts]:=by
      refine ⟨zLN (.inl rfl) fun z hz=>?_,?_⟩
      · simp only[List.mem_cons,List.not_mem_nil,or_false] at hz;rcases hz with rfl|rfl
        · exact h1
        · exact zLN (.inl rfl) fun y hy=>zFa (hs y hy)
      · rw[zFu,zNh];simp only[List.map_cons,List.map_nil,h2,zFu,zMO hs,zNh,zTE hk2]
    by_cases he:zBW t=true
    · simp only[if_pos he];refine ⟨zLN (.inr rfl) fun z hz=>?_,?_⟩
      · simp only[List.mem_cons,List.not_mem_nil,or_false] at hz;rcases hz with rfl|rfl
        · exact hx.1
        · exact h3
      · rw[zFu];simp only[List.map_cons,List.map_nil,hx.2,h4]
    · simp only[if_neg he];exact hx
end
theorem zPy (c:Int) (ts:List Re):(zEC c ts).length=ts.length:=by rw[zLH,List.length_map]
theorem zLI (c:Int):∀(l:List Re) (M:Nat),Re.sizes l≤M→(zFz c l).size≤Re.sizes (zEC c l)+l.length*(M+4)+1
  | [],M,h=>by simp[zFz,zEC,Re.sizes,zBa,Re.size]
  | t::ts,M,h=>by
    simp only[Re.sizes] at h;have ih:=zLI c ts M qO;simp only[zFz,zEC,Re.sizes,List.length_cons];have e:(ts.length+1)*(M+4)=ts.length*(M+4)+(M+4):=by rw[Nat.add_mul,Nat.one_mul]
    rw[e];split
    · omega
    · split
      · simp only[Re.size,Re.sizes];omega
      · simp only[Re.size,Re.sizes];omega
mutual
theorem zNQ (c:Int) (N:Nat):∀{t:Re},zAz t→t.size≤N→(zDX c t).size+(N+6)≤(N+6)*(2*t.size)
  | .mk k s a m x g,h,hN=>by
    have hn:=h.1;have hs0:(Re.mk k s a m x g).size=Re.sizes a+1:=by simp[Re.size]
    have ih:=zLG c N h.2 qO;have e:(N+6)*(2*(Re.sizes a+1))=(N+6)*(2*Re.sizes a)+2*(N+6):=by rw[Nat.mul_add 2,Nat.mul_add];omega
    have hone:1+(N+6)≤(N+6)*(2*(Re.sizes a+1)):=by rw[e];omega
    rw[hs0] at hN⊢;have hl:=zPy c a;simp only[zDX];split
    · split<;>exact hone
    split
    · have h3:=zLI c a N qO;have h4:a.length*(N+4)≤(N+6)*a.length:=by rw[Nat.mul_comm (N+6)];exact Nat.mul_le_mul_left _ qO
      rw[e];omega
    split
    · have h5:(Re.mk k s (zEC c a) m x g).size=Re.sizes (zEC c a)+1:=by simp[Re.size]
      rw[e,h5];omega
    split
    · rename_i hk
      obtain ⟨y,rfl,_⟩:=hn.k5 hk;simp only[Re.sizes,Re.size,zEC,List.headD_cons,List.length_cons,List.length_nil] at ih hN e⊢;rw[e];omega
    split
    · rename_i hk
      obtain ⟨y,rfl,_⟩:=hn.k6 hk;split
      · exact hone
      simp only[Re.sizes,Re.size,zEC,List.headD_cons,List.length_cons,List.length_nil] at ih hN e⊢;rw[e];omega
    · exact hone
theorem zLG (c:Int) (N:Nat):∀{ts:List Re},zDe ts→Re.sizes ts≤N→Re.sizes (zEC c ts)+(N+6)*ts.length≤(N+6)*(2*Re.sizes ts)
  | [],_,_=>by simp[zEC,Re.sizes]
  | t::ts,h,hN=>by
    simp only[Re.sizes] at hN;have h1:=zNQ c N h.1 qO;have h2:=zLG c N h.2 qO;simp only[zEC,Re.sizes,List.length_cons];have e1:(N+6)*(2*(t.size+Re.sizes ts))=(N+6)*(2*t.size)+(N+6)*(2*Re.sizes ts):=by rw[Nat.mul_add 2,Nat.mul_add]
    have e2:(N+6)*(ts.length+1)=(N+6)*ts.length+(N+6):=by rw[Nat.mul_add,Nat.mul_one]
    omega
end
theorem zPw {c:Int} {t:Re} (h:zAz t) (hs:t.size≤300):(zDX c t).size≤200000:=by
 have h1:=zNQ c 300 h hs;have h2:(300+6)*(2*t.size)≤(300+6)*600:=Nat.mul_le_mul_left _ qO;omega
end Go.Proofs
namespace Go.Proofs
open Go Go.Eng Go.Sort
set_option maxRecDepth 100000
abbrev TCi:Nat:=3
theorem zML (a b:List (Int×Int)):zKs (a++b)=zKs a++zKs b:=by
  induction a with
  | nil=>rfl
  | cons x a ih=>simp only[List.cons_append,zKs,ih]
theorem zRt (a:List (Int×Int)):(zKs a).length=2*a.length:=by
  induction a with
  | nil=>rfl
  | cons x a ih=>simp only[zKs,List.length_cons,ih];omega
theorem zGi (a b:List Re):zCY (a++b)=zCY a++zCY b:=by
  induction a with
  | nil=>rfl
  | cons x a ih=>simp only[List.cons_append,zCY,ih,List.append_assoc]
def zJF (t:Re) (k:Nat):List Int:=t.kind::zKs (t.set.take k)
def zGF (t:Re) (k:Nat):List Int:=zJF t t.set.length++[-1,t.mn,t.mx]++zCY (t.args.take k)
theorem zOx {t:Re} {k:Nat} {s:Int×Int} (h:t.set[k]?=some s):zJF t (k+1)=zJF t k++[s.1,s.2]:=by
 unfold zJF;rw[List.take_add_one,h,Option.toList_some,zML];rfl
theorem zHT {t:Re} {k:Nat} {x:Re} (h:t.args[k]?=some x):zGF t (k+1)=zGF t k++zCy x:=by
 unfold zGF;rw[List.take_add_one,h,Option.toList_some,zGi,zCY,zCY,List.append_nil];simp only[List.append_assoc]
theorem zIh (t:Re):zCy t=zGF t t.args.length++[-1]:=by
 unfold zGF zJF;rw[List.take_length,List.take_length];cases t;simp[zCy,Re.kind,Re.set,Re.args,Re.mn,Re.mx]
theorem zLp (t:Re) {k:Nat} (h:k≤t.set.length):(zJF t k).length=1+2*k:=by
 unfold zJF;rw[List.length_cons,zRt,List.length_take,Nat.min_eq_left h];omega
theorem zKY (t:Re) (k:Nat):(zGF t k).length+1≤(zCy t).length:=by
 rw[zIh t];unfold zGF;have:(zCY (t.args.take k)).length≤(zCY t.args).length:=by
  conv=>rhs;rw[←List.take_append_drop k t.args,zGi,List.length_append]
  omega
 simp only[List.length_append,List.length_cons,List.length_nil,List.take_length];omega
theorem zTA (t:Re):1+2*t.set.length+3≤(zCy t).length:=by
 have h1:=zKY t 0;have h2:=zLp t (Nat.le_refl _);unfold zGF at h1;simp only[List.take_zero,zCY,List.append_nil,List.length_append,List.length_cons,List.length_nil] at h1;omega
theorem zSz (t:Re) {k:Nat} {x:Re} (h:t.args[k]?=some x):(zGF t k).length+(zCy x).length+1≤(zCy t).length:=by
 have h1:=zKY t (k+1);rw[zHT h,List.length_append] at h1;exact h1
def ciG (l:List Int):Fct:=fun v w=>∃a c,v=.slice a l.length c∧zBt w v l
theorem zFP (l:List Int):zGq (ciG l):=by
 rintro v w w' e ⟨a,c,rfl,h⟩;exact ⟨a,c,rfl,h.ext e⟩
theorem zQE {w:World} {base n:Nat} {v:Value} {l:List Int} (h:w.ownsRow base TCi 1 v n (l.map (Value.int .i64))) (hn:n=l.length):zBt w v l:=by
 rw[←zQq l] at h;exact zDC h (by intro r hr;obtain ⟨x,_,rfl⟩:=List.mem_map.1 hr;rfl) (by simp[hn]) qD
theorem zTu:∀(n:Nat) (t:Re) (w0:World) (vs:List Value),t.size≤n→(zCy t).length≤100000000→zBG w0 t vs→
    Ret prog 187 #[.agg vs.toArray] w0 fun v w=>ciG (zCy t) v w∧Ext w0 w:=by
  intro n
  induction n with
  | zero=>intro t w0 vs hn;have:=t.size_pos;omega
  | succ n ih=>
  intro t w0 vs hn hL ht;have ht0:=ht;obtain ⟨sa,sc,aa,ac,rfl,aw,a6,ag⟩:=ht.form;have hLa:=zTA t;have hal:=zCB t;refine qR func187 rfl ntmps187 rfl (fun E=>(zAA (zBL (v:=(.agg (R6 t sa sc aa ac))) (c:=(R6 t sa sc aa ac)) qD rfl rfl ?_)));intro br wr Nr;have Fr:=Nr.ge E;replace E:=E.ext Nr.ext;have Br:=Nr.blk;refine qA _ rfl (zAB (zAA (qF br 0 0 rfl underlying25 rfl zAv rfl (qV (zAL rfl zAf (Br.cell rfl)) (zAh (ps:=[(0,(I6 t.kind))]) (c:=#[(I6 t.kind)]) qD rfl underlying26 zAv zFB qD qD qK ?_)))));intro bq wq Nq;have Fq:=Nq.ge E;have Oq_br:=Nq.lt Br;replace Br:=Nq.keep Br;replace E:=E.ext Nq.ext;have Bq:=Nq.blk;refine qA _ rfl (zAB (zAK (zAA (qF br 0 1 rfl underlying25 rfl zBm rfl (qV (zAL rfl zBe (Br.cell rfl)) (qV (zAM underlying22 rfl) (qM _ rfl (zAB (zAT ?_)))))))));obtain ⟨base,a5⟩:∃base,base=wr.heap.size:=⟨_,rfl⟩;have hb0:w0.heap.size≤base:=by have:=Nr.ext.size;omega
  have hbr:br<base:=by have:=Nr.size;have:=Nr.eq;omega
  have a7:=zNZ (base:=base) Bq (by have:=Nq.eq;omega);have aj:base≤wq.heap.size:=by have:=Nq.ext.size;omega
  refine zAq (fun nn_ σ W1=>∃(k:Nat) (la:Option Addr) (lc:Nat) (m:Nat),(∃jj_,σ=zCH jj_ [(1,(P6 br 0)),(12,(.slice sa t.set.length sc)),(13,(I6 (t.set.length:Int))),(14,(I6 (k:Int))),(3,(.slice la m lc))])∧Chg zAo w0 W1∧Blk W1 br (R6 t sa sc aa ac) 25∧(k≤t.set.length)∧(m=1+2*k)∧(W1.ownsRow base TCi 1 (.slice la m lc) m ((zJF t k).map (Value.int .i64)))∧(base≤W1.heap.size)∧nn_=t.set.length - k) (n:=t.set.length - 0) ?_ ?_
  · exact ⟨0,some ⟨bq,0,none⟩,1,1,zBA.out ⟨rfl,rfl,rfl,rfl,rfl,trivial⟩,E,Br,Nat.zero_le _,rfl,a7,aj,rfl⟩
  · clear E Br;rintro _ _ W1 ⟨k,la,lc,m,⟨j1,rfl⟩,E,Br,hk,hm,ad,af,rfl⟩;refine zAA (qV (zBH rfl rfl) (zAB (zAK (qC rfl (fun bi=>?_) (fun bi=>?_)))))
    · obtain ⟨s,hs⟩:=zAU (l:=t.set) (i:=k) qO;obtain ⟨b,o,rfl,ah⟩:=zBN aw qO;refine zAP (zAC (zAK (zAT (zAA (qV (zAH (b:=b) (o:=o) (len:=t.set.length) (cap:=sc) (i:=k) (o':=o+k*2) rfl rfl rfl underlying22 zBB qO qO) (qV (zAG rfl zCi zBB rfl ((ah k s hs).ext E)) (zAg (v:=(.agg #[(I6 s.1),(I6 s.2)])) (c:=#[(I6 s.1),(I6 s.2)]) (n:=2) qD zCb rfl zBB rfl rfl rfl qS ?_)))))));intro bz wz Nz;have Fz:=Nz.ge E;have Oz_br:=Nz.lt Br;replace Br:=Nz.keep Br;replace ad:=zAn ad Nz.ext;replace af:=Nat.le_trans af Nz.ext.size;replace E:=E.ext Nz.ext;have Bz:=Nz.blk;refine zAB (zAN (qM _ rfl (qF bz 0 0 rfl underlying103 rfl zAv rfl (qV (zAL rfl zAf (Bz.cell rfl)) (qF bz 0 1 rfl underlying103 rfl zAv rfl (qV (zAL rfl zAf (Bz.cell rfl)) (zAh (ps:=[(0,(I6 s.1)),(1,(I6 s.2))]) (c:=#[(I6 s.1),(I6 s.2)]) qD rfl underlying26 zAv zFB qD qD qK ?_)))))));intro bg wg Ng;have Fg:=Ng.ge E;have Og_br:=Ng.lt Br;have Og_bz:=Ng.lt Bz;replace Br:=Ng.keep Br;replace Bz:=Ng.keep Bz;replace ad:=zAn ad Ng.ext;replace af:=Nat.le_trans af Ng.ext.size;replace E:=E.ext Ng.ext;have Bg:=Ng.blk;refine zBC (base:=base) (n:=m) (m:=2) (xs:=((zJF t k).map (Value.int .i64))) (news:=[(I6 s.1),(I6 s.2)]) (size:=1) (bytes:=8) (v:=(.slice la m lc)) qD underlying26 zAv zPA zFB rfl qD rfl ad rfl (rfl) (Bg.cells rfl) qS (by unfold maxLen;omega) qO (af) ?_;intro v9 w29 az ai Dv9;replace Br:=ai.keep (fun h=>by have:=(ad.lt _ h).1;omega) Br;replace E:=E.step ai (fun x hx h=>absurd (ad.lt x h).1 qO);obtain ⟨ba,bc,rfl⟩:=zAw az;refine qA _ rfl (zAB (zAS (zAC (zAN (qV (zAy rfl rfl (zBV qO)) (qM _ rfl (zAB (zAC ?_))))))));exact ⟨t.set.length - (k+1),qO,k+1,ba,bc,m+2,zBA.out ⟨rfl,rfl,rfl,rfl,rfl,trivial⟩,E,Br,qO,qO,(by rw[zOx hs,List.map_append];exact az),Nat.le_trans af ai.size,rfl⟩
    · have be:k=t.set.length:=qO
      rw[be] at ad hm;refine zAp (zAX (zAX (zAj (zAC (zAA (qM _ rfl (qF br 0 3 rfl underlying25 rfl zAv rfl (qV (zAL rfl zAf (Br.cell rfl)) (qF br 0 4 rfl underlying25 rfl zAv rfl (qV (zAL rfl zAf (Br.cell rfl)) (zAh (ps:=[(0,(I6 (-1))),(1,(I6 t.mn)),(2,(I6 t.mx))]) (c:=#[(I6 (-1)),(I6 t.mn),(I6 t.mx)]) qD rfl underlying26 zAv zFB qD qD qK ?_)))))))))));intro bx wx Nx;have Fx:=Nx.ge E;have Ox_br:=Nx.lt Br;replace Br:=Nx.keep Br;replace ad:=zAn ad Nx.ext;replace af:=Nat.le_trans af Nx.ext.size;replace E:=E.ext Nx.ext;have Bx:=Nx.blk;refine zBC (base:=base) (n:=m) (m:=3) (xs:=((zJF t t.set.length).map (Value.int .i64))) (news:=[(I6 (-1)),(I6 t.mn),(I6 t.mx)]) (size:=1) (bytes:=8) (v:=(.slice la m lc)) qD underlying26 zAv zPA zFB rfl qD rfl ad rfl (rfl) (Bx.cells rfl) qS (by unfold maxLen;omega) qO (af) ?_;intro v8 w28 a4 ap Dv8;replace Br:=ap.keep (fun h=>by have:=(ad.lt _ h).1;omega) Br;replace E:=E.step ap (fun x hx h=>absurd (ad.lt x h).1 qO);obtain ⟨bh,a8,rfl⟩:=zAw a4;have au:=Nat.le_trans af ap.size;refine qA _ rfl (zAB (zAK (zAA (qF br 0 2 rfl underlying25 rfl zBS rfl (qV (zAL rfl zBE (Br.cell rfl)) (qV (zAM underlying23 rfl) (qM _ rfl (zAB (zAT (zAq (fun nn_ σ W3=>∃(j:Nat) (da:Option Addr) (dc:Nat) (d:Nat),(∃jj_,σ=zCH jj_ [(34,(.slice aa t.args.length ac)),(35,(I6 (t.args.length:Int))),(36,(I6 (j:Int))),(3,(.slice da d dc))])∧Chg zAo w0 W3∧Blk W3 br (R6 t sa sc aa ac) 25∧(j≤t.args.length)∧(d=(zGF t j).length)∧(W3.ownsRow base TCi 1 (.slice da d dc) d ((zGF t j).map (Value.int .i64)))∧(base≤W3.heap.size)∧nn_=t.args.length - j) (n:=t.args.length - 0) ?_ ?_))))))))))
      · exact ⟨0,bh,a8,m+3,zBA.out ⟨rfl,rfl,rfl,rfl,trivial⟩,E,Br,Nat.zero_le _,(by unfold zGF;simp only[List.take_zero,zCY,List.append_nil,List.length_append,zLp t (Nat.le_refl _),List.length_cons,List.length_nil];omega),(by unfold zGF;simp only[List.take_zero,zCY,List.append_nil,List.map_append];exact a4),au,rfl⟩
      · clear E Br;rintro _ _ W3 ⟨j,da,dc,d,⟨j3,rfl⟩,E,Br,hj,hd,ab,ae,rfl⟩;refine zAA (qV (zBH rfl rfl) (zAB (zAK (qC rfl (fun al=>?_) (fun al=>?_)))))
        · obtain ⟨x,hx⟩:=zAU (l:=t.args) (i:=j) qO;obtain ⟨b,o,rfl,aq⟩:=zDy ag qO;obtain ⟨us,bd,ay⟩:=aq.get hx;have ao:=ay;obtain ⟨am,an,ak,av,rfl,_,_,_⟩:=ay.form;have hge:=zSz t hx;have hxz:=Re.size_arg hx;refine zAP (zAC (zAK (zAT (zAA (qV (zAH (b:=b) (o:=o) (len:=t.args.length) (cap:=ac) (i:=j) (o':=o+j*6) rfl rfl rfl underlying23 zAO qO qO) (qV (zAG rfl zAc zAO rfl (bd.ext E)) (zAg (v:=(.agg (R6 x am an ak av))) (c:=(R6 x am an ak av)) (n:=6) qD zAu rfl zAO rfl rfl rfl qS ?_)))))));intro bz wz Nz;have Fz:=Nz.ge E;have Oz_br:=Nz.lt Br;replace Br:=Nz.keep Br;replace ab:=zAn ab Nz.ext;replace ae:=Nat.le_trans ae Nz.ext.size;replace E:=E.ext Nz.ext;have Bz:=Nz.blk;refine zAB (zAN (qM _ rfl (qV (zAG (vs:=[(I6 x.kind),(.slice am x.set.length an),(.slice ak x.args.length av),(I6 x.mn),(I6 x.mx),(.bool x.neg)]) rfl zAc zAO rfl (Bz.cells rfl)) (qE rfl (zAV func187 zUy zVk rfl) (ih x _ _ qO qO (zBG.ext E x ao)) ?_))));rintro _ w9 ⟨⟨ca,cc,rfl,hI⟩,X9⟩;replace Br:=X9.keep Br;replace Bz:=X9.keep Bz;replace ab:=zAn ab X9;replace ae:=Nat.le_trans ae X9.size;replace E:=E.ext X9;refine zMP (base:=base) (n:=d) (m:=((zCy x).length)) (xs:=((zGF t j).map (Value.int .i64))) (news:=(zCy x).map (Value.int .i64)) (size:=1) (bytes:=8) (v:=(.slice da d dc)) qD underlying26 zAv zPA zFB rfl qD rfl ab rfl qP (zSY hI) qS (by unfold maxLen;omega) qO (ae) ?_;intro v7 w27 a3 ar Dv7;replace Br:=ar.keep (fun h=>by have:=(ab.lt _ h).1;omega) Br;replace E:=E.step ar (fun x hx h=>absurd (ab.lt x h).1 qO);obtain ⟨bf,a9,rfl⟩:=zAw a3;refine qA _ rfl (zAB (zAS (zAC (zAN (qV (zAy rfl rfl (zBV qO)) (qM _ rfl (zAB (zAC ?_))))))));exact ⟨t.args.length - (j+1),qO,j+1,bf,a9,d+(zCy x).length,zBA.out ⟨rfl,rfl,rfl,rfl,trivial⟩,E,Br,qO,(by rw[zHT hx,List.length_append,hd]),(by rw[zHT hx,List.map_append];exact a3),Nat.le_trans ae ar.size,rfl⟩
        · have bb:j=t.args.length:=qO
          rw[bb] at ab hd;have hle:=zKY t t.args.length;refine zAp (zAX (zAX (zAj (zAC (zAA (qM _ rfl (zAh (ps:=[(0,(I6 (-1)))]) (c:=#[(I6 (-1))]) qD rfl underlying26 zAv zFB qD qD qK ?_)))))));intro bg wg Ng;have Fg:=Ng.ge E;have Og_br:=Ng.lt Br;replace Br:=Ng.keep Br;replace ab:=zAn ab Ng.ext;replace ae:=Nat.le_trans ae Ng.ext.size;replace E:=E.ext Ng.ext;have Bg:=Ng.blk;refine zBC (base:=base) (n:=d) (m:=1) (xs:=((zGF t t.args.length).map (Value.int .i64))) (news:=[(I6 (-1))]) (size:=1) (bytes:=8) (v:=(.slice da d dc)) qD underlying26 zAv zPA zFB rfl qD rfl ab rfl (rfl) (Bg.cells rfl) qS (by unfold maxLen;omega) qO (ae) ?_;intro v6 w26 a0 a1 Dv6;replace Br:=a1.keep (fun h=>by have:=(ab.lt _ h).1;omega) Br;replace E:=E.step a1 (fun x hx h=>absurd (ab.lt x h).1 qO);obtain ⟨a2,ax,rfl⟩:=zAw a0;refine qA _ rfl (zAB (zAR (zAW results187 (v:=(.slice a2 (d+1) ax)) rfl ?_)));have ah:(zCy t).length=d+1:=by rw[zIh t,List.length_append,hd];rfl
          refine ⟨⟨a2,ax,by rw[ah],zQE (base:=base) (n:=d+1) ?_ ah.symm⟩,E⟩;rw[zIh t,List.map_append];exact a0
theorem zXE (l:List Int):zIz l []=l.length:=by cases l<;>simp[zIz]
theorem zXF (l:List Int):zIz [] l=0 - (l.length:Int):=by simp[zIz]
theorem zOZ (w0:World) (t u:Re) (vs us:List Value) (ht:zBG w0 t vs) (hu:zBG w0 u us) (hLt:(zCy t).length≤100000000) (hLu:(zCy u).length≤100000000) :
  Ret prog 171 #[.agg vs.toArray,.agg us.toArray] w0 fun v w=>v=.int .i64 (zIz (zCy t) (zCy u))∧Ext w0 w:=by
 have au:=ht;have bg:=hu;obtain ⟨sa,sc,aa,ac,rfl,_,_,_⟩:=ht.form;obtain ⟨af,ai,ag,ah,rfl,_,_,_⟩:=hu.form;obtain ⟨A,hA⟩:∃A,A=zCy t:=⟨_,rfl⟩;obtain ⟨B,hB⟩:∃B,B=zCy u:=⟨_,rfl⟩;rw[←hA,←hB];rw[←hA] at hLt;rw[←hB] at hLu;refine qR func171 rfl ntmps171 rfl (fun E=>(zAA (zBL (v:=(.agg (R6 t sa sc aa ac))) (c:=(R6 t sa sc aa ac)) qD rfl rfl ?_)));intro br wr Nr;have Fr:=Nr.ge E;replace E:=E.ext Nr.ext;have Br:=Nr.blk;refine zBL (v:=(.agg (R6 u af ai ag ah))) (c:=(R6 u af ai ag ah)) qD rfl rfl ?_;intro bp wp Np;have Fp:=Np.ge E;have Op_br:=Np.lt Br;replace Br:=Np.keep Br;replace E:=E.ext Np.ext;have Bp:=Np.blk;refine qA _ rfl (zAB (zAK ?_));obtain ⟨a2,ae⟩:∃Fs:List Fact,Fs=[.eq (.agg (R6 t sa sc aa ac)),.gen (ciG A) (zFP _),.eq (.agg (R6 u af ai ag ah)),.gen (ciG B) (zFP _),.gen (ciG A) (zFP _),.gen (ciG B) (zFP _)]:=⟨_,rfl⟩;refine zEA [8,9,10,11,5,6] [[],[0],[],[1,2],[0,1,3],[0,1,2,3,4]] a2 ae mixed qK qK ?_ ?_
 ·intro wd X0;refine DagSteps.cons (fun s' w' X U H=>Or.inl ⟨?_,?_⟩) ?_
  ·exact zAD rfl
  ·exact zAJ (zAG (U 2 rfl) zAc zAO rfl (((X0.trans X).keep Br).cells rfl)) (Ext.refl _) rfl
  refine DagSteps.cons (fun s' w' X U H=>Or.inl ⟨?_,?_⟩) ?_
  ·exact zAD rfl
  ·have e8:s' 8=(.agg #[(.int .i64 t.kind),(.slice sa t.set.length sc),(.slice aa t.args.length ac),(.int .i64 t.mn),(.int .i64 t.mx),(.bool t.neg)]):=H 0 rfl 8 (.eq (.agg #[(.int .i64 t.kind),(.slice sa t.set.length sc),(.slice aa t.args.length ac),(.int .i64 t.mn),(.int .i64 t.mx),(.bool t.neg)])) rfl (by rw[ae];rfl);exact zAs (zAV func187 zUy zVk (zOj e8)) ((zTu t.size t _ _ (Nat.le_refl _) (by rw[←hA];exact hLt) (zBG.ext (Ext.trans E (X0.trans X)) t au)).mono (fun v w h=>by rw[hA];exact h))
  refine DagSteps.cons (fun s' w' X U H=>Or.inl ⟨?_,?_⟩) ?_
  ·exact zAD rfl
  ·exact zAJ (zAG (U 3 rfl) zAc zAO rfl (((X0.trans X).keep Bp).cells rfl)) (Ext.refl _) rfl
  refine DagSteps.cons (fun s' w' X U H=>Or.inl ⟨?_,?_⟩) ?_
  ·exact zAD rfl
  ·have ar:s' 10=(.agg #[(.int .i64 u.kind),(.slice af u.set.length ai),(.slice ag u.args.length ah),(.int .i64 u.mn),(.int .i64 u.mx),(.bool u.neg)]):=H 2 rfl 10 (.eq (.agg #[(.int .i64 u.kind),(.slice af u.set.length ai),(.slice ag u.args.length ah),(.int .i64 u.mn),(.int .i64 u.mx),(.bool u.neg)])) rfl (by rw[ae];rfl);exact zAs (zAV func187 zUy zVk (zOj ar)) ((zTu u.size u _ _ (Nat.le_refl _) (by rw[←hB];exact hLu) (zBG.ext (Ext.trans E (X0.trans X)) u bg)).mono (fun v w h=>by rw[hB];exact h))
  refine DagSteps.cons (fun s' w' X U H=>Or.inl ⟨?_,?_⟩) ?_
  ·exact zAD rfl
  ·exact zAJ (zEI rfl) (Ext.refl _) (H 1 rfl 9 (.gen (ciG A) (zFP _)) rfl (by rw[ae];rfl))
  refine DagSteps.cons (fun s' w' X U H=>Or.inl ⟨?_,?_⟩) ?_
  ·exact zAD rfl
  ·exact zAJ (zEI rfl) (Ext.refl _) (H 3 rfl 11 (.gen (ciG B) (zFP _)) rfl (by rw[ae];rfl))
  exact DagSteps.nil
 ·intro s' w1 X1 U H;obtain ⟨a5,c5,e5,i5⟩:=H 4 5 (.gen (ciG A) (zFP _)) rfl (by rw[ae];rfl);obtain ⟨a6,c6,e6,i6⟩:=H 5 6 (.gen (ciG B) (zFP _)) rfl (by rw[ae];rfl);obtain ⟨j1,rfl⟩:=zBA.out (σ:=s') (l:=[(5,(.slice a5 A.length c5)),(6,(.slice a6 B.length c6))]) ⟨e5,e6,trivial⟩;clear U H;replace Br:=X1.keep Br;replace Bp:=X1.keep Bp;replace E:=E.ext X1;have E2:Chg zAo w1 w1:=Chg.refl _ _;refine zAC (zAK (zAA (qA _ rfl (zAB (zAT (zAq (fun nn_ σ W2=>∃(k:Nat),(∃jj_,σ=zCH jj_ [(5,(.slice a5 A.length c5)),(6,(.slice a6 B.length c6)),(7,(I6 (k:Int)))])∧Chg zAo w0 W2∧Chg zAo w1 W2∧Blk W2 br (R6 t sa sc aa ac) 25∧Blk W2 bp (R6 u af ai ag ah) 25∧(k≤A.length∧k≤B.length)∧(zIz A B=zIz (A.drop k) (B.drop k))∧nn_=A.length - k) (n:=A.length - 0) ?_ ?_))))))
  ·exact ⟨0,zBA.out ⟨rfl,rfl,rfl,trivial⟩,E,E2,Br,Bp,⟨Nat.zero_le _,Nat.zero_le _⟩,rfl,rfl⟩
  ·clear E E2 Br Bp;rintro _ _ W2 ⟨k,⟨j2,rfl⟩,E,E2,Br,Bp,hk,hp,rfl⟩;refine zAK (zAA (qM _ rfl (qM _ rfl (qV (zAM underlying26 rfl) (qV (zBH rfl rfl) (qM _ rfl ?_))))));rcases Bool.eq_false_or_eq_true (decide ((((k:Nat):Int):Int)<((A.length:Nat):Int))) with g1|g1
   ·have aj:=g1;replace aj:=of_decide_eq_true aj;refine zAF rfl rfl qD (cbk g1) (qM _ rfl (zAF rfl rfl qD (cbk g1) (qM _ rfl (zAF rfl rfl qD (cbk g1) (qV (zAM underlying26 rfl) (zAF rfl rfl qD (cbk g1) (qV (zBH rfl rfl) (qV (zAd (v:=(.bool (decide (((k:Int):Int)<(B.length:Int))))) rfl (by rw[g1];rfl)) (zAB (qC rfl (fun g2=>?_) (fun g2=>?_)))))))))))
    ·obtain ⟨x,hx⟩:=zAU (l:=A) (i:=k) qO;obtain ⟨y,hy⟩:=zAU (l:=B) (i:=k) qO;obtain ⟨xb,xo,rfl,ap⟩:=zBu (n:=A.length) i5 qO;obtain ⟨yb,yo,rfl,ao⟩:=zBu (n:=B.length) i6 qO;have am:=zBU hx;have an:=zBU hy;refine zAP (zAC (zAK (zAT (zAK ?_))));obtain ⟨a3,ab⟩:∃Fs:List Fact,Fs=[.eq (.slice (some ⟨xb,xo,none⟩) A.length c5),.eq (I6 (k:Int)),.eq (.pointer (some ⟨xb,xo+k,none⟩)),.eq (I6 x),.eq (.slice (some ⟨yb,yo,none⟩) B.length c6),.eq (I6 (k:Int)),.eq (.pointer (some ⟨yb,yo+k,none⟩)),.eq (I6 y),.eq (.bool (decide (x≠y)))]:=⟨_,rfl⟩;refine zEA [24,25,26,27,28,29,30,31,32] [[],[],[0,1],[2],[],[],[4,5],[6],[3,7]] a3 ab mixed qK qK ?_ ?_
     ·intro wd X0;refine DagSteps.cons (fun s' w' X U H=>Or.inl ⟨?_,?_⟩) ?_
      ·exact zAD rfl
      ·exact zAJ (zAi (U 5 rfl)) (Ext.refl _) rfl
      refine DagSteps.cons (fun s' w' X U H=>Or.inl ⟨?_,?_⟩) ?_
      ·exact zAD rfl
      ·exact zAJ (zAi (U 7 rfl)) (Ext.refl _) rfl
      refine DagSteps.cons (fun s' w' X U H=>Or.inl ⟨?_,?_⟩) ?_
      ·exact zAD rfl
      ·have be:s' 24=(.slice (some ⟨xb,xo,none⟩) A.length c5):=H 0 rfl 24 (.eq (.slice (some ⟨xb,xo,none⟩) A.length c5)) rfl (by rw[ab];rfl);have a9:s' 25=(.int .i64 ((k:Nat):Int)):=H 1 rfl 25 (.eq (.int .i64 ((k:Nat):Int))) rfl (by rw[ab];rfl);exact zAJ (zAH (i:=k) be a9 rfl underlying26 zAv qO qO) (Ext.refl _) rfl
      refine DagSteps.cons (fun s' w' X U H=>Or.inl ⟨?_,?_⟩) ?_
      ·exact zAD rfl
      ·have az:s' 26=(.pointer (some ⟨xb,xo+k,none⟩)):=H 2 rfl 26 (.eq (.pointer (some ⟨xb,xo+k,none⟩))) rfl (by rw[ab];rfl);exact zAJ (zAL az zAf (Ext.cell (Ext.trans E2 (X0.trans X)) (ap k x hx))) (Ext.refl _) rfl
      refine DagSteps.cons (fun s' w' X U H=>Or.inl ⟨?_,?_⟩) ?_
      ·exact zAD rfl
      ·exact zAJ (zAi (U 6 rfl)) (Ext.refl _) rfl
      refine DagSteps.cons (fun s' w' X U H=>Or.inl ⟨?_,?_⟩) ?_
      ·exact zAD rfl
      ·exact zAJ (zAi (U 7 rfl)) (Ext.refl _) rfl
      refine DagSteps.cons (fun s' w' X U H=>Or.inl ⟨?_,?_⟩) ?_
      ·exact zAD rfl
      ·have a1:s' 28=(.slice (some ⟨yb,yo,none⟩) B.length c6):=H 4 rfl 28 (.eq (.slice (some ⟨yb,yo,none⟩) B.length c6)) rfl (by rw[ab];rfl);have aq:s' 29=(.int .i64 ((k:Nat):Int)):=H 5 rfl 29 (.eq (.int .i64 ((k:Nat):Int))) rfl (by rw[ab];rfl);exact zAJ (zAH (i:=k) a1 aq rfl underlying26 zAv qO qO) (Ext.refl _) rfl
      refine DagSteps.cons (fun s' w' X U H=>Or.inl ⟨?_,?_⟩) ?_
      ·exact zAD rfl
      ·have av:s' 30=(.pointer (some ⟨yb,yo+k,none⟩)):=H 6 rfl 30 (.eq (.pointer (some ⟨yb,yo+k,none⟩))) rfl (by rw[ab];rfl);exact zAJ (zAL av zAf (Ext.cell (Ext.trans E2 (X0.trans X)) (ao k y hy))) (Ext.refl _) rfl
      refine DagSteps.cons (fun s' w' X U H=>Or.inl ⟨?_,?_⟩) ?_
      ·exact zAD rfl
      ·have bh:s' 27=(.int .i64 x):=H 3 rfl 27 (.eq (.int .i64 x)) rfl (by rw[ab];rfl);have bb:s' 31=(.int .i64 y):=H 7 rfl 31 (.eq (.int .i64 y)) rfl (by rw[ab];rfl);exact zAJ (zBo bh bb) (Ext.refl _) rfl
      exact DagSteps.nil
     ·intro s' w5 X5 U H;obtain ⟨j5,rfl⟩:=zBA.out (σ:=s') (l:=[(5,(.slice (some ⟨xb,xo,none⟩) A.length c5)),(6,(.slice (some ⟨yb,yo,none⟩) B.length c6)),(7,(.int .i64 ((k:Nat):Int))),(32,(.bool (decide (x≠y))))]) ⟨U 5 rfl,U 6 rfl,U 7 rfl,(show s' 32=(.bool (decide (x≠y))) from H 8 32 (.eq (.bool (decide (x≠y)))) rfl (by rw[ab];rfl)),trivial⟩;clear U H;replace Br:=X5.keep Br;replace Bp:=X5.keep Bp;replace E:=E.ext X5;replace E2:=E2.ext X5;refine zAC (qC rfl (fun ak=>?_) (fun ak=>?_))
      ·refine zAK (zAK ?_);obtain ⟨ba,ad⟩:∃Fs:List Fact,Fs=[.eq (.slice (some ⟨xb,xo,none⟩) A.length c5),.eq (I6 (k:Int)),.eq (.pointer (some ⟨xb,xo+k,none⟩)),.eq (I6 x),.eq (.slice (some ⟨yb,yo,none⟩) B.length c6),.eq (I6 (k:Int)),.eq (.pointer (some ⟨yb,yo+k,none⟩)),.eq (I6 y),.eq (.bool (decide (x<y)))]:=⟨_,rfl⟩;refine zEA [33,34,35,36,37,38,39,40,41] [[],[],[0,1],[2],[],[],[4,5],[6],[3,7]] ba ad mixed qK qK ?_ ?_
       ·intro wd X0;refine DagSteps.cons (fun s' w' X U H=>Or.inl ⟨?_,?_⟩) ?_
        ·exact zAD rfl
        ·exact zAJ (zAi (U 5 rfl)) (Ext.refl _) rfl
        refine DagSteps.cons (fun s' w' X U H=>Or.inl ⟨?_,?_⟩) ?_
        ·exact zAD rfl
        ·exact zAJ (zAi (U 7 rfl)) (Ext.refl _) rfl
        refine DagSteps.cons (fun s' w' X U H=>Or.inl ⟨?_,?_⟩) ?_
        ·exact zAD rfl
        ·have a0:s' 33=(.slice (some ⟨xb,xo,none⟩) A.length c5):=H 0 rfl 33 (.eq (.slice (some ⟨xb,xo,none⟩) A.length c5)) rfl (by rw[ad];rfl);have a8:s' 34=(.int .i64 ((k:Nat):Int)):=H 1 rfl 34 (.eq (.int .i64 ((k:Nat):Int))) rfl (by rw[ad];rfl);exact zAJ (zAH (i:=k) a0 a8 rfl underlying26 zAv qO qO) (Ext.refl _) rfl
        refine DagSteps.cons (fun s' w' X U H=>Or.inl ⟨?_,?_⟩) ?_
        ·exact zAD rfl
        ·have bc:s' 35=(.pointer (some ⟨xb,xo+k,none⟩)):=H 2 rfl 35 (.eq (.pointer (some ⟨xb,xo+k,none⟩))) rfl (by rw[ad];rfl);exact zAJ (zAL bc zAf (Ext.cell (Ext.trans E2 (X0.trans X)) (ap k x hx))) (Ext.refl _) rfl
        refine DagSteps.cons (fun s' w' X U H=>Or.inl ⟨?_,?_⟩) ?_
        ·exact zAD rfl
        ·exact zAJ (zAi (U 6 rfl)) (Ext.refl _) rfl
        refine DagSteps.cons (fun s' w' X U H=>Or.inl ⟨?_,?_⟩) ?_
        ·exact zAD rfl
        ·exact zAJ (zAi (U 7 rfl)) (Ext.refl _) rfl
        refine DagSteps.cons (fun s' w' X U H=>Or.inl ⟨?_,?_⟩) ?_
        ·exact zAD rfl
        ·have a4:s' 37=(.slice (some ⟨yb,yo,none⟩) B.length c6):=H 4 rfl 37 (.eq (.slice (some ⟨yb,yo,none⟩) B.length c6)) rfl (by rw[ad];rfl);have ax:s' 38=(.int .i64 ((k:Nat):Int)):=H 5 rfl 38 (.eq (.int .i64 ((k:Nat):Int))) rfl (by rw[ad];rfl);exact zAJ (zAH (i:=k) a4 ax rfl underlying26 zAv qO qO) (Ext.refl _) rfl
        refine DagSteps.cons (fun s' w' X U H=>Or.inl ⟨?_,?_⟩) ?_
        ·exact zAD rfl
        ·have bf:s' 39=(.pointer (some ⟨yb,yo+k,none⟩)):=H 6 rfl 39 (.eq (.pointer (some ⟨yb,yo+k,none⟩))) rfl (by rw[ad];rfl);exact zAJ (zAL bf zAf (Ext.cell (Ext.trans E2 (X0.trans X)) (ao k y hy))) (Ext.refl _) rfl
        refine DagSteps.cons (fun s' w' X U H=>Or.inl ⟨?_,?_⟩) ?_
        ·exact zAD rfl
        ·have a7:s' 36=(.int .i64 x):=H 3 rfl 36 (.eq (.int .i64 x)) rfl (by rw[ad];rfl);have aw:s' 40=(.int .i64 y):=H 7 rfl 40 (.eq (.int .i64 y)) rfl (by rw[ad];rfl);exact zAJ (zBH a7 aw) (Ext.refl _) rfl
        exact DagSteps.nil
       ·intro s' w7 X7 U H;obtain ⟨j7,rfl⟩:=zBA.out (σ:=s') (l:=[(41,(.bool (decide (x<y))))]) ⟨(show s' 41=(.bool (decide (x<y))) from H 8 41 (.eq (.bool (decide (x<y)))) rfl (by rw[ad];rfl)),trivial⟩;clear U H;replace Br:=X7.keep Br;replace Bp:=X7.keep Bp;replace E:=E.ext X7;replace E2:=E2.ext X7;refine zAC (qC rfl (fun al=>?_) (fun al=>?_))
        ·refine zAA (qA _ rfl (zAB (zAR (zAI (zAZ (zAI (zAI (zAZ (zAI (zAW results171 (v:=(.int .i64 (-1))) rfl ?_))))))))));exact ⟨zBO (by rw[hp,am,an];simp only[zIz];rw[if_neg (by simpa using ak),if_pos al]),E⟩
        ·refine zAP (zAC (zAA (qA _ rfl (zAB (zAR (zAZ (zAI (zAI (zAZ (zAI (zAW results171 (v:=(.int .i64 1)) rfl ?_)))))))))));exact ⟨zBO (by rw[hp,am,an];simp only[zIz];rw[if_neg (by simpa using ak),if_neg al]),E⟩
      ·refine zAP (zAS (zAC (zAN (qM _ rfl (qV (zAy rfl rfl (zBV qO)) (qA _ rfl (zAB (zAC ?_))))))));exact ⟨A.length - (k+1),qO,k+1,zBA.out ⟨rfl,rfl,rfl,trivial⟩,E,E2,Br,Bp,⟨qO,qO⟩,(by rw[hp,am,an];simp only[zIz];rw[if_pos (by simpa using ak)]),rfl⟩
    ·have ay:k=B.length:=qO
     refine zAp (zAX (zAX (zAj (zAC (zAA (qM _ rfl (qV (zAM underlying26 rfl) (qM _ rfl (qV (zAM underlying26 rfl) (qV (zDS rfl rfl (zBV qO)) (qA _ rfl (zAB (zAR (zAW results171 (v:=(.int .i64 (((A.length:Nat):Int) - ((B.length:Nat):Int)))) rfl ?_))))))))))))));exact ⟨zBO (by rw[hp,ay,List.drop_length,zXE,List.length_drop];omega),E⟩
   ·have aj:=g1;replace aj:=of_decide_eq_false aj;have bd:k=A.length:=qO
    refine zAE rfl rfl qD (v:=.bool false) (cbk g1) (Or.inl rfl) (zAE rfl rfl qD (v:=.bool false) (cbk g1) (Or.inl rfl) (zAE rfl rfl qD (v:=.bool false) (cbk g1) (Or.inl rfl) (zAE rfl rfl qD (v:=.bool false) (cbk g1) (Or.inl rfl) (qV (zAd (v:=(.bool false)) rfl (by rw[g1];rfl)) (zAB (zAb rfl (zAp (zAX (zAX (zAj (zAC (zAA (qM _ rfl (qV (zAM underlying26 rfl) (qM _ rfl (qV (zAM underlying26 rfl) (qV (zDS rfl rfl (zBV qO)) (qA _ rfl (zAB (zAR ?_))))))))))))))))))));refine zAW results171 (v:=(.int .i64 (((A.length:Nat):Int) - ((B.length:Nat):Int)))) rfl ?_;exact ⟨zBO (by rw[hp,bd,List.drop_length,zXF,List.length_drop];omega),E⟩
end Go.Proofs
namespace Go.Proofs
open Go Go.Eng
instance (k:Int):Decidable (isL k):=by unfold isL;infer_instance
end Go.Proofs
