/- Contracts and plain lemmas, part 6. -/
import Derived.Test.YtfbglkkidenifaaGreatDl5
open Go.Proofs.Tryz
set_option maxHeartbeats 16000000
set_option linter.unusedVariables false
namespace Go.Proofs
open Go Go.Eng Go.Sort
set_option maxRecDepth 100000
theorem zXv (w0:World) (lo hi:Int):Ret prog 124 #[.int .i64 lo,.int .i64 hi] w0 fun v w=>v=.agg #[.int .i64 lo,.int .i64 hi]∧Ext w0 w:=by
 refine qR func124 rfl ntmps124 rfl (fun E=>(zAA (zBJ (c:=#[(I6 0),(I6 0)]) qD zCb rfl ?_)));intro b1 w1 N1;have F1:=N1.ge E;replace E:=E.ext N1.ext;have B1:=N1.blk;refine zAB (zAA (qM _ rfl (qM _ rfl (qV (zBd (ps:=[(0,(I6 lo)),(1,(I6 hi))]) (v:=(.agg #[(I6 lo),(I6 hi)])) rfl qK) (zAY (b:=b1) (o:=0) (c':=#[(I6 lo),(I6 hi)]) rfl rfl qS zBB rfl B1 qL rfl ?_)))));intro w2 S2;replace E:=S2.step E qQ;replace B1:=S2.blk;refine zAB (zAR (zAr results124 (vs:=[(.int .i64 lo),(.int .i64 hi)]) (b:=b1) rfl zCi zBB rfl (B1.cells rfl) ?_));exact ⟨rfl,E⟩
theorem zMc (w0:World) (r:Int):Ret prog 64 #[.int .i64 r] w0 fun v w=>(∃b,v=.agg #[.int .i64 2,.slice (some ⟨b,0,none⟩) 1 1,.slice none 0 0,.int .i64 0,.int .i64 0,.bool false]∧zBG w (zNd r) [.int .i64 2,.slice (some ⟨b,0,none⟩) 1 1,.slice none 0 0,.int .i64 0,.int .i64 0,.bool false])∧Ext w0 w:=by
 refine qR func64 rfl ntmps64 rfl (fun E=>(zAA (zBJ (c:=#[(I6 0),(.slice none 0 0),(.slice none 0 0),(I6 0),(I6 0),(.bool false)]) qD zAu rfl ?_)));intro bo wo No;have Fo:=No.ge E;replace E:=E.ext No.ext;have Bo:=No.blk;refine zAB (zAA (qM _ rfl (qM _ rfl (qE rfl (zAV func124 zYy zaE rfl) (zXv _ r r) ?_))));rintro _ w9 ⟨rfl,X9⟩;replace Bo:=X9.keep Bo;replace E:=E.ext X9;refine zAh (ps:=[(0,(.agg #[(I6 r),(I6 r)]))]) (c:=#[(I6 r),(I6 r)]) qD rfl underlying22 zBB zCb qD qD qK ?_;intro bs ws Ns;have Fs:=Ns.ge E;have Os_bo:=Ns.lt Bo;replace Bo:=Ns.keep Bo;replace E:=E.ext Ns.ext;have Bs:=Ns.blk;refine qV (zBd (ps:=[(0,(I6 2)),(1,(.slice (some ⟨bs,0,none⟩) 1 1))]) (v:=(.agg #[(I6 2),(.slice (some ⟨bs,0,none⟩) 1 1),(.slice none 0 0),(I6 0),(I6 0),(.bool false)])) rfl qK) (zAY (b:=bo) (o:=0) (c':=#[(I6 2),(.slice (some ⟨bs,0,none⟩) 1 1),(.slice none 0 0),(I6 0),(I6 0),(.bool false)]) rfl rfl qS zAO rfl Bo qL rfl ?_);intro w1 S1;replace Bs:=S1.keep qO Bs;replace E:=S1.step E qQ;replace Bo:=S1.blk;refine zAB (zAR (zAr results64 (vs:=[(.int .i64 2),(.slice (some ⟨bs,0,none⟩) 1 1),(.slice none 0 0),(.int .i64 0),(.int .i64 0),(.bool false)]) (b:=bo) rfl zAc zAO rfl (Bo.cells rfl) ?_));exact ⟨⟨bs,rfl,zWZ (zKu [(r,r)] Bs qP qP)⟩,E⟩
theorem zXL:zRk zTL [97,98]=0∧zZH zTL [97,98]=true:=⟨by decide +kernel,by decide +kernel⟩
theorem zNN {w:World} {t u:Re} {us vs:List Value} (ht:zBG w t us) (hu:zBG w u vs) (h:t=u) :
  Ret prog 15 #[.agg us.toArray,.agg vs.toArray] w fun v w'=>(Fact.eq (.bool true)).In v w'∧Ext w w':=
 (zHp t.size t u w us vs (Nat.le_refl _) ht hu).mono fun v w' ⟨h1,h2⟩=>⟨h1.trans (zAx ((zBP t u).2 h)),h2⟩
theorem zRE (w0:World):Ret prog 13 #[] w0 fun v w=>v=.bool true∧Ext w0 w:=by
 obtain ⟨ai,aw⟩:=zVh
 obtain ⟨an,a3⟩:=zXL;refine qR func13 rfl ntmps13 rfl (fun E=>(zAA (qA _ rfl (zAB (zAA (qE rfl (zAV func64 zYK zZQ rfl) (zMc _ 97) ?_))))));rintro _ w9 ⟨⟨b,rfl,a4⟩,X9⟩;replace E:=E.ext X9;refine qE rfl (zAV func64 zYK zZQ rfl) (zMc _ 98) ?_;rintro _ w19 ⟨⟨b2,rfl,ag⟩,ah⟩;replace E:=E.ext ah;refine zAh (ps:=[(0,(.agg #[(I6 2),(.slice (some ⟨b,0,none⟩) 1 1),(.slice none 0 0),(I6 0),(I6 0),(.bool false)])),(1,(.agg #[(I6 2),(.slice (some ⟨b2,0,none⟩) 1 1),(.slice none 0 0),(I6 0),(I6 0),(.bool false)]))]) (c:=#[(I6 2),(.slice (some ⟨b,0,none⟩) 1 1),(.slice none 0 0),(I6 0),(I6 0),(.bool false),(I6 2),(.slice (some ⟨b2,0,none⟩) 1 1),(.slice none 0 0),(I6 0),(I6 0),(.bool false)]) qD rfl underlying23 zAO zAu qD qD qK ?_;intro bp wp Np;have Fp:=Np.ge E;replace E:=E.ext Np.ext;have Bp:=Np.blk;refine qV (zBd (ps:=[(0,(I6 3)),(2,(.slice (some ⟨bp,0,none⟩) 2 2))]) (v:=(.agg #[(I6 3),(.slice none 0 0),(.slice (some ⟨bp,0,none⟩) 2 2),(I6 0),(I6 0),(.bool false)])) rfl qK) (zAg (v:=(.agg #[(I6 3),(.slice none 0 0),(.slice (some ⟨bp,0,none⟩) 2 2),(I6 0),(I6 0),(.bool false)])) (c:=#[(I6 3),(.slice none 0 0),(.slice (some ⟨bp,0,none⟩) 2 2),(I6 0),(I6 0),(.bool false)]) (n:=6) qD zAu rfl zAO rfl rfl rfl qS ?_);intro br wr Nr;have Fr:=Nr.ge E;have Or_bp:=Nr.lt Bp;replace Bp:=Nr.keep Bp;replace E:=E.ext Nr.ext;have Br:=Nr.blk;refine zAB (zAA (qV (zAG (vs:=[(I6 3),(.slice none 0 0),(.slice (some ⟨bp,0,none⟩) 2 2),(I6 0),(I6 0),(.bool false)]) rfl zAc zAO rfl (Br.cells rfl)) ?_));have ad:zBG wr zTL [.int .i64 3,.slice none 0 0,.slice (some ⟨bp,0,none⟩) 2 2,.int .i64 0,.int .i64 0,.bool false]:=zBG.of (set:=[]) (args:=[zNd 97,zNd 98]) (zBq.nil _ _ _ _) qP (.inr ⟨bp,0,rfl,by simp only[zCO];exact ⟨⟨_,Bp.cells rfl,zBG.ext Nr.ext _ (zBG.ext Np.ext _ (zBG.ext ah _ a4))⟩,⟨_,Bp.cells rfl,zBG.ext Nr.ext _ (zBG.ext Np.ext _ ag)⟩,trivial⟩⟩);refine qE rfl (zAV func11 nm11 bd11 rfl) ((zZK _ (fun x=>x<wr.heap.size) zTL _ 97 (zAe.of_at zTL ad) (fun y hy=>hy)).mono (R':=fun r w=>(∃sa sc aa ac,r=.tuple #[.agg #[.int .i64 2,.slice sa 1 sc,.slice aa 0 ac,.int .i64 0,.int .i64 0,.bool false],.int .i64 0]∧zBG w (zNd 98) [.int .i64 2,.slice sa 1 sc,.slice aa 0 ac,.int .i64 0,.int .i64 0,.bool false])∧Ext wr w) (fun r w h=>⟨by obtain ⟨⟨us,h1,h2⟩,_⟩:=h;rw[aw] at h2;rw[ai] at h1;obtain ⟨sa,sc,aa,ac,rfl,_⟩:=h2.form;exact ⟨sa,sc,aa,ac,h1,zAe.at _ h2⟩,h.2⟩)) ?_;rintro _ w39 ⟨⟨sa,sc,aa,ac,rfl,hR⟩,af⟩;replace Bp:=af.keep Bp;replace Br:=af.keep Br;replace E:=E.ext af;replace ad:=zBG.ext af _ ad;refine qM _ rfl (qV (zBM rfl rfl) (qV (zBM rfl rfl) (zAg (v:=(.agg #[(I6 2),(.slice sa 1 sc),(.slice aa 0 ac),(I6 0),(I6 0),(.bool false)])) (c:=#[(I6 2),(.slice sa 1 sc),(.slice aa 0 ac),(I6 0),(I6 0),(.bool false)]) (n:=6) qD zAu rfl zAO rfl rfl rfl qS ?_)));intro bq wq Nq;have Fq:=Nq.ge E;have Oq_bp:=Nq.lt Bp;have Oq_br:=Nq.lt Br;replace Bp:=Nq.keep Bp;replace Br:=Nq.keep Br;replace hR:=zBG.ext Nq.ext _ hR;replace ad:=zBG.ext Nq.ext _ ad;replace E:=E.ext Nq.ext;have Bq:=Nq.blk;refine qA _ rfl (zAB (zAA (qV (zAG (vs:=[(I6 3),(.slice none 0 0),(.slice (some ⟨bp,0,none⟩) 2 2),(I6 0),(I6 0),(.bool false)]) rfl zAc zAO rfl (Br.cells rfl)) (zAh (ps:=[(0,(I6 97)),(1,(I6 98))]) (c:=#[(I6 97),(I6 98)]) qD rfl underlying26 zAv zFB qD qD qK ?_))));intro bk wk Nk;have Fk:=Nk.ge E;have Ok_bp:=Nk.lt Bp;have Ok_br:=Nk.lt Br;have Ok_bq:=Nk.lt Bq;replace Bp:=Nk.keep Bp;replace Br:=Nk.keep Br;replace Bq:=Nk.keep Bq;replace hR:=zBG.ext Nk.ext _ hR;replace ad:=zBG.ext Nk.ext _ ad;replace E:=E.ext Nk.ext;have Bk:=Nk.blk;refine qE rfl (zAV func12 nm12 bd12 rfl) ((zXB _ (fun x=>x<wk.heap.size) zTL _ _ [97,98] (zAe.of_at zTL ad) (fun y hy=>hy) (zDv [97,98] Bk qP qP)).mono (R':=fun r w=>r=.tuple #[.bool true,.int .i64 0]∧Ext wk w) (fun r w h=>⟨by rw[h.1,an,a3],h.2⟩)) ?_;rintro _ w49 ⟨rfl,ae⟩;replace Bp:=ae.keep Bp;replace Br:=ae.keep Br;replace Bq:=ae.keep Bq;replace Bk:=ae.keep Bk;replace hR:=zBG.ext ae _ hR;replace ad:=zBG.ext ae _ ad;replace E:=E.ext ae;refine qM _ rfl (qV (zBM rfl rfl) (qV (zBM rfl rfl) (qA _ rfl (qA _ rfl (zAB (zAK ?_))))));obtain ⟨au,ab⟩:∃Fs:List Fact,Fs=[.eq (I6 0),.eq (.bool true),.eq (.bool true),.eq (I6 0),.eq (.bool true),.eq (.bool true),.eq (.bool true),.eq (.bool true),.eq (.bool true),.eq (.bool true),.re (zNd 98),.re (zNd 98),.eq (.bool true),.eq (.bool true),.eq (.bool true)]:=⟨_,rfl⟩;refine zEA [21,22,23,24,25,26,27,28,29,30,31,32,33,34,0] [[],[0],[1],[2],[2,3],[2,4],[2,5],[6],[6,7],[6,8],[9],[9],[9,10,11],[9,12],[0,1,2,3,4,5,6,7,8,9,10,11,12,13]] au ab mixed qK qK ?_ ?_
 ·intro wd X0;refine DagSteps.cons (fun s' w' X U H=>Or.inl ⟨?_,?_⟩) ?_
  ·exact zAD rfl
  ·exact zAJ (zAi (U 3 rfl)) (Ext.refl _) rfl
  refine DagSteps.cons (fun s' w' X U H=>Or.inl ⟨?_,?_⟩) ?_
  ·exact zAD rfl
  ·have ak:s' 21=(.int .i64 0):=H 0 rfl 21 (.eq (.int .i64 0)) rfl (by rw[ab];rfl);exact zAJ (zAk ak rfl) (Ext.refl _) rfl
  refine DagSteps.cons (fun s' w' X U H=>Or.inl ⟨?_,?_⟩) ?_
  ·exact zAD rfl
  ·have am:s' 22=(.bool true):=H 1 rfl 22 (.eq (.bool true)) rfl (by rw[ab];rfl);exact zAJ (zAi am) (Ext.refl _) rfl
  refine DagSteps.cons (fun s' w' X U H=>Or.inl ⟨?_,?_⟩) ?_
  ·exact zBf rfl rfl (d:=23) (H 2 rfl 23 (.eq (.bool true)) rfl (by rw[ab];rfl))
  ·exact zAJ (zAi (U 5 rfl)) (Ext.refl _) rfl
  refine DagSteps.cons (fun s' w' X U H=>Or.inl ⟨?_,?_⟩) ?_
  ·exact zBf rfl rfl (d:=23) (H 2 rfl 23 (.eq (.bool true)) rfl (by rw[ab];rfl))
  ·have a1:s' 24=(.int .i64 0):=H 3 rfl 24 (.eq (.int .i64 0)) rfl (by rw[ab];rfl);exact zAJ (zAk a1 rfl) (Ext.refl _) rfl
  refine DagSteps.cons (fun s' w' X U H=>Or.inl ⟨?_,?_⟩) ?_
  ·exact zAD rfl
  ·have av:s' 23=(.bool true):=H 2 rfl 23 (.eq (.bool true)) rfl (by rw[ab];rfl);have ay:s' 25=(.bool true):=H 4 rfl 25 (.eq (.bool true)) rfl (by rw[ab];rfl);exact zAJ (zAd av ay) (Ext.refl _) rfl
  refine DagSteps.cons (fun s' w' X U H=>Or.inl ⟨?_,?_⟩) ?_
  ·exact zAD rfl
  ·have ao:s' 26=(.bool true):=H 5 rfl 26 (.eq (.bool true)) rfl (by rw[ab];rfl);exact zAJ (zAi ao) (Ext.refl _) rfl
  refine DagSteps.cons (fun s' w' X U H=>Or.inl ⟨?_,?_⟩) ?_
  ·exact zBf rfl rfl (d:=27) (H 6 rfl 27 (.eq (.bool true)) rfl (by rw[ab];rfl))
  ·exact zAJ (zAi (U 4 rfl)) (Ext.refl _) rfl
  refine DagSteps.cons (fun s' w' X U H=>Or.inl ⟨?_,?_⟩) ?_
  ·exact zAD rfl
  ·have a5:s' 27=(.bool true):=H 6 rfl 27 (.eq (.bool true)) rfl (by rw[ab];rfl);have ar:s' 28=(.bool true):=H 7 rfl 28 (.eq (.bool true)) rfl (by rw[ab];rfl);exact zAJ (zAd a5 ar) (Ext.refl _) rfl
  refine DagSteps.cons (fun s' w' X U H=>Or.inl ⟨?_,?_⟩) ?_
  ·exact zAD rfl
  ·have aj:s' 29=(.bool true):=H 8 rfl 29 (.eq (.bool true)) rfl (by rw[ab];rfl);exact zAJ (zAi aj) (Ext.refl _) rfl
  refine DagSteps.cons (fun s' w' X U H=>Or.inl ⟨?_,?_⟩) ?_
  ·exact zBf rfl rfl (d:=30) (H 9 rfl 30 (.eq (.bool true)) rfl (by rw[ab];rfl))
  ·exact zAJ (zAG (vs:=[(I6 2),(.slice sa 1 sc),(.slice aa 0 ac),(I6 0),(I6 0),(.bool false)]) (U 2 rfl) zAc zAO rfl ((X0.trans X).keep Bq |>.cells rfl)) (Ext.refl _) ⟨_,rfl,zBG.ext (X0.trans X) _ hR⟩
  refine DagSteps.cons (fun s' w' X U H=>Or.inl ⟨?_,?_⟩) ?_
  ·exact zBf rfl rfl (d:=30) (H 9 rfl 30 (.eq (.bool true)) rfl (by rw[ab];rfl))
  ·exact zAs (zAV func64 zYK zZQ (zOj rfl)) ((zMc _ 98).mono (fun v w h=>by obtain ⟨⟨b,h1,h2⟩,h3⟩:=h;exact ⟨⟨_,h1,h2⟩,h3⟩))
  refine DagSteps.cons (fun s' w' X U H=>Or.inl ⟨?_,?_⟩) ?_
  ·exact zBf rfl rfl (d:=30) (H 9 rfl 30 (.eq (.bool true)) rfl (by rw[ab];rfl))
  ·obtain ⟨v31,az,aq⟩:(Fact.re (zNd 98)).In (s' 31) w':=H 10 rfl 31 (.re (zNd 98)) rfl (by rw[ab];rfl);obtain ⟨v32,a0,a2⟩:(Fact.re (zNd 98)).In (s' 32) w':=H 11 rfl 32 (.re (zNd 98)) rfl (by rw[ab];rfl);exact zAs (zAV func15 zVx zVy (zHG az a0)) (zNN aq a2 rfl)
  refine DagSteps.cons (fun s' w' X U H=>Or.inl ⟨?_,?_⟩) ?_
  ·exact zAD rfl
  ·have al:s' 30=(.bool true):=H 9 rfl 30 (.eq (.bool true)) rfl (by rw[ab];rfl);have ap:s' 33=(.bool true):=H 12 rfl 33 (.eq (.bool true)) rfl (by rw[ab];rfl);exact zAJ (zAd al ap) (Ext.refl _) rfl
  refine DagSteps.cons (fun s' w' X U H=>Or.inl ⟨?_,?_⟩) ?_
  ·exact zAD rfl
  ·have ax:s' 34=(.bool true):=H 13 rfl 34 (.eq (.bool true)) rfl (by rw[ab];rfl);exact zAJ (zEI ax) (Ext.refl _) rfl
  exact DagSteps.nil
 ·intro s' w1 X1 U H;obtain ⟨j1,rfl⟩:=zBA.out (σ:=s') (l:=[(0,(.bool true))]) ⟨(show s' 0=(.bool true) from H 14 0 (.eq (.bool true)) rfl (by rw[ab];rfl)),trivial⟩;clear U H;replace Bp:=X1.keep Bp;replace Br:=X1.keep Br;replace Bq:=X1.keep Bq;replace Bk:=X1.keep Bk;replace hR:=zBG.ext X1 _ hR;replace ad:=zBG.ext X1 _ ad;replace E:=E.ext X1;refine zAC (zAR (zAW results13 (v:=(.bool true)) rfl ?_));exact ⟨rfl,E⟩
end Go.Proofs
namespace Go.Proofs
open Go Go.Eng Go.Sort
set_option maxRecDepth 100000
def zaQ (S:Nat→Prop) (x:Re) (e:Int):Fct:=fun v w=>∃sa sc aa ac,v=.tuple #[.agg #[.int .i64 x.kind,.slice sa x.set.length sc,.slice aa x.args.length ac,.int .i64 x.mn,.int .i64 x.mx,.bool x.neg],.int .i64 e]∧zAe S w x [.int .i64 x.kind,.slice sa x.set.length sc,.slice aa x.args.length ac,.int .i64 x.mn,.int .i64 x.mx,.bool x.neg]
theorem zHy {S:Nat→Prop} {x:Re} {c:Int} {v:Value} {w:World} {n:Nat} (e:w.heap.size=n) (h:zaQ S x c v w):zaQ (fun y=>S y∧y≠n) x c v w:=by
 obtain ⟨sa,sc,aa,ac,h1,h2⟩:=h;exact ⟨sa,sc,aa,ac,h1,zAe.mono (fun y hy=>⟨hy.1,qO⟩) x (zAe.lt x h2)⟩
end Go.Proofs
namespace Go.Proofs
open Go Go.Eng Go.Sort
set_option maxRecDepth 100000
section
variable {t : Re} {e : Int} {L : List Re} {cs : List (List Sp)} {rows : List (List Int)}
theorem zJn (h:zGt t e L cs rows) (hc:zDW t≠0):e=zDW t∧L=[]∧cs=[]∧rows=[]:=by
 rcases h with ⟨h1,h2,h3,_,h4⟩|⟨_,h,_⟩
 ·rcases h4 with ⟨_,h4⟩|⟨h4,_⟩
  ·exact ⟨h4,h1,h2,h3⟩
  ·exact absurd h4 hc
 ·exact absurd h hc
theorem zJm {out:List (List Sp)} {e1:Int} (h:zGt t e L cs rows) (hc:zDW t=0) (hcl:zJp (zCe t) out e1) (he:e1≠0):e=e1∧L=[]∧cs=[]∧rows=[]:=by
 obtain ⟨aa,_,hu,_⟩:=zDV hc;have h2:=zOC hcl (zFj (zDk aa hu)) he;rcases h with ⟨h1,h3,h4,_,h5⟩|⟨_,_,_,_,h5,_⟩
 ·rcases h5 with ⟨h5,_⟩|⟨_,h5,_⟩
  ·exact absurd hc h5
  ·exact ⟨by rw[h5,h2],h1,h3,h4⟩
 ·exact absurd (hcl.uniq h5).1 he
theorem zJl {out:List (List Sp)} (h:zGt t e L cs rows) (hc:zDW t=0) (hcl:zJp (zCe t) out 0) (hE:zHk out t):e=2∧L=[]∧cs=[]∧rows=[]:=by
 rcases h with ⟨h1,h3,h4,_,h5⟩|⟨_,_,_,_,h5,h6⟩
 ·rcases h5 with ⟨h5,_⟩|⟨_,h5,_⟩
  ·exact absurd hc h5
  ·exact ⟨h5,h1,h3,h4⟩
 ·obtain ⟨_,rfl⟩:=hcl.uniq h5;exact absurd hE h6.ok
theorem zFf {out:List (List Sp)} {L2:List Re} {rows2:List (List Int)} (h:zGt t e L cs rows) (hc:zDW t=0) (hcl:zJp (zCe t) out 0) (hE:zEw out t L2 rows2):e=0∧L=L2∧cs=out∧rows=rows2:=by
 rcases h with ⟨_,_,_,_,h5⟩|⟨h1,_,_,_,h5,h6⟩
 ·rcases h5 with ⟨h5,_⟩|⟨_,_,⟨o,h5⟩|⟨c,h5,h6⟩⟩
  ·exact absurd hc h5
  ·exact absurd (hcl.uniq h5).1 qD
  ·obtain ⟨_,rfl⟩:=hcl.uniq h5;exact absurd h6 hE.ok
 ·obtain ⟨_,rfl⟩:=hcl.uniq h5;obtain ⟨h7,h8⟩:=h6.uniq hE;exact ⟨h1,h7,rfl,h8⟩
end
theorem zJj (cs:List (List Sp)) (t:Re):∀i,(zCl cs t i).2.length≤i
  | 0=>by simp[zCl]
  | i+1=>by
    have h:=zJj cs t i;rw[zCl];split
    · omega
    · simp;omega
theorem zOt {t:Re} {e:Int} {L:List Re} {cs:List (List Sp)} {rows:List (List Int)} (h:zGt t e L cs rows) (hl:L.length≤200):cs.length≤16∧rows.length≤200:=by
 rcases h with ⟨_,h2,h3,_⟩|⟨_,hc,_,_,h5,n,h6,h7,_⟩
 ·rw[h2,h3];simp
 ·obtain ⟨aa,_,hu,_⟩:=zDV hc;have h8:=zJj cs t n;rw[h6] at h8;simp only at h8;exact ⟨(zKa h5 (zFj (zDk aa hu)) rfl).2,qO⟩
def zRg (cs:List (List Sp)) (t:Re) (v:Value) (w:World):Prop:=
 ∃(e:Int) (L:List Re) (rows:List (List Int)) (la:Option Addr) (lc:Nat) (na:Option Addr) (nc:Nat),v=.tuple #[.slice la L.length lc,.slice na rows.length nc,.int .i64 e]∧zIs w (.slice la L.length lc) L∧zDO w (.slice na rows.length nc) rows∧L.length≤200∧((e=2∧zHk cs t)∨(e=0∧zEw cs t L rows∧∀x∈L,zAz x∧x.size≤300))
theorem zSq {cs:List (List Sp)} {t:Re} {v:Value} {w:World} (h:zUA cs t v w):zRg cs t v w:=by
 rcases h with ⟨rfl,h⟩|⟨L,aa,la,lc,na,nc,rfl,h1,h2,h3,h4,h5⟩
 ·exact ⟨2,[],[],none,0,none,0,rfl,⟨none,0,rfl,qP,.inl rfl⟩,zIX _,qP,.inl ⟨rfl,h⟩⟩
 ·exact ⟨0,L,aa,la,lc,na,nc,rfl,h1,h2,h4,.inr ⟨rfl,h3,h5⟩⟩
def zON (t:Re) (v:Value) (w:World):Prop:=∃(e:Int) (L:List Re) (cs:List (List Sp)) (rows:List (List Int)) (da:Option Addr) (dc:Nat) (na:Option Addr) (nc:Nat) (ca:Option Addr) (cc:Nat),v=.tuple #[.agg #[.int .i64 0,.slice da L.length dc,.slice na rows.length nc],.slice ca cs.length cc,.int .i64 e]∧zMx w ⟨0,L.map zHo,rows⟩ [.int .i64 0,.slice da L.length dc,.slice na rows.length nc]∧zBy w (.slice ca cs.length cc) cs∧zGt t e L cs rows∧L.length≤200
theorem zRD {t:Re} {v:Value} {w:World} (h:zRh t v w):zON t v w:=by
 obtain ⟨e,L,cs,aa,vs,ca,cc,rfl,h1,h2,h3,h5⟩:=h;have h4:=h1;obtain ⟨da,dc,na,nc,rfl,_,_⟩:=h1;simp only[List.length_map] at h4⊢;exact ⟨e,L,cs,aa,da,dc,na,nc,ca,cc,rfl,h4,h2,h3,h5⟩
theorem zOv (w0:World) (t:Re) (vs:List Value) (ht:zBG w0 t vs) (hs:t.size≤2097152) :
  Ret prog 5 #[.agg vs.toArray] w0 fun v w=>v=.bool true∧Ext w0 w:=by
 have ct:=ht;obtain ⟨sa,sc,aa,ac,rfl,_,_,_⟩:=ht.form;have de:=zAe.of_at t ct;refine qR func5 rfl ntmps5 rfl (fun E=>(zAA (zBL (v:=(.agg (R6 t sa sc aa ac))) (c:=(R6 t sa sc aa ac)) qD rfl rfl ?_)));intro br wr Nr;have Fr:=Nr.ge E;replace E:=E.ext Nr.ext;have Br:=Nr.blk;refine qA (.bool false) rfl (zAB (zAA (qV (zAG (vs:=[(I6 t.kind),(.slice sa t.set.length sc),(.slice aa t.args.length ac),(I6 t.mn),(I6 t.mx),(.bool t.neg)]) rfl zAc zAO rfl (Br.cells rfl)) (qE rfl (zAV (vs:=[(.agg (R6 t sa sc aa ac))]) func23 nm23 bd23 rfl) (zVQ _ (fun b=>b<w0.heap.size) t _ (zAe.ext E t de) (fun y hy=>by have:=E.size;have h2:y<w0.heap.size:=hy;omega)) ?_))));rintro _ w9 ⟨⟨ea,L,csA,d0,la,lc,rfl,hL,hLl,b5⟩,X9⟩;replace Br:=X9.keep Br;replace E:=E.ext X9;refine qM (.tuple #[(.slice la L.length lc),(I6 ea)]) rfl (qV (zBM (vs:=#[(.slice la L.length lc),(I6 ea)]) (v:=(.slice la L.length lc)) rfl rfl) (qV (zBM (vs:=#[(.slice la L.length lc),(I6 ea)]) (v:=(I6 ea)) rfl rfl) (qA (.slice la L.length lc) rfl (qA (I6 ea) rfl (zAB (zAA (qV (zAG (vs:=[(I6 t.kind),(.slice sa t.set.length sc),(.slice aa t.args.length ac),(I6 t.mn),(I6 t.mx),(.bool t.neg)]) rfl zAc zAO rfl (Br.cells rfl)) (qE rfl (zAV (vs:=[(.agg (R6 t sa sc aa ac))]) func29 nm29 bd29 rfl) ((zXD _ (fun b=>b<w0.heap.size) t _ (zAe.ext E t de) (fun y hy=>by have:=E.size;have h2:y<w0.heap.size:=hy;omega)).mono (R':=fun v w=>zON t v w∧Ext w9 w) (fun v w h=>⟨zRD h.1,h.2⟩)) ?_))))))));rintro _ w19 ⟨⟨f,L2,cs,ab,da,dc,na,nc,ca,cc,rfl,hD,am,bq,c3⟩,dr⟩;replace Br:=dr.keep Br;replace hL:=hL.ext dr;replace E:=E.ext dr;obtain ⟨ew,er⟩:=zOt bq c3;refine qM (.tuple #[(.agg #[(I6 0),(.slice da L2.length dc),(.slice na ab.length nc)]),(.slice ca cs.length cc),(I6 f)]) rfl (qV (zBM (vs:=#[(.agg #[(I6 0),(.slice da L2.length dc),(.slice na ab.length nc)]),(.slice ca cs.length cc),(I6 f)]) (v:=(.agg #[(I6 0),(.slice da L2.length dc),(.slice na ab.length nc)])) rfl rfl) (qV (zBM (vs:=#[(.agg #[(I6 0),(.slice da L2.length dc),(.slice na ab.length nc)]),(.slice ca cs.length cc),(I6 f)]) (v:=(.slice ca cs.length cc)) rfl rfl) (qV (zBM (vs:=#[(.agg #[(I6 0),(.slice da L2.length dc),(.slice na ab.length nc)]),(.slice ca cs.length cc),(I6 f)]) (v:=(I6 f)) rfl rfl) (zAg (v:=(.agg #[(I6 0),(.slice da L2.length dc),(.slice na ab.length nc)])) (c:=#[(I6 0),(.slice da L2.length dc),(.slice na ab.length nc)]) (n:=3) qD zRn rfl zJA rfl rfl rfl qS ?_))));intro bd wd Nd;have Fd:=Nd.ge E;have Od_br:=Nd.lt Br;replace Br:=Nd.keep Br;replace hL:=hL.ext Nd.ext;replace hD:=hD.ext Nd.ext;replace am:=am.ext Nd.ext;replace E:=E.ext Nd.ext;have Bd:=Nd.blk;refine qA (.slice ca cs.length cc) rfl (qA (I6 f) rfl (zAB (zAK (zAA (qE rfl (zAV (vs:=[]) func13 nm13 bd13 rfl) (zRE _) ?_)))));rintro _ w49 ⟨rfl,bl⟩;replace Br:=bl.keep Br;replace Bd:=bl.keep Bd;replace hL:=hL.ext bl;replace hD:=hD.ext bl;replace am:=am.ext bl;replace E:=E.ext bl;refine qV (zCf (b:=true) rfl) (zAB (zAb rfl (zAP (zAC (zAA (qV (zAG (vs:=[(I6 t.kind),(.slice sa t.set.length sc),(.slice aa t.args.length ac),(I6 t.mn),(I6 t.mx),(.bool t.neg)]) rfl zAc zAO rfl (Br.cells rfl)) (qE rfl (zAV (vs:=[(.agg (R6 t sa sc aa ac))]) func9 nm9 bd9 rfl) (zUl _ t _ (zBG.ext E t ct) hs) ?_)))))));rintro _ w59 ⟨rfl,bm⟩;replace Br:=bm.keep Br;replace Bd:=bm.keep Bd;replace hL:=hL.ext bm;replace hD:=hD.ext bm;replace am:=am.ext bm;replace E:=E.ext bm;refine qA (I6 (zDW t)) rfl (zAB (zAA (qA (.slice none 0 0) rfl (zAB (zAK (zAA (qM (I6 (zDW t)) rfl (qV (zAk (k:=.i64) (a:=zDW t) (b:=0) rfl rfl) (zAB (qC rfl (fun aq=>?_) (fun aq=>?_)))))))))))
 ·obtain ⟨du,hsz,hu,e0,d7⟩:=zDV aq;have bf:=zFj (zDk du hu);have dv:=zKB t;have dy:=zNr bf;refine zAN (qV (zAG (vs:=[(I6 t.kind),(.slice sa t.set.length sc),(.slice aa t.args.length ac),(I6 t.mn),(I6 t.mx),(.bool t.neg)]) rfl zAc zAO rfl (Br.cells rfl)) (qE rfl (zAV (vs:=[(.agg (R6 t sa sc aa ac))]) func31 nm31 bd31 rfl) (zRx _ t _ (zBG.ext E t ct) qO) ?_));rintro ep fa ⟨ez,ap⟩;replace Br:=ap.keep Br;replace Bd:=ap.keep Bd;replace hL:=hL.ext ap;replace hD:=hD.ext ap;replace am:=am.ext ap;replace E:=E.ext ap;refine qE rfl (zAV (vs:=[ep]) func30 nm30 bd30 rfl) ((zZL _ _ (zCe t) ez qO qO).mono (R':=fun r w=>(∃out ai oa oc,zJp (zCe t) out ai∧r=.tuple #[.slice oa out.length oc,.int .i64 ai]∧zBy w (.slice oa out.length oc) out)∧Ext _ w) (fun r w h=>⟨by obtain ⟨out,ai,h1,a,c,h2,h3⟩:=h.1;exact ⟨out,ai,a,c,h1,h2,h3⟩,h.2⟩)) ?_;rintro _ cu ⟨⟨out,ai,oa,oc,a6,rfl,ay⟩,bp⟩;replace Br:=bp.keep Br;replace Bd:=bp.keep Bd;replace hL:=hL.ext bp;replace hD:=hD.ext bp;replace am:=am.ext bp;replace E:=E.ext bp;refine qM (.tuple #[(.slice oa out.length oc),(I6 ai)]) rfl (qV (zBM (vs:=#[(.slice oa out.length oc),(I6 ai)]) (v:=(.slice oa out.length oc)) rfl rfl) (qV (zBM (vs:=#[(.slice oa out.length oc),(I6 ai)]) (v:=(I6 ai)) rfl rfl) (qA (.slice oa out.length oc) rfl (qA (I6 ai) rfl (zAB (zAC (zAK (zAA (qM (I6 ai) rfl (qV (zBo (k:=.i64) (a:=ai) (b:=0) rfl rfl) (zAB (qC rfl (fun c7=>?_) (fun c7=>?_)))))))))))))
  ·obtain ⟨bc,ci,ej,eb⟩:=zJm b5 aq a6 c7;obtain ⟨be,ec,b8,cp⟩:=zJm bq aq a6 c7;have a1:(((L.length:Nat):Int))+(((cs.length:Nat):Int))+(((ab.length:Nat):Int))=0:=by rw[ci,b8,cp];rfl
   refine zAA (qM (I6 ea) rfl (qM (I6 ai) rfl ?_));obtain ⟨e3,d9⟩:∃e,(decide ((ea:Int)=ai))=e:=⟨_,rfl⟩;refine qV ((zAk (k:=.i64) (a:=ea) (b:=ai) rfl rfl).trans (by rw[d9];try rfl)) (qM (.bool e3) rfl (qG (.bool e3) (yU e3 (I6 f)) (by cases e3<;>first|exact gA|exact gB|exact .inl ⟨rfl,zAi (v:=(I6 f)) rfl⟩) (qG (.bool e3) (yU e3 (I6 ai)) (by cases e3<;>first|exact gA|exact gB|exact .inl ⟨rfl,zAi (v:=(I6 ai)) rfl⟩) ?_)));obtain ⟨e4,d4⟩:∃e,(decide ((f:Int)=ai))=e:=⟨_,rfl⟩;refine qG (.bool e3) (yU e3 (.bool e4)) (by cases e3<;>first|exact gA|exact gB|exact .inl ⟨rfl,(zAk (k:=.i64) (a:=f) (b:=ai) rfl rfl).trans (by rw[d4];try rfl)⟩) ?_;obtain ⟨e5,d2⟩:∃e,(e3 && e4)=e:=⟨_,rfl⟩;refine qV (zAd (b:=e3) (v:=.bool e5) rfl (by rw[←d2];cases e3<;>rfl)) (qM (.bool e5) rfl (qG (.bool e5) (yU e5 (.slice la L.length lc)) (by cases e5<;>first|exact gA|exact gB|exact .inl ⟨rfl,zAi (v:=(.slice la L.length lc)) rfl⟩) (qG (.bool e5) (yU e5 (I6 (L.length:Int))) (by cases e5<;>first|exact gA|exact gB|exact .inl ⟨rfl,zAM (ad:=la) (n:=L.length) (cap:=lc) underlying23 rfl⟩) (qG (.bool e5) (yU e5 (.slice ca cs.length cc)) (by cases e5<;>first|exact gA|exact gB|exact .inl ⟨rfl,zAi (v:=(.slice ca cs.length cc)) rfl⟩) (qG (.bool e5) (yU e5 (I6 (cs.length:Int))) (by cases e5<;>first|exact gA|exact gB|exact .inl ⟨rfl,zAM (ad:=ca) (n:=cs.length) (cap:=cc) underlying50 rfl⟩) (qG (.bool e5) (yU e5 (I6 ((L.length:Int)+(cs.length:Int)))) (by cases e5<;>first|exact gA|exact gB|exact .inl ⟨rfl,zAy (k:=.i64) (a:=(L.length:Int)) (b:=(cs.length:Int)) (c:=(L.length:Int)+(cs.length:Int)) rfl rfl (zBV qO)⟩) (qG (.bool e5) (yU e5 (P6 bd 2)) (by cases e5<;>first|exact gA|exact gB|exact .inl ⟨rfl,zAQ (b:=bd) (o:=0) (o':=2) rfl underlying49 rfl zKw rfl⟩) (qG (.bool e5) (yU e5 (.slice na ab.length nc)) (by cases e5<;>first|exact gA|exact gB|exact .inl ⟨rfl,zAL (v:=(.slice na ab.length nc)) rfl zHZ (Bd.cell rfl)⟩) (qG (.bool e5) (yU e5 (I6 (ab.length:Int))) (by cases e5<;>first|exact gA|exact gB|exact .inl ⟨rfl,zAM (ad:=na) (n:=ab.length) (cap:=nc) underlying47 rfl⟩) (qG (.bool e5) (yU e5 (I6 (((L.length:Int)+(cs.length:Int))+(ab.length:Int)))) (by cases e5<;>first|exact gA|exact gB|exact .inl ⟨rfl,zAy (k:=.i64) (a:=(L.length:Int)+(cs.length:Int)) (b:=(ab.length:Int)) (c:=((L.length:Int)+(cs.length:Int))+(ab.length:Int)) rfl rfl (zBV qO)⟩) ?_))))))))));obtain ⟨e6,d6⟩:∃e,(decide (((((L.length:Nat):Int)+((cs.length:Nat):Int))+((ab.length:Nat):Int):Int)=0))=e:=⟨_,rfl⟩;refine qG (.bool e5) (yU e5 (.bool e6)) (by cases e5<;>first|exact gA|exact gB|exact .inl ⟨rfl,(zAk (k:=.i64) (a:=((L.length:Int)+(cs.length:Int))+(ab.length:Int)) (b:=0) rfl rfl).trans (by rw[d6];try rfl)⟩) ?_;obtain ⟨e7,ds⟩:∃e,(e5 && e6)=e:=⟨_,rfl⟩;refine qV (zAd (b:=e5) (v:=.bool e7) rfl (by rw[←ds];cases e5<;>rfl)) (qA (.bool e7) rfl (zAB ?_));subst ds;subst d6;subst d2;subst d4;subst d9;refine zAR (zAI (zAW results5 (v:=(.bool (((decide ((ea:Int)=ai)) && (decide ((f:Int)=ai))) && (decide (((((L.length:Nat):Int)+((cs.length:Nat):Int))+((ab.length:Nat):Int):Int)=0))))) rfl ?_));exact ⟨zAx (by simp[bc,be,a1]),E⟩
  ·have e8:ai=0:=qO
   subst e8;have b0:=zKa a6 bf rfl;have es:=zKZ b0.1 (zQn bf);refine zAP (zAC (zAK (zAA (qV (zAG (vs:=[(I6 t.kind),(.slice sa t.set.length sc),(.slice aa t.args.length ac),(I6 t.mn),(I6 t.mx),(.bool t.neg)]) rfl zAc zAO rfl (Br.cells rfl)) (qE rfl (zAV (vs:=[(.agg (R6 t sa sc aa ac))]) func16 nm16 bd16 rfl) (zSW _ t _ (zBG.ext E t ct) hs du) ?_)))));rintro _ fd ⟨⟨lb,rfl,hlb⟩,ar⟩;replace Br:=ar.keep Br;replace Bd:=ar.keep Bd;replace hL:=hL.ext ar;replace hD:=hD.ext ar;replace am:=am.ext ar;replace ay:=ay.ext ar;replace E:=E.ext ar;refine qV (zCf (b:=lb) rfl) (zAB (zAt (b:=!lb) rfl (fun hl=>?_) (fun hl=>?_)))
   ·have e1:=hl;replace hl:=by simpa using hl
    refine zAA (qA (.bool true) rfl (zAB (zAR (zAI (zAW results5 (v:=(.bool true)) rfl ?_)))));exact ⟨rfl,E⟩
   ·have e1:=hl;replace hl:=by simpa using hl
    refine zAP (zAC (zAA (qV (zAG (vs:=[(I6 t.kind),(.slice sa t.set.length sc),(.slice aa t.args.length ac),(I6 t.mn),(I6 t.mx),(.bool t.neg)]) rfl zAc zAO rfl (Br.cells rfl)) (qM (.slice oa out.length oc) rfl (qE rfl (zAV (vs:=[(.agg (R6 t sa sc aa ac)),(.slice oa out.length oc),(I6 200)]) func32 nm32 bd32 rfl) ((zSp _ (fun b=>b<w0.heap.size) t _ _ out (zAe.ext E t de) (fun y hy=>by have:=E.size;have h2:y<w0.heap.size:=hy;omega) aq ay (fun cl hm=>(es cl hm).1) b0.2).mono (R':=fun v w=>zRg out t v w∧Ext _ w) (fun v w h=>⟨zSq h.1,h.2⟩)) ?_)))));rintro _ b3 ⟨⟨ed,L3,af,az,an,ak,aj,rfl,en,eo,ey,ce⟩,ax⟩;replace Br:=ax.keep Br;replace Bd:=ax.keep Bd;replace hL:=hL.ext ax;replace hD:=hD.ext ax;replace am:=am.ext ax;replace ay:=ay.ext ax;replace E:=E.ext ax;refine qM (.tuple #[(.slice az L3.length an),(.slice ak af.length aj),(I6 ed)]) rfl (qV (zBM (vs:=#[(.slice az L3.length an),(.slice ak af.length aj),(I6 ed)]) (v:=(.slice az L3.length an)) rfl rfl) (qV (zBM (vs:=#[(.slice az L3.length an),(.slice ak af.length aj),(I6 ed)]) (v:=(.slice ak af.length aj)) rfl rfl) (qV (zBM (vs:=#[(.slice az L3.length an),(.slice ak af.length aj),(I6 ed)]) (v:=(I6 ed)) rfl rfl) (qA (.slice az L3.length an) rfl (qA (.slice ak af.length aj) rfl (qA (I6 ed) rfl (zAB (zAK (zAA (qM (I6 ed) rfl ?_))))))))));obtain ⟨e9,d3⟩:∃e,(decide ((ed:Int)≠0))=e:=⟨_,rfl⟩;refine qV ((zBo (k:=.i64) (a:=ed) (b:=0) rfl rfl).trans (by rw[d3];try rfl)) (qM (.bool e9) rfl (qG (.bool e9) (nU e9 (I6 ea)) (by cases e9<;>first|exact gA|exact gB|exact .inl ⟨rfl,zAi (v:=(I6 ea)) rfl⟩) ?_));obtain ⟨dw,ch⟩:∃e,(decide ((ea:Int)≠0))=e:=⟨_,rfl⟩;refine qG (.bool e9) (nU e9 (.bool dw)) (by cases e9<;>first|exact gA|exact gB|exact .inl ⟨rfl,(zBo (k:=.i64) (a:=ea) (b:=0) rfl rfl).trans (by rw[ch];try rfl)⟩) ?_;obtain ⟨a2,bv⟩:∃e,(e9 || dw)=e:=⟨_,rfl⟩;refine qV (zAd (b:=e9) (v:=.bool a2) rfl (by rw[←bv];cases e9<;>rfl)) (qM (.bool a2) rfl (qG (.bool a2) (nU a2 (I6 f)) (by cases a2<;>first|exact gA|exact gB|exact .inl ⟨rfl,zAi (v:=(I6 f)) rfl⟩) ?_));obtain ⟨ee,cb⟩:∃e,(decide ((f:Int)≠0))=e:=⟨_,rfl⟩;refine qG (.bool a2) (nU a2 (.bool ee)) (by cases a2<;>first|exact gA|exact gB|exact .inl ⟨rfl,(zBo (k:=.i64) (a:=f) (b:=0) rfl rfl).trans (by rw[cb];try rfl)⟩) ?_;obtain ⟨fe,cg⟩:∃e,(a2 || ee)=e:=⟨_,rfl⟩;refine qV (zAd (b:=a2) (v:=.bool fe) rfl (by rw[←cg];cases a2<;>rfl)) (zAB ?_);subst cg;subst cb;subst bv;subst ch;subst d3;refine zAt (b:=(((decide ((ed:Int)≠0)) || (decide ((ea:Int)≠0))) || (decide ((f:Int)≠0)))) rfl (fun hx=>?_) (fun hx=>?_)
    ·have ek:=hx;refine zAA (qM (I6 ea) rfl (qM (I6 ed) rfl ?_));obtain ⟨av,cf⟩:∃e,(decide ((ea:Int)=ed))=e:=⟨_,rfl⟩;refine qV ((zAk (k:=.i64) (a:=ea) (b:=ed) rfl rfl).trans (by rw[cf];try rfl)) (qM (.bool av) rfl (qG (.bool av) (yU av (I6 f)) (by cases av<;>first|exact gA|exact gB|exact .inl ⟨rfl,zAi (v:=(I6 f)) rfl⟩) (qG (.bool av) (yU av (I6 ed)) (by cases av<;>first|exact gA|exact gB|exact .inl ⟨rfl,zAi (v:=(I6 ed)) rfl⟩) ?_)));obtain ⟨dx,cn⟩:∃e,(decide ((f:Int)=ed))=e:=⟨_,rfl⟩;refine qG (.bool av) (yU av (.bool dx)) (by cases av<;>first|exact gA|exact gB|exact .inl ⟨rfl,(zAk (k:=.i64) (a:=f) (b:=ed) rfl rfl).trans (by rw[cn];try rfl)⟩) ?_;obtain ⟨ah,b4⟩:∃e,(av && dx)=e:=⟨_,rfl⟩;refine qV (zAd (b:=av) (v:=.bool ah) rfl (by rw[←b4];cases av<;>rfl)) (qM (.bool ah) rfl (qG (.bool ah) (yU ah (.slice la L.length lc)) (by cases ah<;>first|exact gA|exact gB|exact .inl ⟨rfl,zAi (v:=(.slice la L.length lc)) rfl⟩) (qG (.bool ah) (yU ah (I6 (L.length:Int))) (by cases ah<;>first|exact gA|exact gB|exact .inl ⟨rfl,zAM (ad:=la) (n:=L.length) (cap:=lc) underlying23 rfl⟩) (qG (.bool ah) (yU ah (.slice ca cs.length cc)) (by cases ah<;>first|exact gA|exact gB|exact .inl ⟨rfl,zAi (v:=(.slice ca cs.length cc)) rfl⟩) (qG (.bool ah) (yU ah (I6 (cs.length:Int))) (by cases ah<;>first|exact gA|exact gB|exact .inl ⟨rfl,zAM (ad:=ca) (n:=cs.length) (cap:=cc) underlying50 rfl⟩) (qG (.bool ah) (yU ah (I6 ((L.length:Int)+(cs.length:Int)))) (by cases ah<;>first|exact gA|exact gB|exact .inl ⟨rfl,zAy (k:=.i64) (a:=(L.length:Int)) (b:=(cs.length:Int)) (c:=(L.length:Int)+(cs.length:Int)) rfl rfl (zBV qO)⟩) (qG (.bool ah) (yU ah (P6 bd 2)) (by cases ah<;>first|exact gA|exact gB|exact .inl ⟨rfl,zAQ (b:=bd) (o:=0) (o':=2) rfl underlying49 rfl zKw rfl⟩) (qG (.bool ah) (yU ah (.slice na ab.length nc)) (by cases ah<;>first|exact gA|exact gB|exact .inl ⟨rfl,zAL (v:=(.slice na ab.length nc)) rfl zHZ (Bd.cell rfl)⟩) (qG (.bool ah) (yU ah (I6 (ab.length:Int))) (by cases ah<;>first|exact gA|exact gB|exact .inl ⟨rfl,zAM (ad:=na) (n:=ab.length) (cap:=nc) underlying47 rfl⟩) (qG (.bool ah) (yU ah (I6 (((L.length:Int)+(cs.length:Int))+(ab.length:Int)))) (by cases ah<;>first|exact gA|exact gB|exact .inl ⟨rfl,zAy (k:=.i64) (a:=(L.length:Int)+(cs.length:Int)) (b:=(ab.length:Int)) (c:=((L.length:Int)+(cs.length:Int))+(ab.length:Int)) rfl rfl (zBV qO)⟩) ?_))))))))));obtain ⟨eg,b1⟩:∃e,(decide (((((L.length:Nat):Int)+((cs.length:Nat):Int))+((ab.length:Nat):Int):Int)=0))=e:=⟨_,rfl⟩;refine qG (.bool ah) (yU ah (.bool eg)) (by cases ah<;>first|exact gA|exact gB|exact .inl ⟨rfl,(zAk (k:=.i64) (a:=((L.length:Int)+(cs.length:Int))+(ab.length:Int)) (b:=0) rfl rfl).trans (by rw[b1];try rfl)⟩) ?_;obtain ⟨d5,bs⟩:∃e,(ah && eg)=e:=⟨_,rfl⟩;refine qV (zAd (b:=ah) (v:=.bool d5) rfl (by rw[←bs];cases ah<;>rfl)) (qA (.bool d5) rfl (zAB ?_));subst bs;subst b1;subst b4;subst cn;subst cf;refine zAR (zAI (zAW results5 (v:=(.bool (((decide ((ea:Int)=ed)) && (decide ((f:Int)=ed))) && (decide (((((L.length:Nat):Int)+((cs.length:Nat):Int))+((ab.length:Nat):Int):Int)=0))))) rfl ?_));rcases ce with ⟨c0,hE⟩|⟨c0,hE,_⟩
     ·obtain ⟨bc,ci,ej,eb⟩:=zJl b5 aq a6 hE;obtain ⟨be,ec,b8,cp⟩:=zJl bq aq a6 hE;have a1:(((L.length:Nat):Int))+(((cs.length:Nat):Int))+(((ab.length:Nat):Int))=0:=by rw[ci,b8,cp];rfl
      exact ⟨zAx (by simp[bc,be,c0,a1]),E⟩
     ·obtain ⟨bc,_⟩:=zFf b5 aq a6 hE;obtain ⟨be,_⟩:=zFf bq aq a6 hE;simp[bc,be,c0] at hx
    ·have ek:=hx;have em:ed≠2:=fun h=>by rw[h] at hx;simp at hx
     obtain ⟨hd0,hE,c2⟩:=ce.resolve_left (fun h=>em h.1);obtain ⟨bc,dn,_,_⟩:=zFf b5 aq a6 hE;obtain ⟨be,c1,c5,eu⟩:=zFf bq aq a6 hE;obtain ⟨n1,hn1⟩:∃n,n=(b3).heap.size:=⟨_,rfl⟩;have E2:Chg zAo b3 b3:=Chg.refl _ _;refine zAP (zAC (zAA (qM (.slice ak af.length aj) rfl (qV (zBd (ps:=[(2,(.slice ak af.length aj))]) (v:=(.agg #[(I6 0),(.slice none 0 0),(.slice ak af.length aj)])) rfl qK) (zAg (v:=(.agg #[(I6 0),(.slice none 0 0),(.slice ak af.length aj)])) (c:=#[(I6 0),(.slice none 0 0),(.slice ak af.length aj)]) (n:=3) qD zRn rfl zJA rfl rfl rfl qS ?_)))));intro bg wg Ng;have Fg:=Ng.ge E;have Fg_E2:=Ng.ge E2;have Og_br:=Ng.lt Br;have Og_bd:=Ng.lt Bd;replace Br:=Ng.keep Br;replace Bd:=Ng.keep Bd;replace E:=E.ext Ng.ext;have Bg:=Ng.blk;replace E2:=E2.ext Ng.ext;refine zAB (zAK (zAA (qM (.slice az L3.length an) rfl (qV (zAM (ad:=az) (n:=L3.length) (cap:=an) underlying23 rfl) (qM (I6 0) rfl (zAB (zAT ?_)))))));have ff:n1≤bg:=by have:=Ng.eq;omega
     have db:bg+1≤wg.heap.size:=Bg.lt;refine zAq (fun nn_ σ bj=>∃(k:Nat) (qa:Option Addr) (qc:Nat),(∃jj_,σ=zCH jj_ [(3,(.slice la L.length lc)),(5,(P6 bd 0)),(6,(.slice ca cs.length cc)),(9,(.slice oa out.length oc)),(10,(.slice az L3.length an)),(12,(P6 bg 0)),(103,(.slice az L3.length an)),(104,(I6 (L3.length:Int))),(105,(I6 (k:Int)))])∧Chg zAo w0 bj∧Chg zAo b3 bj∧Blk bj bd #[(I6 0),(.slice da L2.length dc),(.slice na ab.length nc)] 49∧Blk bj bg (#[.int .i64 0,.slice qa k qc,.slice ak af.length aj]) 49∧(k≤L3.length)∧(bj.ownsRow (bg+1) TDI 1 (.slice qa k qc) k (((L3.take k).map zHo).map (Value.int .i64)))∧(bg+1≤bj.heap.size)∧nn_=L3.length - k) (n:=L3.length - 0) ?_ ?_
     ·exact ⟨0,none,0,zBA.out ⟨rfl,rfl,rfl,rfl,rfl,rfl,rfl,rfl,rfl,trivial⟩,E,E2,Bd,Bg,Nat.zero_le _,World.ownsRow_nil _ _ _ _,db,rfl⟩
     ·clear E E2 Bd Bg;rintro _ _ bj ⟨k,qa,qc,⟨j20,rfl⟩,E,E2,Bd,Bg,hk,hX,al,rfl⟩;refine zAA (qV (zBH (k:=.i64) (a:=(k:Int)) (b:=(L3.length:Int)) rfl rfl) (zAB (zAK (qC rfl (fun fc=>?_) (fun fc=>?_)))))
      ·obtain ⟨x,cd⟩:=zAU (l:=L3) (i:=k) qO;have dj:L[k]?=some x:=by rw[dn];exact cd
       obtain ⟨b,o,rfl,dp⟩:=zIs.cells en qO;obtain ⟨xs,e2,dt⟩:=dp k x cd;have dz:L.length=L3.length:=by rw[dn]
       obtain ⟨b2,o2,rfl,dd⟩:=zIs.cells hL qO;obtain ⟨ys,ex,d8⟩:=dd k x dj;obtain ⟨a5,ba,a4,bb,rfl,_,_,_⟩:=dt.form;obtain ⟨b7,co,cj,bw,rfl,_,_,_⟩:=d8.form;obtain ⟨fb,hxz⟩:=c2 x (List.mem_of_getElem? cd);have bx:=dt;have df:=d8;have dm:=fun b hb=>(hX.lt b hb).2;have fg:decide (((L.length:Nat):Int)≤((k:Nat):Int))=false:=decide_eq_false qO;refine zAP (zAC (zAK (zAT (zAA (qM (I6 (k:Int)) rfl (qV (zAH (b:=b) (o:=o) (len:=L3.length) (cap:=an) (i:=k) (o':=o+k*6) rfl rfl rfl underlying23 zAO qO qO) (qV (zAG (vs:=[(I6 x.kind),(.slice a5 x.set.length ba),(.slice a4 x.args.length bb),(I6 x.mn),(I6 x.mx),(.bool x.neg)]) rfl zAc zAO rfl (e2.ext E2)) (zBJ (c:=#[(I6 0),(.slice none 0 0),(.slice none 0 0),(I6 0),(I6 0),(.bool false)]) qD zAu rfl ?_))))))));intro bz wz Nz;have Fz:=Nz.ge E;have Fz_E2:=Nz.ge E2;have Oz_bd:=Nz.lt Bd;have Oz_bg:=Nz.lt Bg;replace Bd:=Nz.keep Bd;replace Bg:=Nz.keep Bg;replace hX:=zAn hX Nz.ext;replace al:=Nat.le_trans al Nz.ext.size;replace E:=E.ext Nz.ext;have Bz:=Nz.blk;replace E2:=E2.ext Nz.ext;refine qA (I6 (k:Int)) rfl (zAY (b:=bz) (o:=0) (c':=(R6 x a5 ba a4 bb)) rfl rfl qS zAO rfl Bz qL rfl ?_);intro w22 bi;replace hX:=zBi hX bi.chg (fun b hb h=>by have h2:b=bz:=h;have:=dm b hb;have:=Nz.eq;omega);replace al:=Nat.le_trans al bi.chg.size;replace Bd:=bi.keep qO Bd;replace Bg:=bi.keep qO Bg;replace E:=bi.step E qQ;replace E2:=bi.step E2 (Or.inl qO);replace Bz:=bi.blk;refine zAB (zAK (zAK ?_));obtain ⟨cx,ae⟩:∃Fs:List Fact,Fs=[.eq (I6 (k:Int)),.eq (.slice (some ⟨b2,o2,none⟩) L.length lc),.eq (I6 (L.length:Int)),.eq (.bool false),.eq (.bool false),.eq (.slice (some ⟨b2,o2,none⟩) L.length lc),.eq (I6 (k:Int)),.eq (.pointer (some ⟨b2,o2+k*6,none⟩)),.eq (.agg (R6 x b7 co cj bw)),.eq (.agg (R6 x a5 ba a4 bb)),.eq (.bool true),.eq (.bool false),.eq (.bool false)]:=⟨_,rfl⟩;refine zEA [110,111,112,113,114,115,116,117,118,119,120,121,122] [[],[],[1],[0,2],[3],[4],[4],[4,5,6],[4,7],[4],[4,8,9],[4,10],[4,11]] cx ae mixed qK qK ?_ ?_
       ·intro wd X0;refine DagSteps.cons (fun s' w' X U H=>Or.inl ⟨?_,?_⟩) ?_
        ·exact zAD rfl
        ·exact zAJ (zAi (v:=(I6 (k:Int))) (U 13 rfl)) (Ext.refl _) rfl
        refine DagSteps.cons (fun s' w' X U H=>Or.inl ⟨?_,?_⟩) ?_
        ·exact zAD rfl
        ·exact zAJ (zAi (v:=(.slice (some ⟨b2,o2,none⟩) L.length lc)) (U 3 rfl)) (Ext.refl _) rfl
        refine DagSteps.cons (fun s' w' X U H=>Or.inl ⟨?_,?_⟩) ?_
        ·exact zAD rfl
        ·have c6:s' 111=(.slice (some ⟨b2,o2,none⟩) L.length lc):=H 1 rfl 111 (.eq (.slice (some ⟨b2,o2,none⟩) L.length lc)) rfl (by rw[ae];rfl);exact zAJ (zAM (ad:=some ⟨b2,o2,none⟩) (n:=L.length) (cap:=lc) underlying23 c6) (Ext.refl _) rfl
        refine DagSteps.cons (fun s' w' X U H=>Or.inl ⟨?_,?_⟩) ?_
        ·exact zAD rfl
        ·have cv:s' 110=(.int .i64 ((k:Nat):Int)):=H 0 rfl 110 (.eq (.int .i64 ((k:Nat):Int))) rfl (by rw[ae];rfl);have c4:s' 112=(.int .i64 ((L.length:Nat):Int)):=H 2 rfl 112 (.eq (.int .i64 ((L.length:Nat):Int))) rfl (by rw[ae];rfl);exact zAJ (Eq.trans (zFG (k:=.i64) (a:=(k:Int)) (b:=(L.length:Int)) cv c4) (by rw[fg])) (Ext.refl _) rfl
        refine DagSteps.cons (fun s' w' X U H=>Or.inl ⟨?_,?_⟩) ?_
        ·exact zAD rfl
        ·have cy:s' 113=(.bool false):=H 3 rfl 113 (.eq (.bool false)) rfl (by rw[ae];rfl);exact zAJ (zAi (v:=(.bool false)) cy) (Ext.refl _) rfl
        refine DagSteps.cons (fun s' w' X U H=>Or.inl ⟨?_,?_⟩) ?_
        ·exact zBf rfl rfl (d:=114) (H 4 rfl 114 (.eq (.bool false)) rfl (by rw[ae];rfl))
        ·exact zAJ (zAi (v:=(.slice (some ⟨b2,o2,none⟩) L.length lc)) (U 3 rfl)) (Ext.refl _) rfl
        refine DagSteps.cons (fun s' w' X U H=>Or.inl ⟨?_,?_⟩) ?_
        ·exact zBf rfl rfl (d:=114) (H 4 rfl 114 (.eq (.bool false)) rfl (by rw[ae];rfl))
        ·exact zAJ (zAi (v:=(I6 (k:Int))) (U 13 rfl)) (Ext.refl _) rfl
        refine DagSteps.cons (fun s' w' X U H=>Or.inl ⟨?_,?_⟩) ?_
        ·exact zBf rfl rfl (d:=114) (H 4 rfl 114 (.eq (.bool false)) rfl (by rw[ae];rfl))
        ·have di:s' 115=(.slice (some ⟨b2,o2,none⟩) L.length lc):=H 5 rfl 115 (.eq (.slice (some ⟨b2,o2,none⟩) L.length lc)) rfl (by rw[ae];rfl);have dq:s' 116=(.int .i64 ((k:Nat):Int)):=H 6 rfl 116 (.eq (.int .i64 ((k:Nat):Int))) rfl (by rw[ae];rfl);exact zAJ (zAH (b:=b2) (o:=o2) (len:=L.length) (cap:=lc) (i:=k) (o':=o2+k*6) di dq rfl underlying23 zAO qO qO) (Ext.refl _) rfl
        refine DagSteps.cons (fun s' w' X U H=>Or.inl ⟨?_,?_⟩) ?_
        ·exact zBf rfl rfl (d:=114) (H 4 rfl 114 (.eq (.bool false)) rfl (by rw[ae];rfl))
        ·have c8:s' 117=(.pointer (some ⟨b2,o2+k*6,none⟩)):=H 7 rfl 117 (.eq (.pointer (some ⟨b2,o2+k*6,none⟩))) rfl (by rw[ae];rfl);exact zAJ (zAG (vs:=[(I6 x.kind),(.slice b7 x.set.length co),(.slice cj x.args.length bw),(I6 x.mn),(I6 x.mx),(.bool x.neg)]) c8 zAc zAO rfl (ex.ext (Ext.trans E2 (X0.trans X)))) (Ext.refl _) rfl
        refine DagSteps.cons (fun s' w' X U H=>Or.inl ⟨?_,?_⟩) ?_
        ·exact zBf rfl rfl (d:=114) (H 4 rfl 114 (.eq (.bool false)) rfl (by rw[ae];rfl))
        ·exact zAJ (zAG (vs:=[(I6 x.kind),(.slice a5 x.set.length ba),(.slice a4 x.args.length bb),(I6 x.mn),(I6 x.mx),(.bool x.neg)]) (U 14 rfl) zAc zAO rfl (((X0.trans X).keep Bz).cells rfl)) (Ext.refl _) rfl
        refine DagSteps.cons (fun s' w' X U H=>Or.inl ⟨?_,?_⟩) ?_
        ·exact zBf rfl rfl (d:=114) (H 4 rfl 114 (.eq (.bool false)) rfl (by rw[ae];rfl))
        ·have dh:s' 118=(.agg #[(.int .i64 x.kind),(.slice b7 x.set.length co),(.slice cj x.args.length bw),(.int .i64 x.mn),(.int .i64 x.mx),(.bool x.neg)]):=H 8 rfl 118 (.eq (.agg #[(.int .i64 x.kind),(.slice b7 x.set.length co),(.slice cj x.args.length bw),(.int .i64 x.mn),(.int .i64 x.mx),(.bool x.neg)])) rfl (by rw[ae];rfl);have cw:s' 119=(.agg #[(.int .i64 x.kind),(.slice a5 x.set.length ba),(.slice a4 x.args.length bb),(.int .i64 x.mn),(.int .i64 x.mx),(.bool x.neg)]):=H 9 rfl 119 (.eq (.agg #[(.int .i64 x.kind),(.slice a5 x.set.length ba),(.slice a4 x.args.length bb),(.int .i64 x.mn),(.int .i64 x.mx),(.bool x.neg)])) rfl (by rw[ae];rfl);exact zAs (zAV (vs:=[(.agg (R6 x b7 co cj bw)),(.agg (R6 x a5 ba a4 bb))]) func15 zVx zVy (zHG dh cw)) (zNN (zBG.ext (Ext.trans E2 (X0.trans X)) x df) (zBG.ext (Ext.trans E2 (X0.trans X)) x bx) rfl)
        refine DagSteps.cons (fun s' w' X U H=>Or.inl ⟨?_,?_⟩) ?_
        ·exact zBf rfl rfl (d:=114) (H 4 rfl 114 (.eq (.bool false)) rfl (by rw[ae];rfl))
        ·have cz:s' 120=(.bool true):=H 10 rfl 120 (.eq (.bool true)) rfl (by rw[ae];rfl);exact zAJ (zCf (b:=true) cz) (Ext.refl _) rfl
        refine DagSteps.cons (fun s' w' X U H=>Or.inl ⟨?_,?_⟩) ?_
        ·exact zAD rfl
        ·have dg:s' 114=(.bool false):=H 4 rfl 114 (.eq (.bool false)) rfl (by rw[ae];rfl);have dl:s' 121=(.bool false):=H 11 rfl 121 (.eq (.bool false)) rfl (by rw[ae];rfl);exact zAJ (zAd (b:=false) (v:=(.bool false)) dg dl) (Ext.refl _) rfl
        exact DagSteps.nil
       ·intro s' w23 bh U H;obtain ⟨j23,rfl⟩:=zBA.out (σ:=s') (l:=[(3,(.slice (some ⟨b2,o2,none⟩) L.length lc)),(5,(.pointer (some ⟨bd,0,none⟩))),(6,(.slice ca cs.length cc)),(9,(.slice oa out.length oc)),(10,(.slice (some ⟨b,o,none⟩) L3.length an)),(12,(.pointer (some ⟨bg,0,none⟩))),(14,(.pointer (some ⟨bz,0,none⟩))),(103,(.slice (some ⟨b,o,none⟩) L3.length an)),(104,(.int .i64 ((L3.length:Nat):Int))),(105,(.int .i64 ((k:Nat):Int))),(122,(.bool false))]) ⟨U 3 rfl,U 5 rfl,U 6 rfl,U 9 rfl,U 10 rfl,U 12 rfl,U 14 rfl,U 103 rfl,U 104 rfl,U 105 rfl,(show s' 122=(.bool false) from H 12 122 (.eq (.bool false)) rfl (by rw[ae];rfl)),trivial⟩;clear U H;replace Bd:=bh.keep Bd;replace Bg:=bh.keep Bg;replace Bz:=bh.keep Bz;replace hX:=zAn hX bh;replace al:=Nat.le_trans al bh.size;replace E:=E.ext bh;replace E2:=E2.ext bh;refine zAC (zAb rfl (zAP (zAC (zAA (qA (I6 (-1)) rfl (zAB (zAK (zAA (qV (zAG (vs:=[(I6 x.kind),(.slice a5 x.set.length ba),(.slice a4 x.args.length bb),(I6 x.mn),(I6 x.mx),(.bool x.neg)]) rfl zAc zAO rfl (Bz.cells rfl)) (qE rfl (zAV (vs:=[(.agg (R6 x a5 ba a4 bb))]) func20 zaa zan rfl) (zJV _ x _ (zBG.ext E2 x bx) fb) ?_))))))))));rintro _ fa ⟨rfl,ap⟩;replace Bd:=ap.keep Bd;replace Bg:=ap.keep Bg;replace Bz:=ap.keep Bz;replace hX:=zAn hX ap;replace al:=Nat.le_trans al ap.size;replace E:=E.ext ap;replace E2:=E2.ext ap;refine zAB (zAt (b:=zBW x) rfl (fun cq=>?_) (fun cq=>?_))
        ·have dk:=cq;refine zAN (qA (I6 0) rfl (zAB (zAC (zAN (qF bg 0 1 rfl underlying49 rfl zEX rfl (qV (zAL (v:=(.slice qa k qc)) rfl zGb (Bg.cell rfl)) (qM (I6 0) rfl (zAh (ps:=[(0,(I6 0))]) (c:=#[(I6 0)]) qD rfl underlying26 zAv zFB qD qD qK ?_))))))));intro bu wu Nu;have Fu:=Nu.ge E;have Fu_E2:=Nu.ge E2;have Ou_bd:=Nu.lt Bd;have Ou_bg:=Nu.lt Bg;have Ou_bz:=Nu.lt Bz;replace Bd:=Nu.keep Bd;replace Bg:=Nu.keep Bg;replace Bz:=Nu.keep Bz;replace hX:=zAn hX Nu.ext;replace al:=Nat.le_trans al Nu.ext.size;replace E:=E.ext Nu.ext;have Bu:=Nu.blk;replace E2:=E2.ext Nu.ext;refine zBC (base:=bg+1) (n:=k) (m:=1) (xs:=((L3.take k).map zHo).map (Value.int .i64)) (news:=[(I6 0)]) (size:=1) (bytes:=8) (v:=(.slice qa k qc)) qD underlying26 zAv zPA zFB rfl qD rfl hX rfl (rfl) (Bu.cells rfl) qS (by unfold maxLen;omega) qO (al) ?_;intro v9 cu bt a0 fh;replace Bd:=a0.keep (fun h=>by have:=(hX.lt _ h).1;omega) Bd;replace Bg:=a0.keep (fun h=>by have:=(hX.lt _ h).1;omega) Bg;replace E:=E.step a0 (fun x hx h=>absurd (hX.lt x h).1 qO);replace E2:=E2.step a0 (fun x hx h=>absurd (hX.lt x h).1 qO);obtain ⟨a3,a7,rfl⟩:=zAw bt;have bk:zHo x=0:=by unfold zHo;rw[if_pos cq]
         have a8:(cu).ownsRow (bg+1) TDI 1 (.slice a3 (k+1) a7) (k+1) (((L3.take (k+1)).map zHo).map (Value.int .i64)):=by rw[zHu cd,bk,List.map_append];exact bt
         have ao:=Nat.le_trans al a0.size;refine qF bg 0 1 rfl underlying49 rfl zEX rfl (zBr (b:=bg) (o:=1) (c':=#[(I6 0),(.slice a3 (k+1) a7),(.slice ak af.length aj)]) (v:=(.slice a3 (k+1) a7)) rfl rfl rfl zEX Bg qP rfl ?_);intro w25 bn;replace a8:=zBi a8 bn.chg (fun b hb h=>by have h2:b=bg:=h;have:=(a8.lt b hb).1;omega);replace ao:=Nat.le_trans ao bn.chg.size;replace Bd:=bn.keep qO Bd;replace E:=bn.step E qQ;replace E2:=bn.step E2 (Or.inl qO);replace Bg:=bn.blk;refine zAB (zAS (zAC (zAN (qV (zAy (k:=.i64) (a:=(k:Int)) (b:=1) (c:=(k:Int)+1) rfl rfl (zBV qO)) (qM (I6 ((k:Int)+1)) rfl (zAB (zAC ?_)))))));exact ⟨L3.length - (k+1),qO,k+1,a3,a7,zBA.out ⟨rfl,rfl,rfl,rfl,rfl,rfl,rfl,rfl,rfl,trivial⟩,E,E2,Bd,Bg,qO,a8,ao,rfl⟩
        ·have dk:=cq;refine zAP (zAC (zAN (qF bg 0 1 rfl underlying49 rfl zEX rfl (qV (zAL (v:=(.slice qa k qc)) rfl zGb (Bg.cell rfl)) (qM (I6 (-1)) rfl (zAh (ps:=[(0,(I6 (-1)))]) (c:=#[(I6 (-1))]) qD rfl underlying26 zAv zFB qD qD qK ?_))))));intro b26 w26 aw;have F26:=aw.ge E;have F26_E2:=aw.ge E2;have O26_bd:=aw.lt Bd;have O26_bg:=aw.lt Bg;have O26_bz:=aw.lt Bz;replace Bd:=aw.keep Bd;replace Bg:=aw.keep Bg;replace Bz:=aw.keep Bz;replace hX:=zAn hX aw.ext;replace al:=Nat.le_trans al aw.ext.size;replace E:=E.ext aw.ext;have et:=aw.blk;replace E2:=E2.ext aw.ext;refine zBC (base:=bg+1) (n:=k) (m:=1) (xs:=((L3.take k).map zHo).map (Value.int .i64)) (news:=[(I6 (-1))]) (size:=1) (bytes:=8) (v:=(.slice qa k qc)) qD underlying26 zAv zPA zFB rfl qD rfl hX rfl (rfl) (et.cells rfl) qS (by unfold maxLen;omega) qO (al) ?_;intro v9 cu bt a0 fh;replace Bd:=a0.keep (fun h=>by have:=(hX.lt _ h).1;omega) Bd;replace Bg:=a0.keep (fun h=>by have:=(hX.lt _ h).1;omega) Bg;replace E:=E.step a0 (fun x hx h=>absurd (hX.lt x h).1 qO);replace E2:=E2.step a0 (fun x hx h=>absurd (hX.lt x h).1 qO);obtain ⟨a3,a7,rfl⟩:=zAw bt;have bk:zHo x = -1:=by unfold zHo;rw[if_neg (by simp[cq])]
         have a8:(cu).ownsRow (bg+1) TDI 1 (.slice a3 (k+1) a7) (k+1) (((L3.take (k+1)).map zHo).map (Value.int .i64)):=by rw[zHu cd,bk,List.map_append];exact bt
         have ao:=Nat.le_trans al a0.size;refine qF bg 0 1 rfl underlying49 rfl zEX rfl (zBr (b:=bg) (o:=1) (c':=#[(I6 0),(.slice a3 (k+1) a7),(.slice ak af.length aj)]) (v:=(.slice a3 (k+1) a7)) rfl rfl rfl zEX Bg qP rfl ?_);intro w27 bo;replace a8:=zBi a8 bo.chg (fun b hb h=>by have h2:b=bg:=h;have:=(a8.lt b hb).1;omega);replace ao:=Nat.le_trans ao bo.chg.size;replace Bd:=bo.keep qO Bd;replace E:=bo.step E qQ;replace E2:=bo.step E2 (Or.inl qO);replace Bg:=bo.blk;refine zAB (zAS (zAC (zAN (qV (zAy (k:=.i64) (a:=(k:Int)) (b:=1) (c:=(k:Int)+1) rfl rfl (zBV qO)) (qM (I6 ((k:Int)+1)) rfl (zAB (zAC ?_)))))));exact ⟨L3.length - (k+1),qO,k+1,a3,a7,zBA.out ⟨rfl,rfl,rfl,rfl,rfl,rfl,rfl,rfl,rfl,trivial⟩,E,E2,Bd,Bg,qO,a8,ao,rfl⟩
      ·have ei:k=L3.length:=qO
       rw[ei,List.take_length] at hX;refine zAp (zAX (zAX (zAj (zAC (zAA (qM (.slice la L.length lc) rfl (qV (zAM (ad:=la) (n:=L.length) (cap:=lc) underlying23 rfl) (qM (.slice az L3.length an) rfl (qV (zAM (ad:=az) (n:=L3.length) (cap:=an) underlying23 rfl) (qV (zAk (k:=.i64) (a:=(L.length:Int)) (b:=(L3.length:Int)) rfl rfl) (qM (.bool (decide (((L.length:Int):Int)=(L3.length:Int)))) rfl ?_)))))))))));have a9:(decide ((((L.length:Nat):Int):Int)=((L3.length:Nat):Int)))=true:=decide_eq_true (by rw[dn]);refine zAF (oj:=_) rfl rfl qD (cbk a9) (qM (.slice ca cs.length cc) rfl (zAF (oj:=_) rfl rfl qD (cbk a9) (qM (.slice oa out.length oc) rfl (zAF (oj:=_) rfl rfl qD (cbk a9) (qE rfl (zAV (vs:=[(.slice ca cs.length cc),(.slice oa out.length oc)]) func33 nm33 bd33 rfl) ((zWJ _ _ _ cs out (am.ext E2) (ay.ext E2)).mono (R':=fun v w=>v=.bool true∧Ext _ w) (fun v w h=>⟨by rw[h.1,decide_eq_true c5],h.2⟩)) ?_)))));rintro _ fd ⟨rfl,ar⟩;replace Bd:=ar.keep Bd;replace Bg:=ar.keep Bg;replace hX:=zAn hX ar;replace E:=E.ext ar;replace E2:=E2.ext ar;refine qV (zAd (b:=decide (((L.length:Int):Int)=(L3.length:Int))) (v:=(.bool true)) rfl (by rw[a9];rfl)) (qM (.bool true) rfl (zAF (oj:=_) rfl rfl qD rfl (qV (zAG (vs:=[(I6 0),(.slice da L2.length dc),(.slice na ab.length nc)]) rfl zRa zJA rfl (Bd.cells rfl)) (zAF (oj:=_) rfl rfl qD rfl (qV (zAG (vs:=[(I6 0),(.slice qa k qc),(.slice ak af.length aj)]) rfl zRa zJA rfl (Bg.cells rfl)) (zAF (oj:=_) rfl rfl qD rfl (qE rfl (zAV (vs:=[(.agg #[(I6 0),(.slice da L2.length dc),(.slice na ab.length nc)]),(.agg #[(I6 0),(.slice qa k qc),(.slice ak af.length aj)])]) func34 nm34 bd34 rfl) ((zVM _ ⟨0,L2.map zHo,ab⟩ ⟨0,L3.map zHo,af⟩ _ _ (hD.ext E2) ⟨qa,qc,ak,aj,by rw[ei];simp,by simpa using zIO hX qP,by simpa using eo.ext E2⟩).mono (R':=fun v w=>v=.bool true∧Ext _ w) (fun v w h=>⟨by obtain ⟨b,h1,h2⟩:=h.1;rw[h1,h2.2 (by rw[c1,eu])],h.2⟩)) ?_)))))));rintro _ b3 ⟨rfl,ax⟩;replace Bd:=ax.keep Bd;replace Bg:=ax.keep Bg;replace hX:=zAn hX ax;replace E:=E.ext ax;replace E2:=E2.ext ax;refine qV (zAd (b:=true) (v:=(.bool true)) rfl rfl) (qA (.bool true) rfl (zAB (zAR (zAW results5 (v:=(.bool true)) rfl ?_))));exact ⟨rfl,E⟩
 ·obtain ⟨bc,ci,ej,eb⟩:=zJn b5 aq;obtain ⟨be,ec,b8,cp⟩:=zJn bq aq;have a1:(((L.length:Nat):Int))+(((cs.length:Nat):Int))+(((ab.length:Nat):Int))=0:=by rw[ci,b8,cp];rfl
  refine zAP (zAC (zAK (zAA (qM (I6 (zDW t)) rfl (qV (zBo (k:=.i64) (a:=zDW t) (b:=0) rfl rfl) (zAB ?_))))));have c9:(decide ((zDW t:Int)≠0))=true:=decide_eq_true aq;refine zAl (cbk c9) (zAA (qM (I6 ea) rfl (qM (I6 (zDW t)) rfl ?_)));obtain ⟨au,b6⟩:∃e,(decide ((ea:Int)=zDW t))=e:=⟨_,rfl⟩;refine qV ((zAk (k:=.i64) (a:=ea) (b:=zDW t) rfl rfl).trans (by rw[b6];try rfl)) (qM (.bool au) rfl (qG (.bool au) (yU au (I6 f)) (by cases au<;>first|exact gA|exact gB|exact .inl ⟨rfl,zAi (v:=(I6 f)) rfl⟩) (qG (.bool au) (yU au (I6 (zDW t))) (by cases au<;>first|exact gA|exact gB|exact .inl ⟨rfl,zAi (v:=(I6 (zDW t))) rfl⟩) ?_)));obtain ⟨eh,cr⟩:∃e,(decide ((f:Int)=zDW t))=e:=⟨_,rfl⟩;refine qG (.bool au) (yU au (.bool eh)) (by cases au<;>first|exact gA|exact gB|exact .inl ⟨rfl,(zAk (k:=.i64) (a:=f) (b:=zDW t) rfl rfl).trans (by rw[cr];try rfl)⟩) ?_;obtain ⟨ag,b9⟩:∃e,(au && eh)=e:=⟨_,rfl⟩;refine qV (zAd (b:=au) (v:=.bool ag) rfl (by rw[←b9];cases au<;>rfl)) (qM (.bool ag) rfl (qG (.bool ag) (yU ag (.slice la L.length lc)) (by cases ag<;>first|exact gA|exact gB|exact .inl ⟨rfl,zAi (v:=(.slice la L.length lc)) rfl⟩) (qG (.bool ag) (yU ag (I6 (L.length:Int))) (by cases ag<;>first|exact gA|exact gB|exact .inl ⟨rfl,zAM (ad:=la) (n:=L.length) (cap:=lc) underlying23 rfl⟩) (qG (.bool ag) (yU ag (.slice ca cs.length cc)) (by cases ag<;>first|exact gA|exact gB|exact .inl ⟨rfl,zAi (v:=(.slice ca cs.length cc)) rfl⟩) (qG (.bool ag) (yU ag (I6 (cs.length:Int))) (by cases ag<;>first|exact gA|exact gB|exact .inl ⟨rfl,zAM (ad:=ca) (n:=cs.length) (cap:=cc) underlying50 rfl⟩) (qG (.bool ag) (yU ag (I6 ((L.length:Int)+(cs.length:Int)))) (by cases ag<;>first|exact gA|exact gB|exact .inl ⟨rfl,zAy (k:=.i64) (a:=(L.length:Int)) (b:=(cs.length:Int)) (c:=(L.length:Int)+(cs.length:Int)) rfl rfl (zBV qO)⟩) (qG (.bool ag) (yU ag (P6 bd 2)) (by cases ag<;>first|exact gA|exact gB|exact .inl ⟨rfl,zAQ (b:=bd) (o:=0) (o':=2) rfl underlying49 rfl zKw rfl⟩) (qG (.bool ag) (yU ag (.slice na ab.length nc)) (by cases ag<;>first|exact gA|exact gB|exact .inl ⟨rfl,zAL (v:=(.slice na ab.length nc)) rfl zHZ (Bd.cell rfl)⟩) (qG (.bool ag) (yU ag (I6 (ab.length:Int))) (by cases ag<;>first|exact gA|exact gB|exact .inl ⟨rfl,zAM (ad:=na) (n:=ab.length) (cap:=nc) underlying47 rfl⟩) (qG (.bool ag) (yU ag (I6 (((L.length:Int)+(cs.length:Int))+(ab.length:Int)))) (by cases ag<;>first|exact gA|exact gB|exact .inl ⟨rfl,zAy (k:=.i64) (a:=(L.length:Int)+(cs.length:Int)) (b:=(ab.length:Int)) (c:=((L.length:Int)+(cs.length:Int))+(ab.length:Int)) rfl rfl (zBV qO)⟩) ?_))))))))));obtain ⟨d1,cm⟩:∃e,(decide (((((L.length:Nat):Int)+((cs.length:Nat):Int))+((ab.length:Nat):Int):Int)=0))=e:=⟨_,rfl⟩;refine qG (.bool ag) (yU ag (.bool d1)) (by cases ag<;>first|exact gA|exact gB|exact .inl ⟨rfl,(zAk (k:=.i64) (a:=((L.length:Int)+(cs.length:Int))+(ab.length:Int)) (b:=0) rfl rfl).trans (by rw[cm];try rfl)⟩) ?_;obtain ⟨ef,ck⟩:∃e,(ag && d1)=e:=⟨_,rfl⟩;refine qV (zAd (b:=ag) (v:=.bool ef) rfl (by rw[←ck];cases ag<;>rfl)) (qA (.bool ef) rfl (zAB ?_));subst ck;subst cm;subst b9;subst cr;subst b6;refine zAR (zAI (zAW results5 (v:=(.bool (((decide ((ea:Int)=zDW t)) && (decide ((f:Int)=zDW t))) && (decide (((((L.length:Nat):Int)+((cs.length:Nat):Int))+((ab.length:Nat):Int):Int)=0))))) rfl ?_));exact ⟨zAx (by simp[bc,be,a1]),E⟩
end Go.Proofs
namespace Go.Proofs
open Go Go.Eng
set_option maxRecDepth 100000
section
variable {H : Type} {enc : TypeId × Value → H} {P : Program} {w : World} {base : Nat} {spare : Nat → Bool} {held : Bool}
theorem zFh {a:Addr} {k:Nat} {cs:List Value} (hk:0<k) (h:w.cells? base a k=some cs):∃b o,a=⟨b,o,none⟩∧cs.length=k∧zBD w b o cs:=by
  obtain ⟨h1,h2,h3⟩:=World.cells?_some h;obtain ⟨b,o,s⟩:=a;have aa:cs.length=k:=by first|exact h2|exact h1|omega
  have h0:=h3 0 (by omega);have hs:s=none:=by
    cases s with
    | none=>rfl
    | some s=>
      exfalso;have hc:∃v,w.cell? ⟨b,o,some s⟩=some v:=⟨_,by simpa[Addr.add,List.getElem?_eq_getElem (show 0<cs.length by omega)] using h0⟩;obtain ⟨v,hv⟩:=hc;simp[World.cell?] at hv;cases hh:w.heap[b]?<;>simp[hh] at hv;split at hv<;>simp at hv
  subst hs;refine ⟨b,o,rfl,aa,fun i v hv=>?_⟩;have:=h3 i (by have:=zAa hv;omega);rw[Addr.add_lit] at this;rw[this,hv]
theorem zNK {α:Type} {f:α→List Value}:∀{rows:List (List Value)},(∀r∈rows,∃y,r=f y)→∃l:List α,rows=l.map f
  | [],_=>⟨[],rfl⟩
  | r::rows,h=>by
    obtain ⟨y,hy⟩:=h r qP;obtain ⟨l,hl⟩:=zNK (rows:=rows) (f:=f) fun r' hr'=>h r' (List.mem_cons_of_mem _ hr');exact ⟨y::l,by rw[hy,hl];rfl⟩
/-- A slice, if each of its elements is read. -/
theorem zQJ {t e k fuel:Nat} {cs:List Value} {x:DataW H×List MemPlace} {R:List Value→Prop} (ht:P.underlying t=some (.slice e)) (hc:P.cellsOf e=k) (hk:0<k)
    (h:DataW.trod enc P w base spare held fuel t cs=some x) (hR:∀n cs' y,n<fuel→DataW.trod enc P w base spare held n e cs'=some y→R cs') :
    ∃a rows cap,cs=[.slice a rows.length cap]∧zBq w k (.slice a rows.length cap) rows∧(∀r∈rows,R r∧r.length=k)∧rows.length≤cap∧cap≤maxLen:=by
  rcases DataW.trod_slice ht h with ⟨rfl,_⟩|⟨a,ab,cap,ae,ak,n,rfl,rfl,_,hb,hl,hm,af,ah,_,_⟩
  · exact ⟨none,[],0,rfl,zBq.nil _ _ _ _,qP,qP,by simp[maxLen]⟩
  · have ad:∀i,i<ab→∃cs',w.cells? base (a.add (i*k)) k=some cs'∧R cs':=by
      intro i hi;have:=ah i hi;rw[List.getElem?_eq_getElem qO,hc,Option.bind_eq_some_iff] at this;obtain ⟨cs',h1,h2⟩:=this;exact ⟨cs',h1,hR n cs' _ qO h2⟩
    have aj:∀m,m≤ab→∃rows:List (List Value),rows.length=m∧∀i r,rows[i]?=some r→w.cells? base (a.add (i*k)) k=some r∧R r:=by
      intro m
      induction m with
      | zero=>intro _;exact ⟨[],rfl,qP⟩
      | succ m ih=>
        intro hm;obtain ⟨rows,h1,h2⟩:=ih qO;obtain ⟨cs',h3,h4⟩:=ad m qO;refine ⟨rows++[cs'],by simp[h1],fun i r hr=>?_⟩;rcases Nat.lt_or_ge i rows.length with hi|hi
        · rw[List.getElem?_append_left hi] at hr;exact h2 i r hr
        · rw[List.getElem?_append_right hi] at hr;have ag:=zAa hr;simp at ag;obtain rfl:i=m:=qO
          simp[h1] at hr;subst hr;exact ⟨h3,h4⟩
    obtain ⟨rows,ai,aa⟩:=aj ab (Nat.le_refl _);have ac:rows.length≤9223372036854775807:=by simp only[maxLen] at hm;omega
    refine ⟨some a,rows,cap,by rw[ai],⟨some a,cap,rfl,ac,qO,?_⟩,?_,qO,hm⟩
    · rcases Nat.eq_zero_or_pos ab with h0|h0
      · left;exact List.eq_nil_of_length_eq_zero qO
      · right;obtain ⟨r0,al⟩:=zAU (l:=rows) (i:=0) qO;have h1:=(aa 0 r0 al).1;have hz:a.add (0*k)=a:=by simp[Addr.add]
        rw[hz] at h1;obtain ⟨b,o,rfl,_,_⟩:=zFh hk h1;refine ⟨b,o,rfl,fun i r hr=>?_⟩;have h2:=(aa i r hr).1;rw[Addr.add_lit] at h2;obtain ⟨b',o',he,_,h3⟩:=zFh hk h2;cases he;exact h3
    · intro r hr;obtain ⟨i,hi⟩:=List.mem_iff_getElem?.1 hr;have h2:=aa i r hi;obtain ⟨_,_,_,h3,_⟩:=zFh hk h2.1;exact ⟨h2.2,h3⟩
end
section
variable {H : Type} {enc : TypeId × Value → H} {w : World} {base : Nat} {spare : Nat → Bool} {held : Bool}
theorem zOH:prog.cellsOf 103=2:=by kernel_rfl
theorem zRR:prog.cellsOf 25=6:=by kernel_rfl
theorem zTw:prog.cellsOf 3=1:=by kernel_rfl
theorem zXG:prog.cellsOf 4=1:=by kernel_rfl
theorem zVc:prog.cellsOf 23=1:=by kernel_rfl
theorem zVd:prog.cellsOf 22=1:=by kernel_rfl
theorem zQI {fuel:Nat} {cs:List Value} {x:DataW H×List MemPlace} (h:DataW.trod enc prog w base spare held fuel 103 cs=some x):∃s:Int×Int,cs=zBh s:=by
  obtain ⟨xs,n,rfl,_,hl,hx,hf⟩:=DataW.trod_struct underlying103 h;rw[zOH] at hl
  match cs,hl with
  | [c0,c1],_=>
    have h0:DataW.trod enc prog w base spare held n 3 (([c0,c1].drop 0).take (prog.cellsOf 3))=xs[0]?:=hf 0 _ rfl;have h1:DataW.trod enc prog w base spare held n 3 (([c0,c1].drop 1).take (prog.cellsOf 3))=xs[1]?:=hf 1 _ rfl;simp only[zTw,List.drop,List.take] at h0 h1;rw[List.getElem?_eq_getElem (by rw[hx];decide)] at h0 h1;obtain ⟨a,e0,_⟩:=DataW.trod_int underlying3 h0;obtain ⟨b,e1,_⟩:=DataW.trod_int underlying3 h1;simp at e0 e1;subst e0;subst e1;exact ⟨(a,b),rfl⟩
theorem zOd {fuel:Nat} {cs:List Value} {x:DataW H×List MemPlace} (h:DataW.trod enc prog w base spare held fuel 22 cs=some x):∃a l cap,cs=[.slice a l.length cap]∧zBQ w (.slice a l.length cap) l:=by
 obtain ⟨a,aa,cap,rfl,h1,h2,_⟩:=zQJ (R:=fun cs=>∃s:Int×Int,cs=zBh s) underlying22 zOH qD h (fun n cs' y _ hy=>zQI hy);obtain ⟨l,rfl⟩:=zNK fun r hr=>(h2 r hr).1;exact ⟨a,l,cap,qP,by simpa[zBQ] using h1⟩
end
end Go.Proofs
namespace Go.Proofs
open Go Go.Eng
set_option maxRecDepth 100000
section
variable {H : Type} {enc : TypeId × Value → H} {P : Program} {w : World} {base : Nat} {spare : Nat → Bool} {held : Bool}
/-- A slice, if each of its elements is read: with what was read. -/
theorem zOe {t e k fuel:Nat} {cs:List Value} {x:DataW H×List MemPlace} {R:List Value→DataW H→Prop} (ht:P.underlying t=some (.slice e)) (hc:P.cellsOf e=k) (hk:0<k)
    (h:DataW.trod enc P w base spare held fuel t cs=some x) (hR:∀n cs' y,n<fuel→DataW.trod enc P w base spare held n e cs'=some y→R cs' y.1) :
    ∃a rows cap,cs=[.slice a rows.length cap]∧zBq w k (.slice a rows.length cap) rows∧(∀r∈rows,r.length=k)∧rows.length≤cap∧cap≤maxLen∧
      (rows=[]∨∃ds sp,x.1=.slice ds sp∧ds.length=rows.length∧∀(i:Nat) r,rows[i]?=some r→∃d,ds[i]?=some d∧R r d):=by
  rcases DataW.trod_slice ht h with ⟨rfl,_⟩|⟨a,ac,cap,ab,ae,n,rfl,rfl,rfl,hb,hl,hm,ag,aj,_,_⟩
  · exact ⟨none,[],0,rfl,zBq.nil _ _ _ _,qP,qP,by simp[maxLen],.inl rfl⟩
  · have ad:∀i,i<ac→∃cs' y,w.cells? base (a.add (i*k)) k=some cs'∧ab[i]?=some y∧R cs' y.1:=by
      intro i hi;have:=aj i hi;rw[List.getElem?_eq_getElem qO,hc,Option.bind_eq_some_iff] at this;obtain ⟨cs',h1,h2⟩:=this;exact ⟨cs',_,h1,List.getElem?_eq_getElem qO,hR n cs' _ qO h2⟩
    have al:∀m,m≤ac→∃rows:List (List Value),rows.length=m∧∀(i:Nat) r,rows[i]?=some r→w.cells? base (a.add (i*k)) k=some r∧∃y,ab[i]?=some y∧R r y.1:=by
      intro m
      induction m with
      | zero=>intro _;exact ⟨[],rfl,qP⟩
      | succ m ih=>
        intro hm;obtain ⟨rows,h1,h2⟩:=ih qO;obtain ⟨cs',y,h3,h4,h5⟩:=ad m qO;refine ⟨rows++[cs'],by simp[h1],fun i r hr=>?_⟩;rcases Nat.lt_or_ge i rows.length with hi|hi
        · rw[List.getElem?_append_left hi] at hr;exact h2 i r hr
        · rw[List.getElem?_append_right hi] at hr;have ah:=zAa hr;simp at ah;obtain rfl:i=m:=qO
          simp[h1] at hr;subst hr;exact ⟨h3,y,h4,h5⟩
    obtain ⟨rows,ak,aa⟩:=al ac (Nat.le_refl _);have af:rows.length≤9223372036854775807:=by simp only[maxLen] at hm;omega
    refine ⟨some a,rows,cap,by rw[ak],⟨some a,cap,rfl,af,qO,?_⟩,?_,qO,hm,.inr ⟨ab.map (·.1),ae.map (·.1),rfl,by simp;omega,fun i r hr=>?_⟩⟩
    · rcases Nat.eq_zero_or_pos ac with h0|h0
      · left;exact List.eq_nil_of_length_eq_zero qO
      · right;obtain ⟨r0,ai⟩:=zAU (l:=rows) (i:=0) qO;have h1:=(aa 0 r0 ai).1;have hz:a.add (0*k)=a:=by simp[Addr.add]
        rw[hz] at h1;obtain ⟨b,o,rfl,_,_⟩:=zFh hk h1;refine ⟨b,o,rfl,fun i r hr=>?_⟩;have h2:=(aa i r hr).1;rw[Addr.add_lit] at h2;obtain ⟨b',o',he,_,h3⟩:=zFh hk h2;cases he;exact h3
    · intro r hr;obtain ⟨i,hi⟩:=List.mem_iff_getElem?.1 hr;have h2:=aa i r hi;obtain ⟨_,_,_,h3,_⟩:=zFh hk h2.1;exact h3
    · obtain ⟨_,y,h4,h5⟩:=aa i r hr;exact ⟨y.1,by simp[h4],h5⟩
end
section
variable {H : Type} {enc : TypeId × Value → H} {w : World} {base : Nat} {spare : Nat → Bool} {held : Bool}
theorem zTJ {l:List (DataW H)} {i:Nat} {d:DataW H} (h:l[i]?=some d):YtfbglkkidenifaaGreat.Rows.uptoBulk d≤YtfbglkkidenifaaGreat.Rows.uptoBulkAll l:=by
  induction l generalizing i with
  | nil=>simp at h
  | cons x r ih=>
    simp only[YtfbglkkidenifaaGreat.Rows.uptoBulkAll];cases i with
    | zero=>simp at h;subst h;omega
    | succ i=>have:=ih (i:=i) (by simpa using h);omega
theorem zLE {b o:Nat}:∀{rows:List (List Value)} {ds:List (DataW H)},ds.length=rows.length→(∀(i:Nat) r,rows[i]?=some r→zBD w b (o+i*6) r∧∃d,ds[i]?=some d∧∃t,zBG w t r∧t.size≤YtfbglkkidenifaaGreat.Rows.uptoBulk d)→∃ts:List Re,ts.length=rows.length∧(∀(i:Nat) t,ts[i]?=some t→∃vs,zBD w b (o+i*6) vs∧zBG w t vs)∧Re.sizes ts≤YtfbglkkidenifaaGreat.Rows.uptoBulkAll ds:=by
  intro rows ds hl h;have ab:∀m,m≤rows.length→∃ts:List Re,ts.length=m∧(∀(i:Nat) t,ts[i]?=some t→∃vs,zBD w b (o+i*6) vs∧zBG w t vs)∧Re.sizes ts≤YtfbglkkidenifaaGreat.Rows.uptoBulkAll (ds.take m):=by
    intro m
    induction m with
    | zero=>intro _;exact ⟨[],rfl,qP,by simp[Re.sizes]⟩
    | succ m ih=>
      intro hm;obtain ⟨ts,h1,h2,h3⟩:=ih qO;obtain ⟨r,hr⟩:=zAU (l:=rows) (i:=m) qO;obtain ⟨h4,d,hd,t,h5,h6⟩:=h m r hr;refine ⟨ts++[t],by simp[h1],fun i t' ht=>?_,?_⟩
      · rcases Nat.lt_or_ge i ts.length with hi|hi
        · rw[List.getElem?_append_left hi] at ht;exact h2 i t' ht
        · rw[List.getElem?_append_right hi] at ht;have ac:=zAa ht;simp at ac;obtain rfl:i=m:=qO
          simp[h1] at ht;subst ht;exact ⟨r,h4,h5⟩
      · have aa:∀(a c:List (DataW H)),YtfbglkkidenifaaGreat.Rows.uptoBulkAll (a++c)=YtfbglkkidenifaaGreat.Rows.uptoBulkAll a+YtfbglkkidenifaaGreat.Rows.uptoBulkAll c:=by
          intro a c
          induction a with
          | nil=>simp[YtfbglkkidenifaaGreat.Rows.uptoBulkAll]
          | cons y a ih2=>simp only[List.cons_append,YtfbglkkidenifaaGreat.Rows.uptoBulkAll,ih2];omega
        rw[List.take_add_one,hd,aa,Re.sizes_append];simp only[Option.toList_some,YtfbglkkidenifaaGreat.Rows.uptoBulkAll,Re.sizes];omega
  obtain ⟨ts,h1,h2,h3⟩:=ab rows.length (Nat.le_refl _);rw[←hl,List.take_length] at h3;exact ⟨ts,h1,h2,h3⟩
theorem zSM:∀(fuel:Nat) {cs:List Value} {x:DataW H×List MemPlace},DataW.trod enc prog w base spare held fuel 25 cs=some x→∃t,zBG w t cs∧t.size≤YtfbglkkidenifaaGreat.Rows.uptoBulk x.1:=by
  intro fuel
  induction fuel using Nat.strongRecOn with
  | _ fuel ih=>
  intro cs x h;obtain ⟨xs,n,rfl,rfl,hl,hx,hf⟩:=DataW.trod_struct underlying25 h;rw[zRR] at hl
  match cs,hl with
  | [c0,c1,c2,c3,c4,c5],_=>
    have h0:DataW.trod enc prog w base spare held n 3 (([c0,c1,c2,c3,c4,c5].drop 0).take (prog.cellsOf 3))=xs[0]?:=hf 0 _ rfl;have h1:DataW.trod enc prog w base spare held n 22 (([c0,c1,c2,c3,c4,c5].drop 1).take (prog.cellsOf 22))=xs[1]?:=hf 1 _ rfl;have h2:DataW.trod enc prog w base spare held n 23 (([c0,c1,c2,c3,c4,c5].drop 2).take (prog.cellsOf 23))=xs[2]?:=hf 2 _ rfl;have h3:DataW.trod enc prog w base spare held n 3 (([c0,c1,c2,c3,c4,c5].drop 3).take (prog.cellsOf 3))=xs[3]?:=hf 3 _ rfl;have h4:DataW.trod enc prog w base spare held n 3 (([c0,c1,c2,c3,c4,c5].drop 4).take (prog.cellsOf 3))=xs[4]?:=hf 4 _ rfl;have h5:DataW.trod enc prog w base spare held n 4 (([c0,c1,c2,c3,c4,c5].drop 5).take (prog.cellsOf 4))=xs[5]?:=hf 5 _ rfl;simp only[zTw,zXG,zVc,zVd,List.drop,List.take] at h0 h1 h2 h3 h4 h5;have ah:xs.length=6:=hx;obtain ⟨y2,ae⟩:=zAU (l:=xs) (i:=2) qO;have ag:YtfbglkkidenifaaGreat.Rows.uptoBulk y2.1≤YtfbglkkidenifaaGreat.Rows.uptoBulkAll (xs.map (·.1)):=zTJ (i:=2) (by simp[ae]);have hbx:YtfbglkkidenifaaGreat.Rows.uptoBulk (DataW.agg (xs.map (·.1)))=YtfbglkkidenifaaGreat.Rows.uptoBulkAll (xs.map (·.1))+1:=by simp only[YtfbglkkidenifaaGreat.Rows.uptoBulk]
    rw[ae] at h2;rw[List.getElem?_eq_getElem (by rw[hx];decide)] at h0 h1 h3 h4 h5;obtain ⟨k,e0,_⟩:=DataW.trod_int underlying3 h0;obtain ⟨mn,e3,_⟩:=DataW.trod_int underlying3 h3;obtain ⟨mx,e4,_⟩:=DataW.trod_int underlying3 h4;obtain ⟨ng,e5,_⟩:=DataW.trod_bool underlying4 h5;obtain ⟨sa,set,sc,e1,hs⟩:=zOd h1;obtain ⟨aa,rows,ac,e2,ha,af,ai,ad,aj⟩:=zOe (R:=fun cs d=>∃t,zBG w t cs∧t.size≤YtfbglkkidenifaaGreat.Rows.uptoBulk d) underlying23 zRR qD h2 (fun m cs' y hm hy=>ih m qO hy);simp at e0 e1 e2 e3 e4 e5;subst e0;subst e1;subst e2;subst e3;subst e4;subst e5;rcases Nat.eq_zero_or_pos rows.length with hz|hz
    · have:rows=[]:=List.eq_nil_of_length_eq_zero hz;subst this;refine ⟨.mk k set [] mn mx ng,zBG.of (args:=[]) hs ⟨qP,by simp only[maxLen] at ad;omega⟩ (.inl rfl),?_⟩;simp only[Re.size,Re.sizes];omega
    · obtain ⟨b,o,rfl,ab⟩:=zBq.at ha hz;rcases aj with rfl|⟨ds,sp,hy,ak,hd⟩
      · simp at hz
      obtain ⟨ts,al,am,hsz⟩:=zLE (w:=w) (b:=b) (o:=o) (rows:=rows) ak fun i r hr=>⟨ab i r hr,hd i r hr⟩;refine ⟨.mk k set ts mn mx ng,?_,?_⟩
      · rw[←al];exact zBG.of hs ⟨qO,by simp only[maxLen] at ad;omega⟩ (.inr ⟨b,o,rfl,zCO.mk am⟩)
      · rw[hy] at ag;simp only[YtfbglkkidenifaaGreat.Rows.uptoBulk] at ag;simp only[Re.size];omega
end
end Go.Proofs
