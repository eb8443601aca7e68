/- Contracts and plain lemmas, part 3. -/
import Derived.Test.YtfbglkkidenifaaGreatDl2
open Go.Proofs.Tryz
set_option maxHeartbeats 16000000
set_option linter.unusedVariables false
namespace Go.Proofs
open Go Go.Eng
set_option maxRecDepth 100000
def zHF (k:Int):Int:=if k=3∨k=4∨k=7 then 2 else if k=5∨k=6∨k=8∨k=9∨k=10 then 1 else 0
def zZG:Array Value:=#[.int .i64 0,.int .i64 0,.int .i64 0,.int .i64 2,.int .i64 2,.int .i64 1,.int .i64 1,.int .i64 2,.int .i64 1,.int .i64 1,.int .i64 1]
theorem zST:∀i,i<11→zZG[i]?=some (.int .i64 (zHF ((i:Nat):Int))):=by
  intro i h
  match i,h with
  | 0,_=>rfl
  | 1,_=>rfl
  | 2,_=>rfl
  | 3,_=>rfl
  | 4,_=>rfl
  | 5,_=>rfl
  | 6,_=>rfl
  | 7,_=>rfl
  | 8,_=>rfl
  | 9,_=>rfl
  | 10,_=>rfl
theorem zQS (k:Int) (h0:0≤k) (h1:k≤10) (w0:World):Ret prog 154 #[.int .i64 k] w0 fun v w=>v=.int .i64 (zHF k)∧Ext w0 w:=by
 refine qR func154 rfl ntmps154 rfl (fun E=>(zAA (qA (I6 0) rfl (zAB (zAA (zAh (ps:=[(0,(I6 0)),(1,(I6 0)),(2,(I6 0)),(3,(I6 2)),(4,(I6 2)),(5,(I6 1)),(6,(I6 1)),(7,(I6 2)),(8,(I6 1)),(9,(I6 1)),(10,(I6 1))]) (c:=#[(I6 0),(I6 0),(I6 0),(I6 2),(I6 2),(I6 1),(I6 1),(I6 2),(I6 1),(I6 1),(I6 1)]) qD rfl underlying26 zAv zFB qD qD qK ?_))))));intro bq wq Nq;have Fq:=Nq.ge E;replace E:=E.ext Nq.ext;have Bq:=Nq.blk;refine qM (I6 k) rfl (qV (zAH (b:=bq) (o:=0) (len:=11) (cap:=11) (i:=k.toNat) (o':=0+k.toNat) rfl rfl qO underlying26 zAv qO qO) (qV (zAL (v:=(I6 (zHF k))) rfl zAf (Bq.cell (by have:=zST k.toNat qO;rw[Int.toNat_of_nonneg h0] at this;rw[Nat.zero_add];exact this))) (qA (I6 (zHF k)) rfl (zAB (zAR (zAW results154 (v:=(.int .i64 (zHF k))) rfl ?_))))));exact ⟨rfl,E⟩
theorem zGZ {t:Re} (h0:0≤t.kind) (h1:t.kind≤10):okB t.kind t.args.length = !(decide ((t.args.length:Int)<zHF t.kind) || (decide (zHF t.kind<2) && decide (zHF t.kind<t.args.length))):=by
 unfold okB zHF;by_cases h3:t.kind=3∨t.kind=4∨t.kind=7
 ·simp only[if_pos h3];rw[Bool.eq_iff_iff];simp
 ·by_cases h5:t.kind=5∨t.kind=6∨t.kind=8∨t.kind=9∨t.kind=10
  ·simp only[if_neg h3,if_pos h5];rw[Bool.eq_iff_iff];simp;omega
  ·simp only[if_neg h3,if_neg h5];rw[Bool.eq_iff_iff];simp
theorem zVU (wb w0:World) (t:Re) (vs:List Value) (ht:zBG wb t vs) (hE:Ext wb w0) :
  Ret prog 106 #[.agg vs.toArray] w0 fun v w=>v=.int .i64 (zCS t)∧Ext w0 w:=by
 have ht0:=ht;obtain ⟨sa,sc,aa,ac,rfl,bs,fq,fh⟩:=ht.form;have eu:t.set.length≤9223372036854775807:=by simpa using zBq.le bs
 refine qR func106 rfl ntmps106 rfl (fun E=>(zAA (zBL (v:=(.agg (R6 t sa sc aa ac))) (c:=(R6 t sa sc aa ac)) qD rfl rfl ?_)));intro b1 w1 N1;have F1:=N1.ge E;replace E:=E.ext N1.ext;have B1:=N1.blk;refine qA _ rfl (zAB (zAK (zAA (qF b1 0 0 rfl underlying25 rfl zAv rfl (qV (zAL rfl zAf (B1.cell rfl)) ?_)))));obtain ⟨e2,ez⟩:∃e,(decide ((t.kind:Int)<0))=e:=⟨_,rfl⟩;refine qV ((zBH rfl rfl).trans (by rw[ez];try rfl)) (qM _ rfl (qG (.bool e2) (nU e2 (P6 b1 0)) (by cases e2<;>first|exact gA|exact gB|exact .inl ⟨rfl,zAQ rfl underlying25 rfl zAv rfl⟩) (qG (.bool e2) (nU e2 (I6 t.kind)) (by cases e2<;>first|exact gA|exact gB|exact .inl ⟨rfl,zAL rfl zAf (B1.cell rfl)⟩) ?_)));obtain ⟨e3,fe⟩:∃e,(decide ((10:Int)<t.kind))=e:=⟨_,rfl⟩;refine qG (.bool e2) (nU e2 (.bool e3)) (by cases e2<;>first|exact gA|exact gB|exact .inl ⟨rfl,(zCN rfl rfl).trans (by rw[fe];try rfl)⟩) ?_;obtain ⟨e4,fa⟩:∃e,(e2 || e3)=e:=⟨_,rfl⟩;refine qV (zAd (v:=.bool e4) rfl (by rw[←fa];cases e2<;>rfl)) (zAB ?_);subst fa;subst fe;subst ez;refine zAt rfl (fun hk=>?_) (fun hk=>?_)
 ·have ft:=hk;simp at hk;refine zAA (qA _ rfl (zAB (zAR (zAI (zAW results106 (v:=(.int .i64 1)) rfl ?_)))));exact ⟨zBO (by unfold zCS;rw[if_pos qO]),E⟩
 ·have ft:=hk;simp at hk;refine zAP (zAC (zAA (qF b1 0 2 rfl underlying25 rfl zBS rfl (qV (zAL rfl zBE (B1.cell rfl)) (qV (zAM underlying23 rfl) (qA _ rfl (zAB (zAK (zAA (qM _ rfl (qF b1 0 0 rfl underlying25 rfl zAv rfl (qV (zAL rfl zAf (B1.cell rfl)) (qE rfl (zAV func154 zUz zVl rfl) (zQS t.kind qO qO _) ?_)))))))))))));rintro _ w1 ⟨rfl,X1⟩;replace B1:=X1.keep B1;replace E:=E.ext X1;refine qV (zBH rfl rfl) (qM _ rfl ?_);rcases Bool.eq_false_or_eq_true (decide ((((t.args.length:Nat):Int):Int)<zHF t.kind)) with a0|a0
  ·have bh:=a0;replace bh:=of_decide_eq_true bh;refine zAE rfl rfl qD (v:=.bool true) (cbk a0) (Or.inl rfl) (zAE rfl rfl qD (v:=.bool true) (cbk a0) (Or.inl rfl) (zAE rfl rfl qD (v:=.bool true) (cbk a0) (Or.inl rfl) (zAE rfl rfl qD (v:=.bool true) (cbk a0) (Or.inl rfl) (zAE rfl rfl qD (v:=.bool true) (cbk a0) (Or.inl rfl) (zAE rfl rfl qD (v:=undef) rfl (Or.inr rfl) (zAE rfl rfl qD (v:=undef) rfl (Or.inr rfl) (zAE rfl rfl qD (v:=undef) rfl (Or.inr rfl) (zAE rfl rfl qD (v:=undef) rfl (Or.inr rfl) (zAE rfl rfl qD (v:=undef) rfl (Or.inr rfl) (zAE rfl rfl qD (v:=.bool true) (cbk a0) (Or.inl rfl) (qV (zAd (v:=(.bool true)) rfl (by rw[a0];rfl)) (zAB (zAl rfl (zAA ?_))))))))))))));refine qA _ rfl (zAB (zAR (zAI (zAW results106 (v:=(.int .i64 3)) rfl ?_))));have ec:okB t.kind t.args.length=false:=by rw[zGZ qO qO];simp;omega
   exact ⟨zBO (by unfold zCS;rw[if_neg qO,if_pos (by simp[zDb,ec])]),E⟩
  ·have bh:=a0;replace bh:=of_decide_eq_false bh;refine zAF rfl rfl qD (cbk a0) (qF b1 0 0 rfl underlying25 rfl zAv rfl (zAF rfl rfl qD (cbk a0) (qV (zAL rfl zAf (B1.cell rfl)) (zAF rfl rfl qD (cbk a0) (qE rfl (zAV func154 zUz zVl rfl) (zQS t.kind qO qO _) ?_)))));rintro _ w2 ⟨rfl,X2⟩;replace B1:=X2.keep B1;replace E:=E.ext X2;refine zAF rfl rfl qD (cbk a0) (qV (zBH rfl rfl) (zAF rfl rfl qD (cbk a0) (qM _ rfl ?_)));rcases Bool.eq_false_or_eq_true (decide ((zHF t.kind:Int)<2)) with a1|a1
   ·have bi:=a1;replace bi:=of_decide_eq_true bi;refine zAF rfl rfl qD (cbk a1) (qM _ rfl (zAF rfl rfl qD (cbk a1) (qF b1 0 0 rfl underlying25 rfl zAv rfl (zAF rfl rfl qD (cbk a1) (qV (zAL rfl zAf (B1.cell rfl)) (zAF rfl rfl qD (cbk a1) (qE rfl (zAV func154 zUz zVl rfl) (zQS t.kind qO qO _) ?_)))))));rintro _ w3 ⟨rfl,X3⟩;replace B1:=X3.keep B1;replace E:=E.ext X3;refine zAF rfl rfl qD (cbk a1) (qV (zCN rfl rfl) (zAF rfl rfl qD (cbk a0) (qV (zAd (v:=(.bool (decide ((zHF t.kind:Int)<(t.args.length:Int))))) rfl (by rw[a1];rfl)) (qV (zAd (v:=(.bool (decide ((zHF t.kind:Int)<(t.args.length:Int))))) rfl (by rw[a0];rfl)) (zAB (qC rfl (fun hn=>?_) (fun hn=>?_)))))))
    ·refine zAA (qA _ rfl (zAB (zAR (zAI (zAW results106 (v:=(.int .i64 3)) rfl ?_)))));have ec:okB t.kind t.args.length=false:=by rw[zGZ qO qO];simp;omega
     exact ⟨zBO (by unfold zCS;rw[if_neg qO,if_pos (by simp[zDb,ec])]),E⟩
    ·have ef:okB t.kind t.args.length=true:=by rw[zGZ qO qO];simp;omega
     refine zAP (zAC (zAK (zAA (qF b1 0 0 rfl underlying25 rfl zAv rfl (qV (zAL rfl zAf (B1.cell rfl)) ?_)))));obtain ⟨e9,e8⟩:∃e,(decide ((t.kind:Int)≠2))=e:=⟨_,rfl⟩;refine qV ((zBo rfl rfl).trans (by rw[e8];try rfl)) (qM _ rfl (qG (.bool e9) (yU e9 (P6 b1 1)) (by cases e9<;>first|exact gA|exact gB|exact .inl ⟨rfl,zAQ rfl underlying25 rfl zBm rfl⟩) (qG (.bool e9) (yU e9 (.slice sa t.set.length sc)) (by cases e9<;>first|exact gA|exact gB|exact .inl ⟨rfl,zAL rfl zBe (B1.cell rfl)⟩) (qG (.bool e9) (yU e9 (I6 (t.set.length:Int))) (by cases e9<;>first|exact gA|exact gB|exact .inl ⟨rfl,zAM underlying22 rfl⟩) ?_))));obtain ⟨ew,df⟩:∃e,(decide ((0:Int)<((t.set.length:Nat):Int)))=e:=⟨_,rfl⟩;refine qG (.bool e9) (yU e9 (.bool ew)) (by cases e9<;>first|exact gA|exact gB|exact .inl ⟨rfl,(zCN rfl rfl).trans (by rw[df];try rfl)⟩) ?_;obtain ⟨ar,b3⟩:∃e,(e9 && ew)=e:=⟨_,rfl⟩;refine qV (zAd (v:=.bool ar) rfl (by rw[←b3];cases e9<;>rfl)) (qM _ rfl (qG (.bool ar) (nU ar (P6 b1 0)) (by cases ar<;>first|exact gA|exact gB|exact .inl ⟨rfl,zAQ rfl underlying25 rfl zAv rfl⟩) (qG (.bool ar) (nU ar (I6 t.kind)) (by cases ar<;>first|exact gA|exact gB|exact .inl ⟨rfl,zAL rfl zAf (B1.cell rfl)⟩) ?_)));obtain ⟨be,cz⟩:∃e,(decide ((t.kind:Int)≠6))=e:=⟨_,rfl⟩;refine qG (.bool ar) (nU ar (.bool be)) (by cases ar<;>first|exact gA|exact gB|exact .inl ⟨rfl,(zBo rfl rfl).trans (by rw[cz];try rfl)⟩) (qG (.bool ar) (nU ar (.bool be)) (by cases ar<;>first|exact gA|exact gB|exact .inl ⟨rfl,zAi rfl⟩) (qG (nU ar (.bool be)) (nU ar (yU be (P6 b1 4))) (by cases ar<;>cases be<;>first|exact gA|exact gB|exact .inl ⟨rfl,zAQ rfl underlying25 rfl zAv rfl⟩) (qG (nU ar (.bool be)) (nU ar (yU be (I6 t.mx))) (by cases ar<;>cases be<;>first|exact gA|exact gB|exact .inl ⟨rfl,zAL rfl zAf (B1.cell rfl)⟩) ?_)));obtain ⟨fk,db⟩:∃e,(decide ((t.mx:Int)≠0))=e:=⟨_,rfl⟩;refine qG (nU ar (.bool be)) (nU ar (yU be (.bool fk))) (by cases ar<;>cases be<;>first|exact gA|exact gB|exact .inl ⟨rfl,(zBo rfl rfl).trans (by rw[db];try rfl)⟩) ?_;obtain ⟨ea,b2⟩:∃e,(be && fk)=e:=⟨_,rfl⟩;refine qG (.bool ar) (nU ar (.bool ea)) (by cases ar<;>first|exact gA|exact gB|exact .inl ⟨rfl,zAd (v:=.bool ea) rfl (by rw[←b2];cases be<;>rfl)⟩) ?_;obtain ⟨ag,c8⟩:∃e,(ar || ea)=e:=⟨_,rfl⟩;refine qV (zAd (v:=.bool ag) rfl (by rw[←c8];cases ar<;>rfl)) (qM _ rfl (qG (.bool ag) (nU ag (P6 b1 0)) (by cases ag<;>first|exact gA|exact gB|exact .inl ⟨rfl,zAQ rfl underlying25 rfl zAv rfl⟩) (qG (.bool ag) (nU ag (I6 t.kind)) (by cases ag<;>first|exact gA|exact gB|exact .inl ⟨rfl,zAL rfl zAf (B1.cell rfl)⟩) ?_)));obtain ⟨ba,dy⟩:∃e,(decide ((t.kind:Int)≠6))=e:=⟨_,rfl⟩;refine qG (.bool ag) (nU ag (.bool ba)) (by cases ag<;>first|exact gA|exact gB|exact .inl ⟨rfl,(zBo rfl rfl).trans (by rw[dy];try rfl)⟩) (qG (.bool ag) (nU ag (.bool ba)) (by cases ag<;>first|exact gA|exact gB|exact .inl ⟨rfl,zAi rfl⟩) (qG (nU ag (.bool ba)) (nU ag (yU ba (P6 b1 0))) (by cases ag<;>cases ba<;>first|exact gA|exact gB|exact .inl ⟨rfl,zAQ rfl underlying25 rfl zAv rfl⟩) (qG (nU ag (.bool ba)) (nU ag (yU ba (I6 t.kind))) (by cases ag<;>cases ba<;>first|exact gA|exact gB|exact .inl ⟨rfl,zAL rfl zAf (B1.cell rfl)⟩) ?_)));obtain ⟨fl,cl⟩:∃e,(decide ((t.kind:Int)≠9))=e:=⟨_,rfl⟩;refine qG (nU ag (.bool ba)) (nU ag (yU ba (.bool fl))) (by cases ag<;>cases ba<;>first|exact gA|exact gB|exact .inl ⟨rfl,(zBo rfl rfl).trans (by rw[cl];try rfl)⟩) ?_;obtain ⟨a4,cd⟩:∃e,(ba && fl)=e:=⟨_,rfl⟩;refine qG (.bool ag) (nU ag (.bool a4)) (by cases ag<;>first|exact gA|exact gB|exact .inl ⟨rfl,zAd (v:=.bool a4) rfl (by rw[←cd];cases ba<;>rfl)⟩) (qG (.bool ag) (nU ag (.bool a4)) (by cases ag<;>first|exact gA|exact gB|exact .inl ⟨rfl,zAi rfl⟩) (qG (nU ag (.bool a4)) (nU ag (yU a4 (P6 b1 3))) (by cases ag<;>cases a4<;>first|exact gA|exact gB|exact .inl ⟨rfl,zAQ rfl underlying25 rfl zAv rfl⟩) (qG (nU ag (.bool a4)) (nU ag (yU a4 (I6 t.mn))) (by cases ag<;>cases a4<;>first|exact gA|exact gB|exact .inl ⟨rfl,zAL rfl zAf (B1.cell rfl)⟩) ?_)));obtain ⟨fb,bt⟩:∃e,(decide ((t.mn:Int)≠0))=e:=⟨_,rfl⟩;refine qG (nU ag (.bool a4)) (nU ag (yU a4 (.bool fb))) (by cases ag<;>cases a4<;>first|exact gA|exact gB|exact .inl ⟨rfl,(zBo rfl rfl).trans (by rw[bt];try rfl)⟩) ?_;obtain ⟨ej,d4⟩:∃e,(a4 && fb)=e:=⟨_,rfl⟩;refine qG (.bool ag) (nU ag (.bool ej)) (by cases ag<;>first|exact gA|exact gB|exact .inl ⟨rfl,zAd (v:=.bool ej) rfl (by rw[←d4];cases a4<;>rfl)⟩) ?_;obtain ⟨au,dk⟩:∃e,(ag || ej)=e:=⟨_,rfl⟩;refine qV (zAd (v:=.bool au) rfl (by rw[←dk];cases ag<;>rfl)) (qM _ rfl (qG (.bool au) (nU au (P6 b1 0)) (by cases au<;>first|exact gA|exact gB|exact .inl ⟨rfl,zAQ rfl underlying25 rfl zAv rfl⟩) (qG (.bool au) (nU au (I6 t.kind)) (by cases au<;>first|exact gA|exact gB|exact .inl ⟨rfl,zAL rfl zAf (B1.cell rfl)⟩) ?_)));obtain ⟨bj,bw⟩:∃e,(decide ((t.kind:Int)≠10))=e:=⟨_,rfl⟩;refine qG (.bool au) (nU au (.bool bj)) (by cases au<;>first|exact gA|exact gB|exact .inl ⟨rfl,(zBo rfl rfl).trans (by rw[bw];try rfl)⟩) (qG (.bool au) (nU au (.bool bj)) (by cases au<;>first|exact gA|exact gB|exact .inl ⟨rfl,zAi rfl⟩) (qG (nU au (.bool bj)) (nU au (yU bj (P6 b1 5))) (by cases au<;>cases bj<;>first|exact gA|exact gB|exact .inl ⟨rfl,zAQ rfl underlying25 rfl zNG rfl⟩) (qG (nU au (.bool bj)) (nU au (yU bj (.bool t.neg))) (by cases au<;>cases bj<;>first|exact gA|exact gB|exact .inl ⟨rfl,zAL rfl zHm (B1.cell rfl)⟩) ?_)));obtain ⟨ei,c1⟩:∃e,(bj && t.neg)=e:=⟨_,rfl⟩;refine qG (.bool au) (nU au (.bool ei)) (by cases au<;>first|exact gA|exact gB|exact .inl ⟨rfl,zAd (v:=.bool ei) rfl (by rw[←c1];cases bj<;>rfl)⟩) ?_;obtain ⟨fu,dj⟩:∃e,(au || ei)=e:=⟨_,rfl⟩;refine qV (zAd (v:=.bool fu) rfl (by rw[←dj];cases au<;>rfl)) (zAB ?_);subst dj;subst c1;subst bw;subst dk;subst d4;subst bt;subst cd;subst cl;subst dy;subst c8;subst b2;subst db;subst cz;subst b3;subst df;subst e8;refine zAt rfl (fun hf=>?_) (fun hf=>?_)
     ·have d8:=hf;have bq:zDb t=false:=by rw[←Bool.not_eq_true];intro h;unfold zDb at h;generalize t.set.length=sl at h hf;cases hng:t.neg<;>simp[hng] at h hf<;>omega
      refine zAA (qA _ rfl (zAB (zAR (zAI (zAW results106 (v:=(.int .i64 3)) rfl ?_)))));exact ⟨zBO (by unfold zCS;rw[if_neg qO,if_pos bq]),E⟩
     ·have d8:=hf;have bq:zDb t=true:=by unfold zDb;rw[ef];generalize t.set.length=sl at hf;cases hng:t.neg<;>simp[hng] at hf⊢<;>omega
      have hN:zCS t=if t.kind=2 then (if zBR t.set≠0 then zBR t.set else if (t.set.length:Int)=0 then 3 else 0) else if t.kind=6 then (if t.mn<0∨t.mx<t.mn∨8<t.mx then 1 else 0) else if t.kind=9 then (if t.mn<0∨9<t.mn then 1 else 0) else 0:=by unfold zCS;rw[if_neg qO,if_neg (by simp[bq])]
      rw[hN];refine zAP (zAC (zAK (zAA (qF b1 0 0 rfl underlying25 rfl zAv rfl (qV (zAL rfl zAf (B1.cell rfl)) (qV (zAk rfl rfl) (zAB (qC rfl (fun h2=>?_) (fun h2=>?_)))))))))
      ·rw[if_pos h2];refine zAK (zAA (qF b1 0 1 rfl underlying25 rfl zBm rfl (qV (zAL rfl zBe (B1.cell rfl)) (qE rfl (zAV func83 zYI zZO rfl) (zRG _ _ t.set ((bs.ext hE).ext E)) ?_))));rintro _ fo ⟨rfl,cn⟩;replace B1:=cn.keep B1;replace E:=E.ext cn;refine qA _ rfl (zAB (zAA (qM _ rfl (qV (zBo rfl rfl) (zAB (qC rfl (fun h3=>?_) (fun h3=>?_)))))))
       ·refine zAA (qM _ rfl (qA _ rfl (zAB (zAR (zAI (zAI (zAW results106 (v:=(.int .i64 (zBR t.set))) rfl ?_)))))));exact ⟨zBO (by rw[if_pos h3]),E⟩
       ·rw[if_neg h3];refine zAP (zAC (zAA (qF b1 0 1 rfl underlying25 rfl zBm rfl (qV (zAL rfl zBe (B1.cell rfl)) (qV (zAM underlying22 rfl) (qV (zAk rfl rfl) (zAB (qC rfl (fun h4=>?_) (fun h4=>?_)))))))))
        ·refine zAA (qA _ rfl (zAB (zAR (zAI (zAW results106 (v:=(.int .i64 3)) rfl ?_)))));exact ⟨zBO (by rw[if_pos h4]),E⟩
        ·rw[if_neg h4];refine zAP (zAC (zAK (zAA (qF b1 0 0 rfl underlying25 rfl zAv rfl (qV (zAL rfl zAf (B1.cell rfl)) ?_)))));obtain ⟨ab,b5⟩:∃e,(decide ((t.kind:Int)=6))=e:=⟨_,rfl⟩;refine qV ((zAk rfl rfl).trans (by rw[b5];try rfl)) (qM _ rfl (qG (.bool ab) (yU ab (P6 b1 3)) (by cases ab<;>first|exact gA|exact gB|exact .inl ⟨rfl,zAQ rfl underlying25 rfl zAv rfl⟩) (qG (.bool ab) (yU ab (I6 t.mn)) (by cases ab<;>first|exact gA|exact gB|exact .inl ⟨rfl,zAL rfl zAf (B1.cell rfl)⟩) ?_)));obtain ⟨a7,ct⟩:∃e,(decide ((t.mn:Int)<0))=e:=⟨_,rfl⟩;refine qG (.bool ab) (yU ab (.bool a7)) (by cases ab<;>first|exact gA|exact gB|exact .inl ⟨rfl,(zBH rfl rfl).trans (by rw[ct];try rfl)⟩) (qG (.bool ab) (yU ab (.bool a7)) (by cases ab<;>first|exact gA|exact gB|exact .inl ⟨rfl,zAi rfl⟩) (qG (yU ab (.bool a7)) (yU ab (nU a7 (P6 b1 4))) (by cases ab<;>cases a7<;>first|exact gA|exact gB|exact .inl ⟨rfl,zAQ rfl underlying25 rfl zAv rfl⟩) (qG (yU ab (.bool a7)) (yU ab (nU a7 (I6 t.mx))) (by cases ab<;>cases a7<;>first|exact gA|exact gB|exact .inl ⟨rfl,zAL rfl zAf (B1.cell rfl)⟩) ?_)));obtain ⟨fi,d1⟩:∃e,(decide ((8:Int)<t.mx))=e:=⟨_,rfl⟩;refine qG (yU ab (.bool a7)) (yU ab (nU a7 (.bool fi))) (by cases ab<;>cases a7<;>first|exact gA|exact gB|exact .inl ⟨rfl,(zCN rfl rfl).trans (by rw[d1];try rfl)⟩) ?_;obtain ⟨ay,cx⟩:∃e,(a7 || fi)=e:=⟨_,rfl⟩;refine qG (.bool ab) (yU ab (.bool ay)) (by cases ab<;>first|exact gA|exact gB|exact .inl ⟨rfl,zAd (v:=.bool ay) rfl (by rw[←cx];cases a7<;>rfl)⟩) (qG (.bool ab) (yU ab (.bool ay)) (by cases ab<;>first|exact gA|exact gB|exact .inl ⟨rfl,zAi rfl⟩) (qG (yU ab (.bool ay)) (yU ab (nU ay (P6 b1 3))) (by cases ab<;>cases ay<;>first|exact gA|exact gB|exact .inl ⟨rfl,zAQ rfl underlying25 rfl zAv rfl⟩) (qG (yU ab (.bool ay)) (yU ab (nU ay (I6 t.mn))) (by cases ab<;>cases ay<;>first|exact gA|exact gB|exact .inl ⟨rfl,zAL rfl zAf (B1.cell rfl)⟩) (qG (yU ab (.bool ay)) (yU ab (nU ay (P6 b1 4))) (by cases ab<;>cases ay<;>first|exact gA|exact gB|exact .inl ⟨rfl,zAQ rfl underlying25 rfl zAv rfl⟩) (qG (yU ab (.bool ay)) (yU ab (nU ay (I6 t.mx))) (by cases ab<;>cases ay<;>first|exact gA|exact gB|exact .inl ⟨rfl,zAL rfl zAf (B1.cell rfl)⟩) ?_)))));obtain ⟨e7,dv⟩:∃e,(decide ((t.mx:Int)<t.mn))=e:=⟨_,rfl⟩;refine qG (yU ab (.bool ay)) (yU ab (nU ay (.bool e7))) (by cases ab<;>cases ay<;>first|exact gA|exact gB|exact .inl ⟨rfl,(zCN rfl rfl).trans (by rw[dv];try rfl)⟩) ?_;obtain ⟨em,dl⟩:∃e,(ay || e7)=e:=⟨_,rfl⟩;refine qG (.bool ab) (yU ab (.bool em)) (by cases ab<;>first|exact gA|exact gB|exact .inl ⟨rfl,zAd (v:=.bool em) rfl (by rw[←dl];cases ay<;>rfl)⟩) ?_;obtain ⟨aj,cq⟩:∃e,(ab && em)=e:=⟨_,rfl⟩;refine qV (zAd (v:=.bool aj) rfl (by rw[←cq];cases ab<;>rfl)) (qM _ rfl (qG (.bool aj) (nU aj (P6 b1 0)) (by cases aj<;>first|exact gA|exact gB|exact .inl ⟨rfl,zAQ rfl underlying25 rfl zAv rfl⟩) (qG (.bool aj) (nU aj (I6 t.kind)) (by cases aj<;>first|exact gA|exact gB|exact .inl ⟨rfl,zAL rfl zAf (B1.cell rfl)⟩) ?_)));obtain ⟨ao,b7⟩:∃e,(decide ((t.kind:Int)=9))=e:=⟨_,rfl⟩;refine qG (.bool aj) (nU aj (.bool ao)) (by cases aj<;>first|exact gA|exact gB|exact .inl ⟨rfl,(zAk rfl rfl).trans (by rw[b7];try rfl)⟩) (qG (.bool aj) (nU aj (.bool ao)) (by cases aj<;>first|exact gA|exact gB|exact .inl ⟨rfl,zAi rfl⟩) (qG (nU aj (.bool ao)) (nU aj (yU ao (P6 b1 3))) (by cases aj<;>cases ao<;>first|exact gA|exact gB|exact .inl ⟨rfl,zAQ rfl underlying25 rfl zAv rfl⟩) (qG (nU aj (.bool ao)) (nU aj (yU ao (I6 t.mn))) (by cases aj<;>cases ao<;>first|exact gA|exact gB|exact .inl ⟨rfl,zAL rfl zAf (B1.cell rfl)⟩) ?_)));obtain ⟨bd,da⟩:∃e,(decide ((t.mn:Int)<0))=e:=⟨_,rfl⟩;refine qG (nU aj (.bool ao)) (nU aj (yU ao (.bool bd))) (by cases aj<;>cases ao<;>first|exact gA|exact gB|exact .inl ⟨rfl,(zBH rfl rfl).trans (by rw[da];try rfl)⟩) (qG (nU aj (.bool ao)) (nU aj (yU ao (.bool bd))) (by cases aj<;>cases ao<;>first|exact gA|exact gB|exact .inl ⟨rfl,zAi rfl⟩) (qG (nU aj (yU ao (.bool bd))) (nU aj (yU ao (nU bd (P6 b1 3)))) (by cases aj<;>cases ao<;>cases bd<;>first|exact gA|exact gB|exact .inl ⟨rfl,zAQ rfl underlying25 rfl zAv rfl⟩) (qG (nU aj (yU ao (.bool bd))) (nU aj (yU ao (nU bd (I6 t.mn)))) (by cases aj<;>cases ao<;>cases bd<;>first|exact gA|exact gB|exact .inl ⟨rfl,zAL rfl zAf (B1.cell rfl)⟩) ?_)));obtain ⟨e0,bz⟩:∃e,(decide ((9:Int)<t.mn))=e:=⟨_,rfl⟩;refine qG (nU aj (yU ao (.bool bd))) (nU aj (yU ao (nU bd (.bool e0)))) (by cases aj<;>cases ao<;>cases bd<;>first|exact gA|exact gB|exact .inl ⟨rfl,(zCN rfl rfl).trans (by rw[bz];try rfl)⟩) ?_;obtain ⟨es,dm⟩:∃e,(bd || e0)=e:=⟨_,rfl⟩;refine qG (nU aj (.bool ao)) (nU aj (yU ao (.bool es))) (by cases aj<;>cases ao<;>first|exact gA|exact gB|exact .inl ⟨rfl,zAd (v:=.bool es) rfl (by rw[←dm];cases bd<;>rfl)⟩) ?_;obtain ⟨eb,cb⟩:∃e,(ao && es)=e:=⟨_,rfl⟩;refine qG (.bool aj) (nU aj (.bool eb)) (by cases aj<;>first|exact gA|exact gB|exact .inl ⟨rfl,zAd (v:=.bool eb) rfl (by rw[←cb];cases ao<;>rfl)⟩) ?_;obtain ⟨fr,b0⟩:∃e,(aj || eb)=e:=⟨_,rfl⟩;refine qV (zAd (v:=.bool fr) rfl (by rw[←b0];cases aj<;>rfl)) (zAB ?_);subst b0;subst cb;subst dm;subst bz;subst da;subst b7;subst cq;subst dl;subst dv;subst cx;subst d1;subst ct;subst b5;have en:((((decide ((t.kind:Int)=6)) && (((decide ((t.mn:Int)<0)) || (decide ((8:Int)<t.mx))) || (decide ((t.mx:Int)<t.mn)))) || ((decide ((t.kind:Int)=9)) && ((decide ((t.mn:Int)<0)) || (decide ((9:Int)<t.mn))))))=false:=by simp[h2]
         refine zAb (cbk en) (zAP (zAC (zAA (qA _ rfl (zAB (zAR (zAW results106 (v:=(.int .i64 0)) rfl ?_)))))));exact ⟨rfl,E⟩
      ·rw[if_neg h2];refine zAP (zAC (zAK (zAA (qF b1 0 0 rfl underlying25 rfl zAv rfl (qV (zAL rfl zAf (B1.cell rfl)) ?_)))));obtain ⟨ad,cm⟩:∃e,(decide ((t.kind:Int)=6))=e:=⟨_,rfl⟩;refine qV ((zAk rfl rfl).trans (by rw[cm];try rfl)) (qM _ rfl (qG (.bool ad) (yU ad (P6 b1 3)) (by cases ad<;>first|exact gA|exact gB|exact .inl ⟨rfl,zAQ rfl underlying25 rfl zAv rfl⟩) (qG (.bool ad) (yU ad (I6 t.mn)) (by cases ad<;>first|exact gA|exact gB|exact .inl ⟨rfl,zAL rfl zAf (B1.cell rfl)⟩) ?_)));obtain ⟨bb,ce⟩:∃e,(decide ((t.mn:Int)<0))=e:=⟨_,rfl⟩;refine qG (.bool ad) (yU ad (.bool bb)) (by cases ad<;>first|exact gA|exact gB|exact .inl ⟨rfl,(zBH rfl rfl).trans (by rw[ce];try rfl)⟩) (qG (.bool ad) (yU ad (.bool bb)) (by cases ad<;>first|exact gA|exact gB|exact .inl ⟨rfl,zAi rfl⟩) (qG (yU ad (.bool bb)) (yU ad (nU bb (P6 b1 4))) (by cases ad<;>cases bb<;>first|exact gA|exact gB|exact .inl ⟨rfl,zAQ rfl underlying25 rfl zAv rfl⟩) (qG (yU ad (.bool bb)) (yU ad (nU bb (I6 t.mx))) (by cases ad<;>cases bb<;>first|exact gA|exact gB|exact .inl ⟨rfl,zAL rfl zAf (B1.cell rfl)⟩) ?_)));obtain ⟨fc,cr⟩:∃e,(decide ((8:Int)<t.mx))=e:=⟨_,rfl⟩;refine qG (yU ad (.bool bb)) (yU ad (nU bb (.bool fc))) (by cases ad<;>cases bb<;>first|exact gA|exact gB|exact .inl ⟨rfl,(zCN rfl rfl).trans (by rw[cr];try rfl)⟩) ?_;obtain ⟨ax,dd⟩:∃e,(bb || fc)=e:=⟨_,rfl⟩;refine qG (.bool ad) (yU ad (.bool ax)) (by cases ad<;>first|exact gA|exact gB|exact .inl ⟨rfl,zAd (v:=.bool ax) rfl (by rw[←dd];cases bb<;>rfl)⟩) (qG (.bool ad) (yU ad (.bool ax)) (by cases ad<;>first|exact gA|exact gB|exact .inl ⟨rfl,zAi rfl⟩) (qG (yU ad (.bool ax)) (yU ad (nU ax (P6 b1 3))) (by cases ad<;>cases ax<;>first|exact gA|exact gB|exact .inl ⟨rfl,zAQ rfl underlying25 rfl zAv rfl⟩) (qG (yU ad (.bool ax)) (yU ad (nU ax (I6 t.mn))) (by cases ad<;>cases ax<;>first|exact gA|exact gB|exact .inl ⟨rfl,zAL rfl zAf (B1.cell rfl)⟩) (qG (yU ad (.bool ax)) (yU ad (nU ax (P6 b1 4))) (by cases ad<;>cases ax<;>first|exact gA|exact gB|exact .inl ⟨rfl,zAQ rfl underlying25 rfl zAv rfl⟩) (qG (yU ad (.bool ax)) (yU ad (nU ax (I6 t.mx))) (by cases ad<;>cases ax<;>first|exact gA|exact gB|exact .inl ⟨rfl,zAL rfl zAf (B1.cell rfl)⟩) ?_)))));obtain ⟨fm,d0⟩:∃e,(decide ((t.mx:Int)<t.mn))=e:=⟨_,rfl⟩;refine qG (yU ad (.bool ax)) (yU ad (nU ax (.bool fm))) (by cases ad<;>cases ax<;>first|exact gA|exact gB|exact .inl ⟨rfl,(zCN rfl rfl).trans (by rw[d0];try rfl)⟩) ?_;obtain ⟨et,cs⟩:∃e,(ax || fm)=e:=⟨_,rfl⟩;refine qG (.bool ad) (yU ad (.bool et)) (by cases ad<;>first|exact gA|exact gB|exact .inl ⟨rfl,zAd (v:=.bool et) rfl (by rw[←cs];cases ax<;>rfl)⟩) ?_;obtain ⟨al,dn⟩:∃e,(ad && et)=e:=⟨_,rfl⟩;refine qV (zAd (v:=.bool al) rfl (by rw[←dn];cases ad<;>rfl)) (qM _ rfl (qG (.bool al) (nU al (P6 b1 0)) (by cases al<;>first|exact gA|exact gB|exact .inl ⟨rfl,zAQ rfl underlying25 rfl zAv rfl⟩) (qG (.bool al) (nU al (I6 t.kind)) (by cases al<;>first|exact gA|exact gB|exact .inl ⟨rfl,zAL rfl zAf (B1.cell rfl)⟩) ?_)));obtain ⟨ap,cv⟩:∃e,(decide ((t.kind:Int)=9))=e:=⟨_,rfl⟩;refine qG (.bool al) (nU al (.bool ap)) (by cases al<;>first|exact gA|exact gB|exact .inl ⟨rfl,(zAk rfl rfl).trans (by rw[cv];try rfl)⟩) (qG (.bool al) (nU al (.bool ap)) (by cases al<;>first|exact gA|exact gB|exact .inl ⟨rfl,zAi rfl⟩) (qG (nU al (.bool ap)) (nU al (yU ap (P6 b1 3))) (by cases al<;>cases ap<;>first|exact gA|exact gB|exact .inl ⟨rfl,zAQ rfl underlying25 rfl zAv rfl⟩) (qG (nU al (.bool ap)) (nU al (yU ap (I6 t.mn))) (by cases al<;>cases ap<;>first|exact gA|exact gB|exact .inl ⟨rfl,zAL rfl zAf (B1.cell rfl)⟩) ?_)));obtain ⟨a6,di⟩:∃e,(decide ((t.mn:Int)<0))=e:=⟨_,rfl⟩;refine qG (nU al (.bool ap)) (nU al (yU ap (.bool a6))) (by cases al<;>cases ap<;>first|exact gA|exact gB|exact .inl ⟨rfl,(zBH rfl rfl).trans (by rw[di];try rfl)⟩) (qG (nU al (.bool ap)) (nU al (yU ap (.bool a6))) (by cases al<;>cases ap<;>first|exact gA|exact gB|exact .inl ⟨rfl,zAi rfl⟩) (qG (nU al (yU ap (.bool a6))) (nU al (yU ap (nU a6 (P6 b1 3)))) (by cases al<;>cases ap<;>cases a6<;>first|exact gA|exact gB|exact .inl ⟨rfl,zAQ rfl underlying25 rfl zAv rfl⟩) (qG (nU al (yU ap (.bool a6))) (nU al (yU ap (nU a6 (I6 t.mn)))) (by cases al<;>cases ap<;>cases a6<;>first|exact gA|exact gB|exact .inl ⟨rfl,zAL rfl zAf (B1.cell rfl)⟩) ?_)));obtain ⟨e1,c0⟩:∃e,(decide ((9:Int)<t.mn))=e:=⟨_,rfl⟩;refine qG (nU al (yU ap (.bool a6))) (nU al (yU ap (nU a6 (.bool e1)))) (by cases al<;>cases ap<;>cases a6<;>first|exact gA|exact gB|exact .inl ⟨rfl,(zCN rfl rfl).trans (by rw[c0];try rfl)⟩) ?_;obtain ⟨er,c2⟩:∃e,(a6 || e1)=e:=⟨_,rfl⟩;refine qG (nU al (.bool ap)) (nU al (yU ap (.bool er))) (by cases al<;>cases ap<;>first|exact gA|exact gB|exact .inl ⟨rfl,zAd (v:=.bool er) rfl (by rw[←c2];cases a6<;>rfl)⟩) ?_;obtain ⟨eg,c4⟩:∃e,(ap && er)=e:=⟨_,rfl⟩;refine qG (.bool al) (nU al (.bool eg)) (by cases al<;>first|exact gA|exact gB|exact .inl ⟨rfl,zAd (v:=.bool eg) rfl (by rw[←c4];cases ap<;>rfl)⟩) ?_;obtain ⟨fv,b4⟩:∃e,(al || eg)=e:=⟨_,rfl⟩;refine qV (zAd (v:=.bool fv) rfl (by rw[←b4];cases al<;>rfl)) (zAB ?_);subst b4;subst c4;subst c2;subst c0;subst di;subst cv;subst dn;subst cs;subst d0;subst dd;subst cr;subst ce;subst cm;refine zAt rfl (fun h6=>?_) (fun h6=>?_)
       ·have d6:=h6;simp at h6;refine zAA (qA _ rfl (zAB (zAR (zAI (zAW results106 (v:=(.int .i64 1)) rfl ?_)))));exact ⟨zBO (by by_cases h66:t.kind=6;rw[if_pos h66,if_pos qO];rw[if_neg h66,if_pos qO,if_pos qO]),E⟩
       ·have d6:=h6;simp at h6;refine zAP (zAC (zAA (qA _ rfl (zAB (zAR (zAW results106 (v:=(.int .i64 0)) rfl ?_))))));exact ⟨zBO (by by_cases h66:t.kind=6;rw[if_pos h66,if_neg qO];rw[if_neg h66];by_cases h9:t.kind=9;rw[if_pos h9,if_neg qO];rw[if_neg h9]),E⟩
   ·have bi:=a1;replace bi:=of_decide_eq_false bi;have ef:okB t.kind t.args.length=true:=by rw[zGZ qO qO];simp;omega
    refine zAE rfl rfl qD (v:=.bool false) (cbk a1) (Or.inl rfl) (zAE rfl rfl qD (v:=.bool false) (cbk a1) (Or.inl rfl) (zAE rfl rfl qD (v:=.bool false) (cbk a1) (Or.inl rfl) (zAE rfl rfl qD (v:=.bool false) (cbk a1) (Or.inl rfl) (zAE rfl rfl qD (v:=.bool false) (cbk a1) (Or.inl rfl) (zAF rfl rfl qD (cbk a0) (qV (zAd (v:=(.bool false)) rfl (by rw[a1];rfl)) (qV (zAd (v:=(.bool false)) rfl (by rw[a0];rfl)) (zAB (zAb rfl (zAP (zAC (zAK (zAA (qF b1 0 0 rfl underlying25 rfl zAv rfl (qV (zAL rfl zAf (B1.cell rfl)) ?_)))))))))))))));obtain ⟨a2,dw⟩:∃e,(decide ((t.kind:Int)≠2))=e:=⟨_,rfl⟩;refine qV ((zBo rfl rfl).trans (by rw[dw];try rfl)) (qM _ rfl (qG (.bool a2) (yU a2 (P6 b1 1)) (by cases a2<;>first|exact gA|exact gB|exact .inl ⟨rfl,zAQ rfl underlying25 rfl zBm rfl⟩) (qG (.bool a2) (yU a2 (.slice sa t.set.length sc)) (by cases a2<;>first|exact gA|exact gB|exact .inl ⟨rfl,zAL rfl zBe (B1.cell rfl)⟩) (qG (.bool a2) (yU a2 (I6 (t.set.length:Int))) (by cases a2<;>first|exact gA|exact gB|exact .inl ⟨rfl,zAM underlying22 rfl⟩) ?_))));obtain ⟨fg,dr⟩:∃e,(decide ((0:Int)<((t.set.length:Nat):Int)))=e:=⟨_,rfl⟩;refine qG (.bool a2) (yU a2 (.bool fg)) (by cases a2<;>first|exact gA|exact gB|exact .inl ⟨rfl,(zCN rfl rfl).trans (by rw[dr];try rfl)⟩) ?_;obtain ⟨aq,cy⟩:∃e,(a2 && fg)=e:=⟨_,rfl⟩;refine qV (zAd (v:=.bool aq) rfl (by rw[←cy];cases a2<;>rfl)) (qM _ rfl (qG (.bool aq) (nU aq (P6 b1 0)) (by cases aq<;>first|exact gA|exact gB|exact .inl ⟨rfl,zAQ rfl underlying25 rfl zAv rfl⟩) (qG (.bool aq) (nU aq (I6 t.kind)) (by cases aq<;>first|exact gA|exact gB|exact .inl ⟨rfl,zAL rfl zAf (B1.cell rfl)⟩) ?_)));obtain ⟨bg,dt⟩:∃e,(decide ((t.kind:Int)≠6))=e:=⟨_,rfl⟩;refine qG (.bool aq) (nU aq (.bool bg)) (by cases aq<;>first|exact gA|exact gB|exact .inl ⟨rfl,(zBo rfl rfl).trans (by rw[dt];try rfl)⟩) (qG (.bool aq) (nU aq (.bool bg)) (by cases aq<;>first|exact gA|exact gB|exact .inl ⟨rfl,zAi rfl⟩) (qG (nU aq (.bool bg)) (nU aq (yU bg (P6 b1 4))) (by cases aq<;>cases bg<;>first|exact gA|exact gB|exact .inl ⟨rfl,zAQ rfl underlying25 rfl zAv rfl⟩) (qG (nU aq (.bool bg)) (nU aq (yU bg (I6 t.mx))) (by cases aq<;>cases bg<;>first|exact gA|exact gB|exact .inl ⟨rfl,zAL rfl zAf (B1.cell rfl)⟩) ?_)));obtain ⟨fd,b9⟩:∃e,(decide ((t.mx:Int)≠0))=e:=⟨_,rfl⟩;refine qG (nU aq (.bool bg)) (nU aq (yU bg (.bool fd))) (by cases aq<;>cases bg<;>first|exact gA|exact gB|exact .inl ⟨rfl,(zBo rfl rfl).trans (by rw[b9];try rfl)⟩) ?_;obtain ⟨d5,b8⟩:∃e,(bg && fd)=e:=⟨_,rfl⟩;refine qG (.bool aq) (nU aq (.bool d5)) (by cases aq<;>first|exact gA|exact gB|exact .inl ⟨rfl,zAd (v:=.bool d5) rfl (by rw[←b8];cases bg<;>rfl)⟩) ?_;obtain ⟨ak,du⟩:∃e,(aq || d5)=e:=⟨_,rfl⟩;refine qV (zAd (v:=.bool ak) rfl (by rw[←du];cases aq<;>rfl)) (qM _ rfl (qG (.bool ak) (nU ak (P6 b1 0)) (by cases ak<;>first|exact gA|exact gB|exact .inl ⟨rfl,zAQ rfl underlying25 rfl zAv rfl⟩) (qG (.bool ak) (nU ak (I6 t.kind)) (by cases ak<;>first|exact gA|exact gB|exact .inl ⟨rfl,zAL rfl zAf (B1.cell rfl)⟩) ?_)));obtain ⟨a5,dz⟩:∃e,(decide ((t.kind:Int)≠6))=e:=⟨_,rfl⟩;refine qG (.bool ak) (nU ak (.bool a5)) (by cases ak<;>first|exact gA|exact gB|exact .inl ⟨rfl,(zBo rfl rfl).trans (by rw[dz];try rfl)⟩) (qG (.bool ak) (nU ak (.bool a5)) (by cases ak<;>first|exact gA|exact gB|exact .inl ⟨rfl,zAi rfl⟩) (qG (nU ak (.bool a5)) (nU ak (yU a5 (P6 b1 0))) (by cases ak<;>cases a5<;>first|exact gA|exact gB|exact .inl ⟨rfl,zAQ rfl underlying25 rfl zAv rfl⟩) (qG (nU ak (.bool a5)) (nU ak (yU a5 (I6 t.kind))) (by cases ak<;>cases a5<;>first|exact gA|exact gB|exact .inl ⟨rfl,zAL rfl zAf (B1.cell rfl)⟩) ?_)));obtain ⟨ex,bx⟩:∃e,(decide ((t.kind:Int)≠9))=e:=⟨_,rfl⟩;refine qG (nU ak (.bool a5)) (nU ak (yU a5 (.bool ex))) (by cases ak<;>cases a5<;>first|exact gA|exact gB|exact .inl ⟨rfl,(zBo rfl rfl).trans (by rw[bx];try rfl)⟩) ?_;obtain ⟨a3,c9⟩:∃e,(a5 && ex)=e:=⟨_,rfl⟩;refine qG (.bool ak) (nU ak (.bool a3)) (by cases ak<;>first|exact gA|exact gB|exact .inl ⟨rfl,zAd (v:=.bool a3) rfl (by rw[←c9];cases a5<;>rfl)⟩) (qG (.bool ak) (nU ak (.bool a3)) (by cases ak<;>first|exact gA|exact gB|exact .inl ⟨rfl,zAi rfl⟩) (qG (nU ak (.bool a3)) (nU ak (yU a3 (P6 b1 3))) (by cases ak<;>cases a3<;>first|exact gA|exact gB|exact .inl ⟨rfl,zAQ rfl underlying25 rfl zAv rfl⟩) (qG (nU ak (.bool a3)) (nU ak (yU a3 (I6 t.mn))) (by cases ak<;>cases a3<;>first|exact gA|exact gB|exact .inl ⟨rfl,zAL rfl zAf (B1.cell rfl)⟩) ?_)));obtain ⟨e5,ds⟩:∃e,(decide ((t.mn:Int)≠0))=e:=⟨_,rfl⟩;refine qG (nU ak (.bool a3)) (nU ak (yU a3 (.bool e5))) (by cases ak<;>cases a3<;>first|exact gA|exact gB|exact .inl ⟨rfl,(zBo rfl rfl).trans (by rw[ds];try rfl)⟩) ?_;obtain ⟨d7,c5⟩:∃e,(a3 && e5)=e:=⟨_,rfl⟩;refine qG (.bool ak) (nU ak (.bool d7)) (by cases ak<;>first|exact gA|exact gB|exact .inl ⟨rfl,zAd (v:=.bool d7) rfl (by rw[←c5];cases a3<;>rfl)⟩) ?_;obtain ⟨av,dq⟩:∃e,(ak || d7)=e:=⟨_,rfl⟩;refine qV (zAd (v:=.bool av) rfl (by rw[←dq];cases ak<;>rfl)) (qM _ rfl (qG (.bool av) (nU av (P6 b1 0)) (by cases av<;>first|exact gA|exact gB|exact .inl ⟨rfl,zAQ rfl underlying25 rfl zAv rfl⟩) (qG (.bool av) (nU av (I6 t.kind)) (by cases av<;>first|exact gA|exact gB|exact .inl ⟨rfl,zAL rfl zAf (B1.cell rfl)⟩) ?_)));obtain ⟨bk,de⟩:∃e,(decide ((t.kind:Int)≠10))=e:=⟨_,rfl⟩;refine qG (.bool av) (nU av (.bool bk)) (by cases av<;>first|exact gA|exact gB|exact .inl ⟨rfl,(zBo rfl rfl).trans (by rw[de];try rfl)⟩) (qG (.bool av) (nU av (.bool bk)) (by cases av<;>first|exact gA|exact gB|exact .inl ⟨rfl,zAi rfl⟩) (qG (nU av (.bool bk)) (nU av (yU bk (P6 b1 5))) (by cases av<;>cases bk<;>first|exact gA|exact gB|exact .inl ⟨rfl,zAQ rfl underlying25 rfl zNG rfl⟩) (qG (nU av (.bool bk)) (nU av (yU bk (.bool t.neg))) (by cases av<;>cases bk<;>first|exact gA|exact gB|exact .inl ⟨rfl,zAL rfl zHm (B1.cell rfl)⟩) ?_)));obtain ⟨ed,cc⟩:∃e,(bk && t.neg)=e:=⟨_,rfl⟩;refine qG (.bool av) (nU av (.bool ed)) (by cases av<;>first|exact gA|exact gB|exact .inl ⟨rfl,zAd (v:=.bool ed) rfl (by rw[←cc];cases bk<;>rfl)⟩) ?_;obtain ⟨fs,cg⟩:∃e,(av || ed)=e:=⟨_,rfl⟩;refine qV (zAd (v:=.bool fs) rfl (by rw[←cg];cases av<;>rfl)) (zAB ?_);subst cg;subst cc;subst de;subst dq;subst c5;subst ds;subst c9;subst bx;subst dz;subst du;subst b8;subst b9;subst dt;subst cy;subst dr;subst dw;refine zAt rfl (fun hf=>?_) (fun hf=>?_)
    ·have d8:=hf;have bq:zDb t=false:=by rw[←Bool.not_eq_true];intro h;unfold zDb at h;generalize t.set.length=sl at h hf;cases hng:t.neg<;>simp[hng] at h hf<;>omega
     refine zAA (qA _ rfl (zAB (zAR (zAI (zAW results106 (v:=(.int .i64 3)) rfl ?_)))));exact ⟨zBO (by unfold zCS;rw[if_neg qO,if_pos bq]),E⟩
    ·have d8:=hf;have bq:zDb t=true:=by unfold zDb;rw[ef];generalize t.set.length=sl at hf;cases hng:t.neg<;>simp[hng] at hf⊢<;>omega
     have hN:zCS t=if t.kind=2 then (if zBR t.set≠0 then zBR t.set else if (t.set.length:Int)=0 then 3 else 0) else if t.kind=6 then (if t.mn<0∨t.mx<t.mn∨8<t.mx then 1 else 0) else if t.kind=9 then (if t.mn<0∨9<t.mn then 1 else 0) else 0:=by unfold zCS;rw[if_neg qO,if_neg (by simp[bq])]
     rw[hN];refine zAP (zAC (zAK (zAA (qF b1 0 0 rfl underlying25 rfl zAv rfl (qV (zAL rfl zAf (B1.cell rfl)) (qV (zAk rfl rfl) (zAB (qC rfl (fun h2=>?_) (fun h2=>?_)))))))))
     ·rw[if_pos h2];refine zAK (zAA (qF b1 0 1 rfl underlying25 rfl zBm rfl (qV (zAL rfl zBe (B1.cell rfl)) (qE rfl (zAV func83 zYI zZO rfl) (zRG _ _ t.set ((bs.ext hE).ext E)) ?_))));rintro _ fo ⟨rfl,cn⟩;replace B1:=cn.keep B1;replace E:=E.ext cn;refine qA _ rfl (zAB (zAA (qM _ rfl (qV (zBo rfl rfl) (zAB (qC rfl (fun h3=>?_) (fun h3=>?_)))))))
      ·refine zAA (qM _ rfl (qA _ rfl (zAB (zAR (zAI (zAI (zAW results106 (v:=(.int .i64 (zBR t.set))) rfl ?_)))))));exact ⟨zBO (by rw[if_pos h3]),E⟩
      ·rw[if_neg h3];refine zAP (zAC (zAA (qF b1 0 1 rfl underlying25 rfl zBm rfl (qV (zAL rfl zBe (B1.cell rfl)) (qV (zAM underlying22 rfl) (qV (zAk rfl rfl) (zAB (qC rfl (fun h4=>?_) (fun h4=>?_)))))))))
       ·refine zAA (qA _ rfl (zAB (zAR (zAI (zAW results106 (v:=(.int .i64 3)) rfl ?_)))));exact ⟨zBO (by rw[if_pos h4]),E⟩
       ·rw[if_neg h4];refine zAP (zAC (zAK (zAA (qF b1 0 0 rfl underlying25 rfl zAv rfl (qV (zAL rfl zAf (B1.cell rfl)) ?_)))));obtain ⟨ae,dx⟩:∃e,(decide ((t.kind:Int)=6))=e:=⟨_,rfl⟩;refine qV ((zAk rfl rfl).trans (by rw[dx];try rfl)) (qM _ rfl (qG (.bool ae) (yU ae (P6 b1 3)) (by cases ae<;>first|exact gA|exact gB|exact .inl ⟨rfl,zAQ rfl underlying25 rfl zAv rfl⟩) (qG (.bool ae) (yU ae (I6 t.mn)) (by cases ae<;>first|exact gA|exact gB|exact .inl ⟨rfl,zAL rfl zAf (B1.cell rfl)⟩) ?_)));obtain ⟨a9,b6⟩:∃e,(decide ((t.mn:Int)<0))=e:=⟨_,rfl⟩;refine qG (.bool ae) (yU ae (.bool a9)) (by cases ae<;>first|exact gA|exact gB|exact .inl ⟨rfl,(zBH rfl rfl).trans (by rw[b6];try rfl)⟩) (qG (.bool ae) (yU ae (.bool a9)) (by cases ae<;>first|exact gA|exact gB|exact .inl ⟨rfl,zAi rfl⟩) (qG (yU ae (.bool a9)) (yU ae (nU a9 (P6 b1 4))) (by cases ae<;>cases a9<;>first|exact gA|exact gB|exact .inl ⟨rfl,zAQ rfl underlying25 rfl zAv rfl⟩) (qG (yU ae (.bool a9)) (yU ae (nU a9 (I6 t.mx))) (by cases ae<;>cases a9<;>first|exact gA|exact gB|exact .inl ⟨rfl,zAL rfl zAf (B1.cell rfl)⟩) ?_)));obtain ⟨ff,bu⟩:∃e,(decide ((8:Int)<t.mx))=e:=⟨_,rfl⟩;refine qG (yU ae (.bool a9)) (yU ae (nU a9 (.bool ff))) (by cases ae<;>cases a9<;>first|exact gA|exact gB|exact .inl ⟨rfl,(zCN rfl rfl).trans (by rw[bu];try rfl)⟩) ?_;obtain ⟨aw,ca⟩:∃e,(a9 || ff)=e:=⟨_,rfl⟩;refine qG (.bool ae) (yU ae (.bool aw)) (by cases ae<;>first|exact gA|exact gB|exact .inl ⟨rfl,zAd (v:=.bool aw) rfl (by rw[←ca];cases a9<;>rfl)⟩) (qG (.bool ae) (yU ae (.bool aw)) (by cases ae<;>first|exact gA|exact gB|exact .inl ⟨rfl,zAi rfl⟩) (qG (yU ae (.bool aw)) (yU ae (nU aw (P6 b1 3))) (by cases ae<;>cases aw<;>first|exact gA|exact gB|exact .inl ⟨rfl,zAQ rfl underlying25 rfl zAv rfl⟩) (qG (yU ae (.bool aw)) (yU ae (nU aw (I6 t.mn))) (by cases ae<;>cases aw<;>first|exact gA|exact gB|exact .inl ⟨rfl,zAL rfl zAf (B1.cell rfl)⟩) (qG (yU ae (.bool aw)) (yU ae (nU aw (P6 b1 4))) (by cases ae<;>cases aw<;>first|exact gA|exact gB|exact .inl ⟨rfl,zAQ rfl underlying25 rfl zAv rfl⟩) (qG (yU ae (.bool aw)) (yU ae (nU aw (I6 t.mx))) (by cases ae<;>cases aw<;>first|exact gA|exact gB|exact .inl ⟨rfl,zAL rfl zAf (B1.cell rfl)⟩) ?_)))));obtain ⟨fj,cf⟩:∃e,(decide ((t.mx:Int)<t.mn))=e:=⟨_,rfl⟩;refine qG (yU ae (.bool aw)) (yU ae (nU aw (.bool fj))) (by cases ae<;>cases aw<;>first|exact gA|exact gB|exact .inl ⟨rfl,(zCN rfl rfl).trans (by rw[cf];try rfl)⟩) ?_;obtain ⟨eo,ck⟩:∃e,(aw || fj)=e:=⟨_,rfl⟩;refine qG (.bool ae) (yU ae (.bool eo)) (by cases ae<;>first|exact gA|exact gB|exact .inl ⟨rfl,zAd (v:=.bool eo) rfl (by rw[←ck];cases aw<;>rfl)⟩) ?_;obtain ⟨ai,ch⟩:∃e,(ae && eo)=e:=⟨_,rfl⟩;refine qV (zAd (v:=.bool ai) rfl (by rw[←ch];cases ae<;>rfl)) (qM _ rfl (qG (.bool ai) (nU ai (P6 b1 0)) (by cases ai<;>first|exact gA|exact gB|exact .inl ⟨rfl,zAQ rfl underlying25 rfl zAv rfl⟩) (qG (.bool ai) (nU ai (I6 t.kind)) (by cases ai<;>first|exact gA|exact gB|exact .inl ⟨rfl,zAL rfl zAf (B1.cell rfl)⟩) ?_)));obtain ⟨an,co⟩:∃e,(decide ((t.kind:Int)=9))=e:=⟨_,rfl⟩;refine qG (.bool ai) (nU ai (.bool an)) (by cases ai<;>first|exact gA|exact gB|exact .inl ⟨rfl,(zAk rfl rfl).trans (by rw[co];try rfl)⟩) (qG (.bool ai) (nU ai (.bool an)) (by cases ai<;>first|exact gA|exact gB|exact .inl ⟨rfl,zAi rfl⟩) (qG (nU ai (.bool an)) (nU ai (yU an (P6 b1 3))) (by cases ai<;>cases an<;>first|exact gA|exact gB|exact .inl ⟨rfl,zAQ rfl underlying25 rfl zAv rfl⟩) (qG (nU ai (.bool an)) (nU ai (yU an (I6 t.mn))) (by cases ai<;>cases an<;>first|exact gA|exact gB|exact .inl ⟨rfl,zAL rfl zAf (B1.cell rfl)⟩) ?_)));obtain ⟨bf,ci⟩:∃e,(decide ((t.mn:Int)<0))=e:=⟨_,rfl⟩;refine qG (nU ai (.bool an)) (nU ai (yU an (.bool bf))) (by cases ai<;>cases an<;>first|exact gA|exact gB|exact .inl ⟨rfl,(zBH rfl rfl).trans (by rw[ci];try rfl)⟩) (qG (nU ai (.bool an)) (nU ai (yU an (.bool bf))) (by cases ai<;>cases an<;>first|exact gA|exact gB|exact .inl ⟨rfl,zAi rfl⟩) (qG (nU ai (yU an (.bool bf))) (nU ai (yU an (nU bf (P6 b1 3)))) (by cases ai<;>cases an<;>cases bf<;>first|exact gA|exact gB|exact .inl ⟨rfl,zAQ rfl underlying25 rfl zAv rfl⟩) (qG (nU ai (yU an (.bool bf))) (nU ai (yU an (nU bf (I6 t.mn)))) (by cases ai<;>cases an<;>cases bf<;>first|exact gA|exact gB|exact .inl ⟨rfl,zAL rfl zAf (B1.cell rfl)⟩) ?_)));obtain ⟨fn,cj⟩:∃e,(decide ((9:Int)<t.mn))=e:=⟨_,rfl⟩;refine qG (nU ai (yU an (.bool bf))) (nU ai (yU an (nU bf (.bool fn)))) (by cases ai<;>cases an<;>cases bf<;>first|exact gA|exact gB|exact .inl ⟨rfl,(zCN rfl rfl).trans (by rw[cj];try rfl)⟩) ?_;obtain ⟨d9,d2⟩:∃e,(bf || fn)=e:=⟨_,rfl⟩;refine qG (nU ai (.bool an)) (nU ai (yU an (.bool d9))) (by cases ai<;>cases an<;>first|exact gA|exact gB|exact .inl ⟨rfl,zAd (v:=.bool d9) rfl (by rw[←d2];cases bf<;>rfl)⟩) ?_;obtain ⟨ep,cp⟩:∃e,(an && d9)=e:=⟨_,rfl⟩;refine qG (.bool ai) (nU ai (.bool ep)) (by cases ai<;>first|exact gA|exact gB|exact .inl ⟨rfl,zAd (v:=.bool ep) rfl (by rw[←cp];cases an<;>rfl)⟩) ?_;obtain ⟨fp,dg⟩:∃e,(ai || ep)=e:=⟨_,rfl⟩;refine qV (zAd (v:=.bool fp) rfl (by rw[←dg];cases ai<;>rfl)) (zAB ?_);subst dg;subst cp;subst d2;subst cj;subst ci;subst co;subst ch;subst ck;subst cf;subst ca;subst bu;subst b6;subst dx;have ek:((((decide ((t.kind:Int)=6)) && (((decide ((t.mn:Int)<0)) || (decide ((8:Int)<t.mx))) || (decide ((t.mx:Int)<t.mn)))) || ((decide ((t.kind:Int)=9)) && ((decide ((t.mn:Int)<0)) || (decide ((9:Int)<t.mn))))))=false:=by simp[h2]
        refine zAb (cbk ek) (zAP (zAC (zAA (qA _ rfl (zAB (zAR (zAW results106 (v:=(.int .i64 0)) rfl ?_)))))));exact ⟨rfl,E⟩
     ·rw[if_neg h2];refine zAP (zAC (zAK (zAA (qF b1 0 0 rfl underlying25 rfl zAv rfl (qV (zAL rfl zAf (B1.cell rfl)) ?_)))));obtain ⟨af,cu⟩:∃e,(decide ((t.kind:Int)=6))=e:=⟨_,rfl⟩;refine qV ((zAk rfl rfl).trans (by rw[cu];try rfl)) (qM _ rfl (qG (.bool af) (yU af (P6 b1 3)) (by cases af<;>first|exact gA|exact gB|exact .inl ⟨rfl,zAQ rfl underlying25 rfl zAv rfl⟩) (qG (.bool af) (yU af (I6 t.mn)) (by cases af<;>first|exact gA|exact gB|exact .inl ⟨rfl,zAL rfl zAf (B1.cell rfl)⟩) ?_)));obtain ⟨bc,c7⟩:∃e,(decide ((t.mn:Int)<0))=e:=⟨_,rfl⟩;refine qG (.bool af) (yU af (.bool bc)) (by cases af<;>first|exact gA|exact gB|exact .inl ⟨rfl,(zBH rfl rfl).trans (by rw[c7];try rfl)⟩) (qG (.bool af) (yU af (.bool bc)) (by cases af<;>first|exact gA|exact gB|exact .inl ⟨rfl,zAi rfl⟩) (qG (yU af (.bool bc)) (yU af (nU bc (P6 b1 4))) (by cases af<;>cases bc<;>first|exact gA|exact gB|exact .inl ⟨rfl,zAQ rfl underlying25 rfl zAv rfl⟩) (qG (yU af (.bool bc)) (yU af (nU bc (I6 t.mx))) (by cases af<;>cases bc<;>first|exact gA|exact gB|exact .inl ⟨rfl,zAL rfl zAf (B1.cell rfl)⟩) ?_)));obtain ⟨ey,dp⟩:∃e,(decide ((8:Int)<t.mx))=e:=⟨_,rfl⟩;refine qG (yU af (.bool bc)) (yU af (nU bc (.bool ey))) (by cases af<;>cases bc<;>first|exact gA|exact gB|exact .inl ⟨rfl,(zCN rfl rfl).trans (by rw[dp];try rfl)⟩) ?_;obtain ⟨az,cw⟩:∃e,(bc || ey)=e:=⟨_,rfl⟩;refine qG (.bool af) (yU af (.bool az)) (by cases af<;>first|exact gA|exact gB|exact .inl ⟨rfl,zAd (v:=.bool az) rfl (by rw[←cw];cases bc<;>rfl)⟩) (qG (.bool af) (yU af (.bool az)) (by cases af<;>first|exact gA|exact gB|exact .inl ⟨rfl,zAi rfl⟩) (qG (yU af (.bool az)) (yU af (nU az (P6 b1 3))) (by cases af<;>cases az<;>first|exact gA|exact gB|exact .inl ⟨rfl,zAQ rfl underlying25 rfl zAv rfl⟩) (qG (yU af (.bool az)) (yU af (nU az (I6 t.mn))) (by cases af<;>cases az<;>first|exact gA|exact gB|exact .inl ⟨rfl,zAL rfl zAf (B1.cell rfl)⟩) (qG (yU af (.bool az)) (yU af (nU az (P6 b1 4))) (by cases af<;>cases az<;>first|exact gA|exact gB|exact .inl ⟨rfl,zAQ rfl underlying25 rfl zAv rfl⟩) (qG (yU af (.bool az)) (yU af (nU az (I6 t.mx))) (by cases af<;>cases az<;>first|exact gA|exact gB|exact .inl ⟨rfl,zAL rfl zAf (B1.cell rfl)⟩) ?_)))));obtain ⟨e6,dh⟩:∃e,(decide ((t.mx:Int)<t.mn))=e:=⟨_,rfl⟩;refine qG (yU af (.bool az)) (yU af (nU az (.bool e6))) (by cases af<;>cases az<;>first|exact gA|exact gB|exact .inl ⟨rfl,(zCN rfl rfl).trans (by rw[dh];try rfl)⟩) ?_;obtain ⟨ee,dc⟩:∃e,(az || e6)=e:=⟨_,rfl⟩;refine qG (.bool af) (yU af (.bool ee)) (by cases af<;>first|exact gA|exact gB|exact .inl ⟨rfl,zAd (v:=.bool ee) rfl (by rw[←dc];cases az<;>rfl)⟩) ?_;obtain ⟨ah,c3⟩:∃e,(af && ee)=e:=⟨_,rfl⟩;refine qV (zAd (v:=.bool ah) rfl (by rw[←c3];cases af<;>rfl)) (qM _ rfl (qG (.bool ah) (nU ah (P6 b1 0)) (by cases ah<;>first|exact gA|exact gB|exact .inl ⟨rfl,zAQ rfl underlying25 rfl zAv rfl⟩) (qG (.bool ah) (nU ah (I6 t.kind)) (by cases ah<;>first|exact gA|exact gB|exact .inl ⟨rfl,zAL rfl zAf (B1.cell rfl)⟩) ?_)));obtain ⟨am,d3⟩:∃e,(decide ((t.kind:Int)=9))=e:=⟨_,rfl⟩;refine qG (.bool ah) (nU ah (.bool am)) (by cases ah<;>first|exact gA|exact gB|exact .inl ⟨rfl,(zAk rfl rfl).trans (by rw[d3];try rfl)⟩) (qG (.bool ah) (nU ah (.bool am)) (by cases ah<;>first|exact gA|exact gB|exact .inl ⟨rfl,zAi rfl⟩) (qG (nU ah (.bool am)) (nU ah (yU am (P6 b1 3))) (by cases ah<;>cases am<;>first|exact gA|exact gB|exact .inl ⟨rfl,zAQ rfl underlying25 rfl zAv rfl⟩) (qG (nU ah (.bool am)) (nU ah (yU am (I6 t.mn))) (by cases ah<;>cases am<;>first|exact gA|exact gB|exact .inl ⟨rfl,zAL rfl zAf (B1.cell rfl)⟩) ?_)));obtain ⟨a8,bv⟩:∃e,(decide ((t.mn:Int)<0))=e:=⟨_,rfl⟩;refine qG (nU ah (.bool am)) (nU ah (yU am (.bool a8))) (by cases ah<;>cases am<;>first|exact gA|exact gB|exact .inl ⟨rfl,(zBH rfl rfl).trans (by rw[bv];try rfl)⟩) (qG (nU ah (.bool am)) (nU ah (yU am (.bool a8))) (by cases ah<;>cases am<;>first|exact gA|exact gB|exact .inl ⟨rfl,zAi rfl⟩) (qG (nU ah (yU am (.bool a8))) (nU ah (yU am (nU a8 (P6 b1 3)))) (by cases ah<;>cases am<;>cases a8<;>first|exact gA|exact gB|exact .inl ⟨rfl,zAQ rfl underlying25 rfl zAv rfl⟩) (qG (nU ah (yU am (.bool a8))) (nU ah (yU am (nU a8 (I6 t.mn)))) (by cases ah<;>cases am<;>cases a8<;>first|exact gA|exact gB|exact .inl ⟨rfl,zAL rfl zAf (B1.cell rfl)⟩) ?_)));obtain ⟨c6,bm⟩:∃e,(decide ((9:Int)<t.mn))=e:=⟨_,rfl⟩;refine qG (nU ah (yU am (.bool a8))) (nU ah (yU am (nU a8 (.bool c6)))) (by cases ah<;>cases am<;>cases a8<;>first|exact gA|exact gB|exact .inl ⟨rfl,(zCN rfl rfl).trans (by rw[bm];try rfl)⟩) ?_;obtain ⟨bp,bn⟩:∃e,(a8 || c6)=e:=⟨_,rfl⟩;refine qG (nU ah (.bool am)) (nU ah (yU am (.bool bp))) (by cases ah<;>cases am<;>first|exact gA|exact gB|exact .inl ⟨rfl,zAd (v:=.bool bp) rfl (by rw[←bn];cases a8<;>rfl)⟩) ?_;obtain ⟨br,bo⟩:∃e,(am && bp)=e:=⟨_,rfl⟩;refine qG (.bool ah) (nU ah (.bool br)) (by cases ah<;>first|exact gA|exact gB|exact .inl ⟨rfl,zAd (v:=.bool br) rfl (by rw[←bo];cases am<;>rfl)⟩) ?_;obtain ⟨eh,bl⟩:∃e,(ah || br)=e:=⟨_,rfl⟩;refine qV (zAd (v:=.bool eh) rfl (by rw[←bl];cases ah<;>rfl)) (zAB ?_);subst bl;subst bo;subst bn;subst bm;subst bv;subst d3;subst c3;subst dc;subst dh;subst cw;subst dp;subst c7;subst cu;refine zAt rfl (fun h6=>?_) (fun h6=>?_)
      ·have d6:=h6;simp at h6;refine zAA (qA _ rfl (zAB (zAR (zAI (zAW results106 (v:=(.int .i64 1)) rfl ?_)))));exact ⟨zBO (by by_cases h66:t.kind=6;rw[if_pos h66,if_pos qO];rw[if_neg h66,if_pos qO,if_pos qO]),E⟩
      ·have d6:=h6;simp at h6;refine zAP (zAC (zAA (qA _ rfl (zAB (zAR (zAW results106 (v:=(.int .i64 0)) rfl ?_))))));exact ⟨zBO (by by_cases h66:t.kind=6;rw[if_pos h66,if_neg qO];rw[if_neg h66];by_cases h9:t.kind=9;rw[if_pos h9,if_neg qO];rw[if_neg h9]),E⟩
end Go.Proofs
namespace Go.Proofs
open Go Go.Eng
set_option maxRecDepth 100000
abbrev TE:Nat:=25
mutual
def zGQ:Re→List Re
  | .mk k set args mn mx ng=>.mk k set args mn mx ng::zDa args
def zDa:List Re→List Re
  | []=>[]
  | t::ts=>zGQ t++zDa ts
end
theorem zKI (t:Re):zGQ t=t::zDa t.args:=by cases t;simp only[zGQ,Re.args]
theorem zHX:∀(a b:List Re),zDa (a++b)=zDa a++zDa b
  | [],b=>by simp[zDa]
  | x::a,b=>by simp only[List.cons_append,zDa,zHX a b,List.append_assoc]
mutual
theorem zDh:∀(t:Re),(zGQ t).length=t.size
  | .mk k set args mn mx ng=>by simp only[zGQ,Re.size,List.length_cons,zIK args]
theorem zIK:∀(ts:List Re),(zDa ts).length=Re.sizes ts
  | []=>by simp[zDa,Re.sizes]
  | t::ts=>by simp only[zDa,Re.sizes,List.length_append,zDh t,zIK ts]
end
theorem zEL:∀(ts:List Re),ts.length≤Re.sizes ts
  | []=>qP
  | t::ts=>by have:=zEL ts;have:=t.size_pos;simp only[Re.sizes,List.length_cons];omega
theorem zJy (ts:List Re):Re.sizes ts.reverse=Re.sizes ts:=by
  induction ts with
  | nil=>rfl
  | cons t ts ih=>simp only[List.reverse_cons,Re.sizes_append,ih,Re.sizes];omega
def zBv (w:World):List Re→List (List Value)→Prop
  | [],[]=>True
  | t::ts,r::rs=>zBG w t r∧zBv w ts rs
  | _,_=>False
theorem zBv.ext {w w':World} (e:Ext w w'):∀{ts:List Re} {rs:List (List Value)},zBv w ts rs→zBv w' ts rs
  | [],[],_=>trivial
  | t::ts,r::rs,h=>⟨zBG.ext e t h.1,zBv.ext e h.2⟩
  | [],_::_,h=>h.elim
  | _::_,[],h=>h.elim
theorem zBv.len {w:World}:∀{ts:List Re} {rs:List (List Value)},zBv w ts rs→rs.length=ts.length
  | [],[],_=>rfl
  | t::ts,r::rs,h=>by simp only[List.length_cons,zBv.len h.2]
  | [],_::_,h=>h.elim
  | _::_,[],h=>h.elim
theorem zBv.six {w:World}:∀{ts:List Re} {rs:List (List Value)},zBv w ts rs→∀r∈rs,r.length=6
  | [],[],_,r,hr=>by cases hr
  | t::ts,r::rs,h,r',hr=>by
    rcases List.mem_cons.1 hr with rfl|hr
    · exact h.1.len
    · exact zBv.six h.2 r' hr
  | [],_::_,h,_,_=>h.elim
  | _::_,[],h,_,_=>h.elim
theorem zBv.snoc {w:World}:∀{ts:List Re} {rs:List (List Value)},zBv w ts rs→∀{t:Re} {r:List Value},zBG w t r→zBv w (ts++[t]) (rs++[r])
  | [],[],_,_,_,h=>⟨h,trivial⟩
  | t::ts,r::rs,h,_,_,h'=>⟨h.1,zBv.snoc h.2 h'⟩
  | [],_::_,h,_,_,_=>h.elim
  | _::_,[],h,_,_,_=>h.elim
theorem zBv.get {w:World}:∀{ts:List Re} {rs:List (List Value)},zBv w ts rs→∀{i:Nat} {t:Re},ts[i]?=some t→∃r,rs[i]?=some r∧zBG w t r
  | [],[],_,_,_,h=>by simp at h
  | t::ts,r::rs,h,0,_,h'=>by simp at h';subst h';exact ⟨r,rfl,h.1⟩
  | t::ts,r::rs,h,i+1,_,h'=>by
    obtain ⟨r',h1,h2⟩:=zBv.get h.2 (i:=i) (by simpa using h');exact ⟨r',by simpa using h1,h2⟩
  | [],_::_,h,_,_,_=>h.elim
  | _::_,[],h,_,_,_=>h.elim
theorem zBv.pop {w:World}:∀{ts:List Re} {rs:List (List Value)} {t:Re},zBv w (ts++[t]) rs→∃rs' r,rs=rs'++[r]∧zBv w ts rs'∧zBG w t r
  | [],[],_,h=>h.elim
  | [],[r],_,h=>⟨[],r,rfl,trivial,h.1⟩
  | [],r::r'::rs,_,h=>h.2.elim
  | t::ts,[],_,h=>h.elim
  | t::ts,r::rs,t',h=>by
    obtain ⟨rs',r',h1,h2,h3⟩:=zBv.pop (ts:=ts) h.2;exact ⟨r::rs',r',by rw[h1];rfl,⟨h.1,h2⟩,h3⟩
def zFT (u v:Value):Prop:=∀k,u.ownBlock=some k→v.ownBlock≠some k
theorem zFT.symm {u v:Value} (h:zFT u v):zFT v u:=fun k h1 h2=>h k h2 h1
theorem zFT.slc {a:Option Addr} {n c n' c':Nat} {v:Value} (h:zFT (.slice a n c) v):zFT (.slice a n' c') v:=by
 cases a<;>exact h
theorem zFT.app {w:World} {base e size n:Nat} {u u' v:Value} {xs:List Value} (h:zFT u v) (hv:w.ownsRow base e size v n xs) (D:∀k,u'.ownBlock=some k→u.ownBlock=some k∨w.heap.size≤k):zFT u' v:=fun k h1 h2=>by
 rcases D k h1 with h3|h3
 ·exact h k h3 h2
 ·have:=(hv.lt k h2).2;omega
theorem zFT.nil (v:Value):zFT (.slice none 0 0) v:=fun k h=>by cases h
theorem zLP {w w':World} {base e size n:Nat} {u v:Value} {xs:List Value} (h:w.ownsRow base e size v n xs) (C:Chg (fun x=>u.ownBlock=some x) w w') (hd:zFT u v):w'.ownsRow base e size v n xs:=
 zBi h C fun k hk hm=>hd k hm hk
theorem zUY {a:Option Addr} {c m:Nat}:(if c=0 then a else Option.map (fun q:Addr=>q.add (0*m)) a)=a:=by
 split
 ·rfl
 ·cases a<;>simp[Addr.add]
theorem zKJ {w:World} {base e n:Nat} {v:Value} {ts:List Re} {rs:List (List Value)} {w0:World} (h:w.ownsRow base e 6 v n rs.flatten) (hr:zBv w0 ts rs) (hn:ts.length=n):zBq w 6 v rs:=
 zDC h hr.six (by rw[hr.len,hn]) qD
theorem zNq {rs:List (List Value)} (h:∀r∈rs,r.length=6):rs.flatten.length=rs.length*6:=by
  induction rs with
  | nil=>rfl
  | cons r rs ih=>rw[List.flatten_cons,List.length_append,ih (fun r' aa=>h r' (List.mem_cons_of_mem _ aa)),h r List.mem_cons_self,List.length_cons];omega
theorem zSj {rs:List (List Value)} {r:List Value} {n:Nat} (h:∀r∈rs,r.length=6) (hn:rs.length=n):((rs++[r]).flatten).take (n*6)=rs.flatten:=by
 rw[List.flatten_append,List.take_append_of_le_length (by rw[zNq h,hn];exact Nat.le_refl _),List.take_of_length_le (by rw[zNq h,hn];exact Nat.le_refl _)]
theorem zUX {α:Type} {l:List α} (h:0<l.length):∃l' x,l=l'++[x]:=by
 rcases List.eq_nil_or_concat l with rfl|⟨l',x,rfl⟩
 ·simp at h
 ·exact ⟨l',x,List.concat_eq_append⟩
abbrev zUh (x:Re) (xa:Option Addr) (xc:Nat) (ya:Option Addr) (yc:Nat):List Value:=[.int .i64 x.kind,.slice xa x.set.length xc,.slice ya x.args.length yc,.int .i64 x.mn,.int .i64 x.mx,.bool x.neg]
theorem zQD (w0:World) (t:Re) (vs:List Value) (most:Int) (ht:zBG w0 t vs) (hs:t.size≤2097152) :
  Ret prog 19 #[.agg vs.toArray,.int .i64 most] w0 fun v w=>∃a c rows,v=.slice a ((zGQ t).take most.toNat).length c∧zBq w 6 v rows∧zBv w0 ((zGQ t).take most.toNat) rows∧Ext w0 w:=by
 have b9:=ht;obtain ⟨sa,sc,aa,ac,rfl,cd,b6,bs⟩:=ht.form;refine qR func19 rfl ntmps19 rfl (fun E=>(zAA (zBL (v:=(.agg (R6 t sa sc aa ac))) (c:=(R6 t sa sc aa ac)) qD rfl rfl ?_)));intro bp wp Np;have Fp:=Np.ge E;replace E:=E.ext Np.ext;have Bp:=Np.blk;refine qA _ rfl (zAB (zAA (qA _ rfl (zAB (zAA (qV (zAG (vs:=[(I6 t.kind),(.slice sa t.set.length sc),(.slice aa t.args.length ac),(I6 t.mn),(I6 t.mx),(.bool t.neg)]) rfl zAc zAO rfl (Bp.cells rfl)) (zAh (ps:=[(0,(.agg (R6 t sa sc aa ac)))]) (c:=(R6 t sa sc aa ac)) qD rfl underlying23 zAO zAu qD qD qK ?_)))))));intro bq wq Nq;have Fq:=Nq.ge E;have Oq_bp:=Nq.lt Bp;replace Bp:=Nq.keep Bp;replace E:=E.ext Nq.ext;have Bq:=Nq.blk;refine qA _ rfl (zAB (zAK (zAT ?_)));obtain ⟨base,bg⟩:∃base,base=wp.heap.size:=⟨_,rfl⟩;have hb0:w0.heap.size≤base:=by have:=Np.size;omega
 have hpb:bp<base:=by have:=Np.size;have:=Np.eq;omega
 have b2:base≤bq:=by have:=Nq.eq;omega
 have aw:wq.ownsRow base TE 6 (.slice (some ⟨bq,0,none⟩) 1 1) 1 ([[.int .i64 t.kind,.slice sa t.set.length sc,.slice aa t.args.length ac,.int .i64 t.mn,.int .i64 t.mx,.bool t.neg]]:List (List Value)).flatten:=⟨rfl,.inr ⟨bq,1,_,rfl,b2,Bq,qD,qD,rfl,rfl⟩⟩;have a7:base≤wq.heap.size:=by have:=Nq.size;omega
 refine zAq (fun nn_ σ W1=>∃(ad ai:List Re) (ro rs:List (List Value)) (oa:Option Addr) (oc:Nat) (ka:Option Addr) (kc:Nat),(∃jj_,σ=zCH jj_ [(1,(I6 most)),(5,(.slice oa ad.length oc)),(6,(.slice ka ai.length kc))])∧Chg zAo w0 W1∧Blk W1 bp (R6 t sa sc aa ac) 25∧(W1.ownsRow base TE 6 (.slice oa ad.length oc) ad.length ro.flatten)∧(W1.ownsRow base TE 6 (.slice ka ai.length kc) ai.length rs.flatten)∧(zFT (.slice oa ad.length oc) (.slice ka ai.length kc))∧(zBv w0 ad ro)∧(zBv w0 ai rs)∧(zGQ t=ad++zDa ai.reverse)∧(ad.length≤most.toNat)∧(base≤W1.heap.size)∧nn_=t.size - ad.length) (n:=t.size - ([]:List Re).length) ?_ ?_
 ·exact ⟨([]:List Re),[t],([]:List (List Value)),[[.int .i64 t.kind,.slice sa t.set.length sc,.slice aa t.args.length ac,.int .i64 t.mn,.int .i64 t.mx,.bool t.neg]],none,0,some ⟨bq,0,none⟩,1,zBA.out ⟨rfl,rfl,rfl,trivial⟩,E,Bp,World.ownsRow_nil _ _ _ _,aw,zFT.nil _,trivial,⟨b9,trivial⟩,(by simp[zDa]),Nat.zero_le _,a7,rfl⟩
 ·clear E Bp;rintro _ _ W1 ⟨ad,ai,ro,rs,oa,oc,ka,kc,⟨j1,rfl⟩,E,Bp,hO,hS,bh,a9,cf,ak,hmo,aq,rfl⟩;have hsz:ad.length+Re.sizes ai=t.size:=by rw[←zDh t,ak,List.length_append,zIK,zJy]
  have hsl:=zEL ai;refine zAK (zAA (qM _ rfl (qV (zAM underlying23 rfl) ?_)));obtain ⟨e2,bk⟩:∃e,(decide ((0:Int)<((ai.length:Nat):Int)))=e:=⟨_,rfl⟩;refine qV ((zCN rfl rfl).trans (by rw[bk];try rfl)) (qM _ rfl (qG (.bool e2) (yU e2 (.slice oa ad.length oc)) (by cases e2<;>first|exact gA|exact gB|exact .inl ⟨rfl,zAi rfl⟩) (qG (.bool e2) (yU e2 (I6 (ad.length:Int))) (by cases e2<;>first|exact gA|exact gB|exact .inl ⟨rfl,zAM underlying23 rfl⟩) (qG (.bool e2) (yU e2 (I6 most)) (by cases e2<;>first|exact gA|exact gB|exact .inl ⟨rfl,zAi rfl⟩) ?_))));obtain ⟨e3,bo⟩:∃e,(decide ((((ad.length:Nat):Int):Int)<most))=e:=⟨_,rfl⟩;refine qG (.bool e2) (yU e2 (.bool e3)) (by cases e2<;>first|exact gA|exact gB|exact .inl ⟨rfl,(zBH rfl rfl).trans (by rw[bo];try rfl)⟩) ?_;obtain ⟨e4,bl⟩:∃e,(e2 && e3)=e:=⟨_,rfl⟩;refine qV (zAd (v:=.bool e4) rfl (by rw[←bl];cases e2<;>rfl)) (zAB ?_);subst bl;subst bo;subst bk;refine zAt rfl (fun av=>?_) (fun av=>?_)
  ·have a2:=av;simp at av;have cb:=fun k h=>(hO.lt k h).2;have b3:=fun k h=>(hS.lt k h).2;obtain ⟨af,x,rfl⟩:=zUX (l:=ai) qO;obtain ⟨bi,r,rfl,ah,a5⟩:=cf.pop;obtain ⟨xa,xc,ya,yc,rfl,bf,be,am⟩:=a5.form;have bt:zBv w0 (af++[x]) (bi++[_]):=ah.snoc a5;obtain ⟨kb,ko,rfl,bw⟩:=zBq.at (zKJ hS bt rfl) qO;have hkl:(af++[x]).length=af.length+1:=qP
   have ca:=bw af.length _ (by rw[List.getElem?_append_right (by rw[ah.len];exact Nat.le_refl _),ah.len];simp;rfl);have bc:=(zBq.cap (zKJ hS bt rfl)).1;refine zAP (zAC (zAT (zAA (qM _ rfl (qM _ rfl (qV (zAM underlying23 rfl) (qV (zDS rfl rfl (zBV qO)) (qV (zAH (b:=kb) (o:=ko) (len:=(af++[x]).length) (cap:=kc) (i:=af.length) (o':=ko+af.length*6) rfl rfl qO underlying23 zAO qO qO) (qV (zAG rfl zAc zAO rfl (ca)) (zAg (v:=(.agg (R6 x xa xc ya yc))) (c:=(R6 x xa xc ya yc)) (n:=6) qD zAu rfl zAO rfl rfl rfl qS ?_))))))))));intro bx wx Nx;have Fx:=Nx.ge E;have Ox_bp:=Nx.lt Bp;replace Bp:=Nx.keep Bp;replace hO:=zAn hO Nx.ext;replace hS:=zAn hS Nx.ext;replace aq:=Nat.le_trans aq Nx.ext.size;replace E:=E.ext Nx.ext;have Bx:=Nx.blk;refine zAB (zAA (qM _ rfl (qM _ rfl (qV (zAM underlying23 rfl) (qV (zDS rfl rfl (zBV qO)) ?_)))));obtain ⟨k2,a3⟩:∃a':Option Addr,(if kc=0 then (some ⟨kb,ko,none⟩) else Option.map (fun q:Addr=>q.add (0*6)) (some ⟨kb,ko,none⟩))=a':=⟨_,rfl⟩;refine qV (zIH (hi:=af.length) underlying23 zAO rfl rfl qO qO a3) (qA _ rfl (zAB (zAA (qM _ rfl (qV (zAG (vs:=[(I6 x.kind),(.slice xa x.set.length xc),(.slice ya x.args.length yc),(I6 x.mn),(I6 x.mx),(.bool x.neg)]) rfl zAc zAO rfl (Bx.cells rfl)) (zAh (ps:=[(0,(.agg (R6 x xa xc ya yc)))]) (c:=(R6 x xa xc ya yc)) qD rfl underlying23 zAO zAu qD qD qK ?_))))));intro bn wn Nn;have Fn:=Nn.ge E;have On_bp:=Nn.lt Bp;have On_bx:=Nn.lt Bx;replace Bp:=Nn.keep Bp;replace Bx:=Nn.keep Bx;replace hO:=zAn hO Nn.ext;replace hS:=zAn hS Nn.ext;replace aq:=Nat.le_trans aq Nn.ext.size;replace E:=E.ext Nn.ext;have Bn:=Nn.blk;rw[zUY] at a3;subst a3;have a6:=zUr (m:=af.length) hS qO qO;rw[zSj ah.six ah.len] at a6;clear hS;refine zBC (base:=base) (n:=ad.length) (m:=1) (xs:=ro.flatten) (news:=[(I6 x.kind),(.slice xa x.set.length xc),(.slice ya x.args.length yc),(I6 x.mn),(I6 x.mx),(.bool x.neg)]) (size:=6) (bytes:=80) (v:=(.slice oa ad.length oc)) qD underlying23 zAO zEu zAu rfl qD rfl hO rfl (rfl) (Bn.cells rfl) qS (by unfold maxLen;omega) qO (aq) ?_;intro v9 w9 bj ax ce;replace Bp:=ax.keep (fun h=>by have:=(hO.lt _ h).1;omega) Bp;replace Bx:=ax.keep (fun h=>absurd (cb _ h) (by have:=Nx.eq;omega)) Bx;replace E:=E.step ax (fun x hx h=>absurd (hO.lt x h).1 qO);obtain ⟨a0,a1,rfl⟩:=zAw bj;have al:=zLP a6 ax bh.slc.symm.slc.symm;have ag:=zFT.app (bh.slc.symm.slc.symm) a6 ce;have bz:Re.sizes (af++[x])=Re.sizes af+x.size:=by rw[Re.sizes_append];simp[Re.sizes]
   have hxs:=x.size_eq;have hal:=zEL x.args;have bu:=zEL af;have ae:=Nat.le_trans aq ax.size;refine qA _ rfl (zAB (zAA (qF bx 0 2 rfl underlying25 rfl zBS rfl (qV (zAL rfl zBE (Bx.cell rfl)) (qV (zAM underlying23 rfl) (qV (zDS rfl rfl (zBV qO)) (qA _ rfl (zAB (zAT (zAq (fun nn_ σ W6=>∃(i:Nat) (st2:List Re) (au:List (List Value)) (ka:Option Addr) (kc:Nat),(∃jj_,σ=zCH jj_ [(1,(I6 most)),(5,(.slice a0 (ad.length+1) a1)),(7,(P6 bx 0)),(8,(I6 ((i:Int) - 1))),(6,(.slice ka st2.length kc))])∧Chg zAo w0 W6∧Blk W6 bp (R6 t sa sc aa ac) 25∧Blk W6 bx (R6 x xa xc ya yc) 25∧(i≤x.args.length)∧(W6.ownsRow base TE 6 (.slice a0 (ad.length+1) a1) (ad.length+1) (ro++[zUh x xa xc ya yc]).flatten)∧(W6.ownsRow base TE 6 (.slice ka st2.length kc) st2.length au.flatten)∧(zFT (.slice a0 (ad.length+1) a1) (.slice ka st2.length kc))∧(zBv w0 st2 au)∧(st2=af++(x.args.drop i).reverse)∧(base≤W6.heap.size)∧(∀k,(Value.slice ka st2.length kc).ownBlock=some k→k≠bx)∧nn_=2*i) (n:=2*x.args.length) ?_ ?_))))))))))
   ·exact ⟨x.args.length,af,bi,_,_,zBA.out ⟨rfl,rfl,rfl,rfl,rfl,trivial⟩,E,Bp,Bx,Nat.le_refl _,(by simpa using bj),al,ag,ah,qP,ae,(fun k h e=>by have h1:k<_:=b3 k h;have:=Nx.eq;omega),rfl⟩
   ·clear E Bp Bx;rintro _ _ W6 ⟨i,st2,au,ka,kc,⟨j6,rfl⟩,E,Bp,Bx,hi,ar,al,ag,ay,a4,ae,br,rfl⟩;refine zAK (zAA (qM _ rfl (qV (zFG rfl rfl) (zAB (qC rfl (fun b1=>?_) (fun b1=>?_))))))
    ·obtain ⟨y,hy⟩:=zAU (l:=x.args) (i:=i - 1) qO;obtain ⟨ab,ao,rfl,ba⟩:∃b o,ya=some ⟨b,o,none⟩∧zCO w0 b o x.args:=by
      rcases am with h|h
      ·rw[h] at hy;simp at hy
      ·exact h
     obtain ⟨us,b0,bd⟩:=ba.get hy;obtain ⟨va,vc,za,zc,rfl,_,_,_⟩:=bd.form;have bv:=Bx.lt;refine zAP (zAC (zAK (zAT (zAN (qM _ rfl (qF bx 0 2 rfl underlying25 rfl zBS rfl (qV (zAL rfl zBE (Bx.cell rfl)) (qM _ rfl (qV (zAH (b:=ab) (o:=ao) (len:=x.args.length) (cap:=yc) (i:=i - 1) (o':=ao+(i - 1)*6) rfl rfl qO underlying23 zAO qO qO) (qV (zAG rfl zAc zAO rfl (b0.ext E)) ?_))))))))));have bb:st2.length=af.length+(x.args.length - i):=by rw[a4];simp
     refine zAh (ps:=[(0,(.agg (R6 y va vc za zc)))]) (c:=(R6 y va vc za zc)) qD rfl underlying23 zAO zAu qD qD qK ?_;intro bm wm Nm;have Fm:=Nm.ge E;have Om_bp:=Nm.lt Bp;have Om_bx:=Nm.lt Bx;replace Bp:=Nm.keep Bp;replace Bx:=Nm.keep Bx;replace ar:=zAn ar Nm.ext;replace al:=zAn al Nm.ext;replace ae:=Nat.le_trans ae Nm.ext.size;replace E:=E.ext Nm.ext;have Bm:=Nm.blk;refine zBC (base:=base) (n:=st2.length) (m:=1) (xs:=au.flatten) (news:=[(I6 y.kind),(.slice va y.set.length vc),(.slice za y.args.length zc),(I6 y.mn),(I6 y.mx),(.bool y.neg)]) (size:=6) (bytes:=80) (v:=(.slice ka st2.length kc)) qD underlying23 zAO zEu zAu rfl qD rfl al rfl (rfl) (Bm.cells rfl) qS (by unfold maxLen;omega) qO (ae) ?_;intro v19 w19 ap aj an;replace Bp:=aj.keep (fun h=>by have:=(al.lt _ h).1;omega) Bp;replace Bx:=aj.keep (fun h=>br _ h rfl) Bx;replace E:=E.step aj (fun x hx h=>absurd (al.lt x h).1 qO);obtain ⟨b7,cc,rfl⟩:=zAw ap;have b8:=zLP ar aj ag.symm;have az:=(zFT.app ag.symm ar an).symm;have b4:(st2++[y]).length=st2.length+1:=qP
     rw[←b4] at ap az an⊢;refine qA _ rfl (zAB (zAS (zAC (zAN (qM _ rfl (qV (zDS (c:=(((i - 1:Nat):Nat):Int) - 1) rfl rfl (by rw[zBV qO];omega)) (qA _ rfl (zAB (zAC ?_)))))))));exact ⟨2*(i - 1),qO,i - 1,st2++[y],au++[_],b7,cc,zBA.out ⟨rfl,rfl,rfl,rfl,rfl,trivial⟩,E,Bp,Bx,qO,b8,(by simpa using ap),az,ay.snoc bd,(by rw[a4,zBU hy,show i - 1+1=i from qO];simp),Nat.le_trans ae aj.size,(fun k h e=>by rcases an k h with h1|h1;exact br k h1 e;have:=Nm.size;omega),rfl⟩
    ·obtain rfl:i=0:=qO
     have b5:(ad++[x]).length=ad.length+1:=qP
     rw[←b5] at ar ag⊢;refine zAp (zAX (zAX (zAj (zAS (zAC ?_)))));exact ⟨t.size - (ad++[x]).length,qO,ad++[x],st2,ro++[_],au,a0,a1,ka,kc,zBA.out ⟨rfl,rfl,rfl,trivial⟩,E,Bp,ar,al,ag,a9.snoc a5,ay,(by rw[ak,a4];simp[zDa,zHX,zKI x]),(by simp;omega),ae,rfl⟩
  ·have a2:=av;have a8:ad=(zGQ t).take most.toNat:=by
    simp at av;rcases Nat.eq_zero_or_pos ai.length with h|h
    ·have:ai=[]:=List.eq_nil_of_length_eq_zero h;subst this;have hp:zGQ t=ad:=by rw[ak];simp[zDa]
     rw[hp,List.take_of_length_le qO]
    ·have hle:=av h;have:ad.length=most.toNat:=qO
     rw[ak,←this,List.take_left' rfl]
   rw[←a8];refine zAp (zAX (zAX (zAj (zAC (zAA (qM _ rfl (qA _ rfl (zAB (zAR (zAW results19 (v:=(.slice oa ad.length oc)) rfl ?_))))))))));exact ⟨oa,oc,ro,rfl,zKJ hO a9 rfl,a9,E⟩
end Go.Proofs
namespace Go.Proofs
open Go Go.Eng Go.Sort
set_option maxRecDepth 100000
def zHh (s:List (List Sp)) (t:Re):List (List Sp):=if t.kind=2∧t.set∉s then s++[t.set] else s
def zCe (t:Re):List (List Sp):=(zGQ t).foldl zHh []
theorem zKd {x:List Sp}:∀{l:List Re} {s:List (List Sp)},x∈l.foldl zHh s↔x∈s∨∃t∈l,t.kind=2∧x=t.set
  | [],s=>qP
  | t::l,s=>by
    rw[List.foldl_cons,zKd];have e:x∈zHh s t↔x∈s∨(t.kind=2∧x=t.set):=by
      unfold zHh;split
      · rename_i h
        simp[h.1]
      · rename_i h
        constructor
        · exact .inl
        · rintro (h1|⟨h1,rfl⟩)
          · exact h1
          · exact Classical.byContradiction fun h2=>h ⟨h1,h2⟩
    rw[e];constructor
    · rintro ((h|h)|⟨u,hu,h⟩)
      · exact .inl h
      · exact .inr ⟨t,qP,h⟩
      · exact .inr ⟨u,by simp[hu],h⟩
    · rintro (h|⟨u,hu,h⟩)
      · exact .inl (.inl h)
      · rcases List.mem_cons.1 hu with rfl|hu
        · exact .inl (.inr h)
        · exact .inr ⟨u,hu,h⟩
theorem zKe:∀(l:List Re) (s:List (List Sp)),(l.foldl zHh s).length≤s.length+l.length
  | [],s=>qP
  | t::l,s=>by
    have h:=zKe l (zHh s t);have h2:(zHh s t).length≤s.length+1:=by
      unfold zHh;split
      · simp
      · omega
    rw[List.foldl_cons,List.length_cons];omega
mutual
theorem zOK {P:List Sp→Prop}:∀{t:Re},(∀u∈zGQ t,u.kind=2→P u.set)→zDj P t
  | .mk k s a m x g,h=>by
    rw[zKI] at h;exact ⟨h (.mk k s a m x g) qP,zLx fun u hu=>h u (by simp only[List.mem_cons];exact .inr hu)⟩
theorem zLx {P:List Sp→Prop}:∀{ts:List Re},(∀u∈zDa ts,u.kind=2→P u.set)→zIy P ts
  | [],_=>trivial
  | t::ts,h=>by
    simp only[zDa,List.mem_append] at h;exact ⟨zOK fun u hu=>h u (.inl hu),zLx fun u hu=>h u (.inr hu)⟩
end
mutual
theorem zNV {P:List Sp→Prop}:∀{t:Re},zDj P t→∀u∈zGQ t,u.kind=2→P u.set
  | .mk k s a m x g,h,u,hu=>by
    rw[zKI] at hu;rcases List.mem_cons.1 hu with rfl|hu
    · exact h.1
    · exact zLM h.2 u hu
theorem zLM {P:List Sp→Prop}:∀{ts:List Re},zIy P ts→∀u∈zDa ts,u.kind=2→P u.set
  | [],_,u,hu=>by simp[zDa] at hu
  | t::ts,h,u,hu=>by
    simp only[zDa,List.mem_append] at hu;rcases hu with hu|hu
    · exact zNV h.1 u hu
    · exact zLM h.2 u hu
end
theorem zRy {P:List Sp→Prop} {t:Re} (h:∀s∈zCe t,P s):zDj P t:=
 zOK fun u hu hk=>h u.set (zKd.2 (.inr ⟨u,hu,hk,rfl⟩))
theorem zFj {P:List Sp→Prop} {t:Re} (h:zDj P t):∀s∈zCe t,P s:=fun s hs=>by
 rcases zKd.1 hs with h1|⟨u,hu,hk,rfl⟩
 ·cases h1
 ·exact zNV h u hu hk
theorem zKB (t:Re):(zCe t).length≤t.size:=by
 have:=zKe (zGQ t) [];rw[zDh] at this;simpa[zCe] using this
mutual
theorem zDk:∀{t:Re},zEB t→zDI [9,10] t=false→zDj (fun s=>zBR s=0) t
  | .mk k s a m x g,h,hu=>by
    obtain ⟨h1,h2⟩:=zFD hu;have h9:k≠9:=fun e=>by subst e;simp at h1
    have h10:k≠10:=fun e=>by subst e;simp at h1
    exact ⟨fun hk=>((zNU (t:=.mk k s a m x g) h h9 h10 rfl).k2 hk).2,zHx (zCR h) h2⟩
theorem zHx:∀{ts:List Re},zDJ ts→zCt [9,10] ts=false→zIy (fun s=>zBR s=0) ts
  | [],_,_=>trivial
  | t::ts,h,hu=>by
    simp only[zDJ] at h;simp only[zCt,Bool.or_eq_false_iff] at hu;exact ⟨zDk h.1 hu.1,zHx h.2 hu.2⟩
end
theorem zTD:∀(l:List (Int×Int)) (p:Option Int),zDH p l=0→∀s∈l,vSp s:=by
  intro l
  induction l with
  | nil=>simp
  | cons a l ih=>
    intro p h s hs;rw[zCC] at h;by_cases h1:zDd a=false
    · rw[if_pos h1] at h;simp at h
    rw[if_neg h1] at h;have h2:zDH (some a.2) l=0:=by
      split at h
      · split at h
        · simp at h
        · exact h
      · simpa using h
    rcases List.mem_cons.1 hs with rfl|hs
    · simp[zDd] at h1;exact ⟨qO,qO,qO⟩
    · exact ih _ h2 s hs
theorem zKb {s:List Sp} (h:zBR s=0):(∀p∈s,vSp p)∧s.length≤16:=by
 unfold zBR at h;split at h
 ·cases h
 ·exact ⟨zTD _ _ h,qO⟩
theorem zHU:∀{ll:List (List Sp)},(∀l∈ll,zBR l=0)→zPE ll=0
  | [],_=>rfl
  | l::ll,h=>by
    unfold zPE;rw[if_neg (by simp[h l qP])];exact zHU fun x hx=>h x (by simp[hx])
theorem zQn {ll:List (List Sp)} (h:∀l∈ll,zBR l=0):∀s∈ll.flatten,vSp s:=fun s hs=>by
 obtain ⟨l,hl,h1⟩:=List.mem_flatten.1 hs;exact (zKb (h l hl)).1 s h1
theorem zNr {ll:List (List Sp)} (h:∀l∈ll,zBR l=0):ll.flatten.length≤16*ll.length:=by
  induction ll with
  | nil=>simp
  | cons l ll ih=>
    have h1:=(zKb (h l qP)).2;have h2:=ih fun x hx=>h x (by simp[hx]);rw[List.flatten_cons,List.length_append,List.length_cons];omega
theorem zKZ {ll cs:List (List Sp)} (h:zPQ ll cs) (hok:∀s∈ll.flatten,vSp s):∀cl∈cs,cl≠[]∧0≤zBl cl∧zBl cl≤1114111:=fun cl hm=>by
 have hp:=h.parted hok;obtain ⟨k,hk⟩:=List.mem_iff_getElem?.1 hm;have h1:=(hp.heads k (zAa hk)).1;rw[List.getD_eq_getElem?_getD,hk] at h1;exact ⟨h1,hp.low cl hm⟩
/-- What the list of derivatives is. -/
structure Fam (r:Re) (L:List Re):Prop where
 ok:∀x∈L,zAz x∧x.size≤300
 nd:L.Nodup
 ne:L≠[]
 cl:∀P,zDj P r→∀x∈L,zDj P x
/-- The first ones have their derivatives in it. -/
def zRm (cs:List (List Sp)) (n:Nat) (L:List Re):Prop:=∀(j:Nat) x,j<n→L[j]?=some x→∀cl∈cs,(zBK (zBl cl) x).size≤300∧((zBK (zBl cl) x).kind=0∨zBK (zBl cl) x∈L)
theorem zRm.push {cs:List (List Sp)} {n:Nat} {L:List Re} {y:Re} (h:zRm cs n L) (hn:n≤L.length):zRm cs n (L++[y]):=fun j x hj hx cl hc=>by
 rw[List.getElem?_append_left qO] at hx;obtain ⟨h1,h2⟩:=h j x hj hx cl hc;exact ⟨h1,h2.imp id fun h3=>List.mem_append_left _ h3⟩
theorem Fam.push {r y:Re} {L:List Re} (h:Fam r L) (ho:zAz y∧y.size≤300) (hn:y∉L) (hc:∀P,zDj P r→zDj P y):Fam r (L++[y]):=by
 refine ⟨fun x hx=>?_,?_,qP,fun P hP x hx=>?_⟩
 ·rcases List.mem_append.1 hx with h1|h1
  ·exact h.ok x h1
  ·rw[List.mem_singleton.1 h1];exact ho
 ·rw[List.nodup_append];exact ⟨h.nd,qP,fun a ha b hb=>by rw[List.mem_singleton.1 hb];rintro rfl;exact hn ha⟩
 ·rcases List.mem_append.1 hx with h1|h1
  ·exact h.cl P hP x h1
  ·rw[List.mem_singleton.1 h1];exact hc P hP
theorem Fam.first {r:Re} (ho:zAz (zCz r)) (hz:(zCz r).size≤300):Fam r [zCz r]:=
 ⟨fun x hx=>by rw[List.mem_singleton.1 hx];exact ⟨ho,hz⟩,qP,qP,fun P hP x hx=>by rw[List.mem_singleton.1 hx];exact zOJ hP⟩
end Go.Proofs
namespace Go.Proofs
open Go Go.Eng Go.Sort
set_option maxRecDepth 100000
theorem zIn:∀{ll:List (List Sp)} {k:Nat} {l:List Sp},(∀x∈ll.take k,zBR x=0)→ll[k]?=some l→zBR l≠0→zPE ll=zBR l
  | [],_,_,_,h,_=>by simp at h
  | x::ll,0,l,_,h,hc=>by simp at h;subst h;unfold zPE;rw[if_pos hc]
  | x::ll,k+1,l,hz,h,hc=>by
    unfold zPE;rw[if_neg (by simpa using hz x qP)];exact zIn (k:=k) (fun y hy=>hz y (by simp[hy])) (by simpa using h) hc
theorem zIm:∀{ll:List (List Sp)},(∀x∈ll,zBR x=0)→zPE ll=0
  | [],_=>rfl
  | x::ll,h=>by
    unfold zPE;rw[if_neg (by simpa using h x qP)];exact zIm fun y hy=>h y (by simp[hy])
theorem zSL {w:World} {base e size n c:Nat} {a:Option Addr} {xs:List Value} (h:w.ownsRow base e size (.slice a n c) n xs):n≤c∧c≤9223372036854775807:=by
 rcases h.2 with ⟨h1,h0⟩|⟨g,cap,cur,hv,_,_,aa,ab,_⟩
 ·simp only[Value.slice.injEq] at h1;omega
 ·simp only[Value.slice.injEq] at hv;obtain ⟨_,_,rfl⟩:=hv;exact ⟨aa,ab⟩
def zUB (w:World) (r:Value) (out:List (List Sp)) (e:Int):Prop:=∃a c,r=.tuple #[.slice a out.length c,.int .i64 e]∧zBy w (.slice a out.length c) out
theorem zDP (w:World):zBy w (.slice none 0 0) []:=⟨[],zBq.nil _ _ _ _,rfl,fun i u l h=>by simp at h⟩
theorem zSG {ll:List (List Sp)} {i:Nat} {l:List Sp} (h:ll[i]?=some l):zPM (ll.take (i+1)).flatten=zPM (ll.take i).flatten++l.flatMap fun s=>[s.1,s.2+1]:=by
 rw[zGW h];unfold zPM;rw[List.flatMap_append,List.cons_append]
theorem zSH {l:List Sp} {j:Nat} {s:Sp} (h:l[j]?=some s):(l.take (j+1)).flatMap (fun s=>[s.1,s.2+1])=(l.take j).flatMap (fun s=>[s.1,s.2+1])++[s.1,s.2+1]:=by
 rw[zCP h,List.flatMap_append];simp
theorem zTs {p q:List Int} {i:Nat} {c:Int} (hqp:q=p∨q=p++[1114112]) (hc:q[i]?=some c) (hb:∀x∈p,x≤1114111):(c≤1114111→p[i]?=some c)∧(1114111<c→p.length≤i):=by
 rcases hqp with rfl|rfl
 ·exact ⟨fun _=>hc,fun h=>absurd (hb c (List.mem_of_getElem? hc)) (by omega)⟩
 ·rcases Nat.lt_or_ge i p.length with h1|h1
  ·rw[List.getElem?_append_left h1] at hc;exact ⟨fun _=>hc,fun h=>absurd (hb c (List.mem_of_getElem? hc)) (by omega)⟩
  ·rw[List.getElem?_append_right h1] at hc;have h2:=zAa hc;simp at h2;rw[show i - p.length=0 by omega] at hc;simp at hc;exact ⟨fun h=>by omega,fun _=>h1⟩
theorem zRF {p q:List Int} (hqp:q=p∨q=p++[1114112]):p.length≤q.length∧q.length≤p.length+1:=by
 rcases hqp with rfl|rfl<;>simp
theorem zSu {p q:List Int} {i:Nat} {c:Int} (hqp:q=p∨q=p++[1114112]) (hi:i≤p.length) (hc:q[i]?=some c):nx p i=c:=by
 unfold nx;rcases hqp with rfl|rfl
 ·rw[hc];rfl
 ·rcases Nat.lt_or_ge i p.length with h1|h1
  ·rw[List.getElem?_append_left h1] at hc;rw[hc];rfl
  ·rw[List.getElem?_append_right h1] at hc;rw[show i - p.length=0 by omega] at hc;simp at hc;rw[List.getElem?_eq_none h1];simpa using hc
theorem zSv {p q:List Int} {i:Nat} (hqp:q=p∨q=p++[1114112]) (hi:q.length≤i):nx p i=1114112:=by
 have:=zRF hqp;unfold nx;rw[List.getElem?_eq_none qO];rfl
theorem CSt.on {w:World} {base n:Nat} {vo:Value} {vs:List Value} {outs:List (List Sp)} (h:CSt w base vo vs outs) (hn:n=outs.length):w.ownsRow base TSs 1 vo n vs:=by subst hn;exact h.o
theorem zRv {outs:List (List Sp)} {ks:List (List Bool)} {m:List Bool} (hl:outs.length=ks.length) (hn:m∉ks):∀(j:Nat) q,(outs++[[]])[j]?=some q→outs[j]?=some q∨(j=ks.length∧q=[]∧m∉ks):=by
 intro j q hq;rcases Nat.lt_or_ge j outs.length with h1|h1
 ·left;rwa [List.getElem?_append_left h1] at hq
 ·right;rw[List.getElem?_append_right h1] at hq;have h2:=zAa hq;simp at h2;rw[show j - outs.length=0 by omega] at hq;simp at hq;exact ⟨by omega,by simp[hq],hn⟩
theorem zRw {vs:List Value} {z:Nat} (h:∀(i:Nat) v b,vs[i]?=some v→v.ownBlock=some b→b<z):∀(i:Nat) v b,(vs++[.slice none 0 0])[i]?=some v→v.ownBlock=some b→b<z:=by
 intro i v b hv hb;rcases Nat.lt_or_ge i vs.length with h1|h1
 ·rw[List.getElem?_append_left h1] at hv;exact h i v b hv hb
 ·rw[List.getElem?_append_right h1] at hv;have h2:=zAa hv;simp at h2;rw[show i - vs.length=0 by omega] at hv;simp at hv;subst hv;cases hb
def zDT (ll:List (List Sp)) (c:Int) (e:Nat):List Int:=(zBI (ll.take e) c).map zTK++List.replicate (ll.length - e) 0
theorem zMZ (ll:List (List Sp)) (c:Int):zDT ll c 0=List.replicate ll.length 0:=by simp[zDT,zBI]
theorem zOh {ll:List (List Sp)} {c:Int} {e:Nat} (h:e≤ll.length):(zDT ll c e).length=ll.length:=by
 simp[zDT,zBI];omega
theorem zMa {ll:List (List Sp)} {c:Int} {e:Nat} {l:List Sp} (h:ll[e]?=some l):zDT ll c (e+1)=(zDT ll c e).set e (zTK (inS l c)):=by
 have hl:=zAa h;unfold zDT zBI;rw[zCP h,show ll.length - e=(ll.length - (e+1))+1 by omega,List.replicate_succ,List.map_append,List.map_append,List.append_assoc];have h1:(((ll.take e).map fun l=>inS l c).map zTK).length=e:=by simp;omega
 rw[List.set_append_right _ _ (by omega),h1,Nat.sub_self];simp
theorem zMb {ll:List (List Sp)} {c:Int} {e:Nat} {l:List Sp} (h:ll[e]?=some l) (hi:inS l c=false):zDT ll c (e+1)=zDT ll c e:=by
 have hl:=zAa h;unfold zDT zBI;rw[zCP h,show ll.length - e=(ll.length - (e+1))+1 by omega,List.replicate_succ,List.map_append,List.map_append,List.append_assoc];simp[hi,zTK]
theorem zOi (ll:List (List Sp)) (c:Int):zDT ll c ll.length=(zBI ll c).map zTK:=by simp[zDT]
theorem zVR (w0:World) (g c n:Nat) (l q:List Int) (hH:Sort.Holds (Value.int .i64) w0 g 0 l.toArray) (hc:l.length≤c∧c≤9223372036854775807) (hn:l.length=n) (hq:q=Lib.compact l) :
  Ret prog 148 #[.slice (some ⟨g,0,none⟩) n c] w0 fun r w=>r=.slice (some ⟨g,0,none⟩) q.length c∧zBt w r q∧Chg (fun x=>x=g) w0 w:=by
 subst hn;subst hq;exact zVS w0 g c l hH hc
theorem zVZ (w0:World) (v:Value) (ll:List (List Sp)) (h:zBy w0 v ll) (hL:ll.flatten.length≤1048576) (hL2:ll.length≤1048576) :
  Ret prog 103 #[v] w0 fun r w=>(∃out e,zJp ll out e∧zUB w r out e)∧Ext w0 w:=by
 obtain ⟨a,c,rfl,_,hle⟩:=h.form;obtain ⟨base,dz⟩:∃base,base=w0.heap.size:=⟨_,rfl⟩;refine qR func103 rfl ntmps103 rfl (fun E=>(zAA (qA _ rfl (qA _ rfl (zAB (zAK (zAA (qM _ rfl (qV (zAM underlying50 rfl) (qM _ rfl (zAB (zAT (zAq (fun nn_ σ W1=>∃(k:Nat),(∃jj_,σ=zCH jj_ [(0,(.slice a ll.length c)),(23,(.slice a ll.length c)),(24,(I6 (ll.length:Int))),(25,(I6 (k:Int)))])∧Chg zAo w0 W1∧(k≤ll.length)∧(∀l∈ll.take k,zBR l=0)∧nn_=ll.length - k) (n:=ll.length - 0) ?_ ?_)))))))))))))
 ·exact ⟨0,zBA.out ⟨rfl,rfl,rfl,rfl,trivial⟩,E,Nat.zero_le _,qP,rfl⟩
 ·clear E;rintro _ _ W1 ⟨k,⟨j1,rfl⟩,E,hk,hz,rfl⟩;refine zAA (qV (zBH rfl rfl) (zAB (zAK (qC rfl (fun fj=>?_) (fun fj=>?_)))))
  ·obtain ⟨l,hx⟩:=zAU (l:=ll) (i:=k) qO;obtain ⟨b,o,rfl,b1⟩:=zBz h qO;obtain ⟨ra,rc,af,av⟩:=b1 k l hx;refine zAP (zAC (zAK (zAT (zAA (qV (zAH (b:=b) (o:=o) (len:=ll.length) (cap:=c) (i:=k) (o':=o+k) rfl rfl rfl underlying50 zBm qO qO) (qV (zAL rfl zBe (E.cell (fun f=>f) af)) (qA _ rfl (zAB (zAA (qM _ rfl (qE rfl (zAV func146 zWn zXX rfl) (zNO _ _ l (av.ext E)) ?_)))))))))));rintro _ w9 ⟨rfl,X9⟩;replace E:=E.ext X9;refine qA _ rfl (zAB (zAA (qM _ rfl (qV (zBo rfl rfl) (zAB (qC rfl (fun hc=>?_) (fun hc=>?_)))))))
   ·refine zAA (qM _ rfl (qA _ rfl (qA _ rfl (zAB (zAR (zAZ (zAI (zAI (zAZ (zAI (zCK results103 (v:=(.slice none 0 0)) (v':=(.int .i64 (zBR l))) rfl rfl ?_)))))))))));exact ⟨⟨[],zBR l,.inl ⟨by rw[zIn hz hx hc];exact hc,(zIn hz hx hc).symm,rfl⟩,none,0,rfl,zDP _⟩,E⟩
   ·refine zAP (zAS (zAC (zAN (qV (zAy rfl rfl (zBV qO)) (qM _ rfl (zAB (zAC ?_)))))));exact ⟨ll.length - (k+1),qO,k+1,zBA.out ⟨rfl,rfl,rfl,rfl,trivial⟩,E,qO,(fun y hy=>by rw[zCP hx] at hy;rcases List.mem_append.1 hy with h1|h1;exact hz y h1;rw[List.mem_singleton] at h1;subst h1;omega),rfl⟩
  ·have fi:k=ll.length:=qO
   rw[fi,List.take_length] at hz;have bl:=zIm hz;have bc:∀s∈ll.flatten,vSp s:=fun s hs=>by obtain ⟨l,hl,hs⟩:=List.mem_flatten.1 hs;exact (zHd (hz l hl)).1.ok s hs
   refine zAp (zAX (zAX (zAj (zAC (zAA (zAh (ps:=[(0,(I6 0))]) (c:=#[(I6 0)]) qD rfl underlying26 zAv zFB qD qD qK ?_))))));intro bq wq Nq;have Fq:=Nq.ge E;replace E:=E.ext Nq.ext;have Bq:=Nq.blk;refine qA _ rfl (zAB (zAK (zAA (qM _ rfl (qV (zAM underlying50 rfl) (qM _ rfl (zAB (zAT ?_))))))));have cc:=zNZ (base:=base) Bq qO;have ct:base≤wq.heap.size:=by have:=E.size;omega
   refine zAq (fun nn_ σ W4=>∃(i:Nat) (la:Option Addr) (lc:Nat) (n:Nat) (rs:List Int),(∃jj_,σ=zCH jj_ [(0,(.slice a ll.length c)),(36,(.slice a ll.length c)),(37,(I6 (ll.length:Int))),(38,(I6 (i:Int))),(7,(.slice la n lc))])∧Chg zAo w0 W4∧(i≤ll.length)∧(rs=zPM (ll.take i).flatten)∧(n=rs.length)∧(W4.ownsRow base zVz 1 (.slice la n lc) n (rs.map (Value.int .i64)))∧(base≤W4.heap.size)∧nn_=ll.length - i) (n:=ll.length - 0) ?_ ?_
   ·exact ⟨0,some ⟨bq,0,none⟩,1,1,[0],zBA.out ⟨rfl,rfl,rfl,rfl,rfl,trivial⟩,E,Nat.zero_le _,rfl,rfl,cc,ct,rfl⟩
   ·clear E;rintro _ _ W4 ⟨i,la,lc,n,rs,⟨j4,rfl⟩,E,hi,bz,hn,aj,ej,rfl⟩;refine zAA (qV (zBH rfl rfl) (zAB (zAK (qC rfl (fun c5=>?_) (fun c5=>?_)))))
    ·obtain ⟨l,hx⟩:=zAU (l:=ll) (i:=i) qO;obtain ⟨b,o,rfl,b1⟩:=zBz h qO;obtain ⟨ra,rc,af,av⟩:=b1 i l hx;have eu:=zVD ll (i+1);rw[zGW hx,List.length_append] at eu;have dd:=zKG (ll.take i).flatten;rw[←bz] at dd;refine zAP (zAC (zAK (zAT (zAA (qV (zAH (b:=b) (o:=o) (len:=ll.length) (cap:=c) (i:=i) (o':=o+i) rfl rfl rfl underlying50 zBm qO qO) (qV (zAL rfl zBe (E.cell (fun f=>f) af)) (qA _ rfl (zAB (zAA (qM _ rfl (qV (zAM underlying22 rfl) (qM _ rfl (zAB (zAT (zAq (fun nn_ σ W6=>∃(j:Nat) (bu:Option Addr) (cd:Nat) (n2:Nat),(∃jj_,σ=zCH jj_ [(0,(.slice (some ⟨b,o,none⟩) ll.length c)),(36,(.slice (some ⟨b,o,none⟩) ll.length c)),(37,(I6 (ll.length:Int))),(38,(I6 (i:Int))),(42,(.slice ra l.length rc)),(43,(I6 (l.length:Int))),(44,(I6 (j:Int))),(7,(.slice bu n2 cd))])∧Chg zAo w0 W6∧(j≤l.length)∧(n2=rs.length+2*j)∧(W6.ownsRow base zVz 1 (.slice bu n2 cd) n2 ((rs++(l.take j).flatMap fun s=>[s.1,s.2+1]).map (Value.int .i64)))∧(base≤W6.heap.size)∧nn_=l.length - j) (n:=l.length - 0) ?_ ?_)))))))))))))))
     ·exact ⟨0,la,lc,n,zBA.out ⟨rfl,rfl,rfl,rfl,rfl,rfl,rfl,rfl,trivial⟩,E,Nat.zero_le _,qO,(by simpa using aj),ej,rfl⟩
     ·clear E;rintro _ _ W6 ⟨j,bu,cd,n2,⟨j6,rfl⟩,E,hj,hn2,ac,ah,rfl⟩;refine zAA (qV (zBH rfl rfl) (zAB (zAK (qC rfl (fun co=>?_) (fun co=>?_)))))
      ·obtain ⟨s,hs⟩:=zAU (l:=l) (i:=j) qO;obtain ⟨sb,so,rfl,ef⟩:=zBN av qO;have e4:=bc s (List.mem_flatten.2 ⟨l,List.mem_of_getElem? hx,List.mem_of_getElem? hs⟩);unfold vSp at e4;have d0:=ac;refine zAP (zAC (zAK (zAT (zAA (qV (zAH (b:=sb) (o:=so) (len:=l.length) (cap:=rc) (i:=j) (o':=so+j*2) rfl rfl rfl underlying22 zBB qO qO) (qV (zAG rfl zCi zBB rfl ((ef j s hs).ext E)) (zAg (v:=(.agg #[(I6 s.1),(I6 s.2)])) (c:=#[(I6 s.1),(I6 s.2)]) (n:=2) qD zCb rfl zBB rfl rfl rfl qS ?_)))))));intro bt wt Nt;have Ft:=Nt.ge E;replace ac:=zAn ac Nt.ext;replace ah:=Nat.le_trans ah Nt.ext.size;replace E:=E.ext Nt.ext;have Bt:=Nt.blk;refine zAB (zAN (qM _ rfl (qF bt 0 0 rfl underlying103 rfl zAv rfl (qV (zAL rfl zAf (Bt.cell rfl)) (qF bt 0 1 rfl underlying103 rfl zAv rfl (qV (zAL rfl zAf (Bt.cell rfl)) (qV (zAy rfl rfl (zBV qO)) (zAh (ps:=[(0,(I6 s.1)),(1,(I6 (s.2+1)))]) (c:=#[(I6 s.1),(I6 (s.2+1))]) qD rfl underlying26 zAv zFB qD qD qK ?_))))))));intro b8 w8 N8;have F8:=N8.ge E;have O8_bt:=N8.lt Bt;replace Bt:=N8.keep Bt;replace ac:=zAn ac N8.ext;replace ah:=Nat.le_trans ah N8.ext.size;replace E:=E.ext N8.ext;have B8:=N8.blk;refine zBC (base:=base) (n:=n2) (m:=2) (xs:=((rs++(l.take j).flatMap fun s=>[s.1,s.2+1]).map (Value.int .i64))) (news:=[(I6 s.1),(I6 (s.2+1))]) (size:=1) (bytes:=8) (v:=(.slice bu n2 cd)) qD underlying26 zAv zPA zFB rfl qD rfl ac rfl (rfl) (B8.cells rfl) qS (by unfold maxLen;omega) qO (ah) ?_;intro v9 e6 d8 d7 Dv9;replace E:=E.step d7 (fun x hx h=>absurd (ac.lt x h).1 qO);obtain ⟨ez,fk,rfl⟩:=zAw d8;refine qA _ rfl (zAB (zAS (zAC (zAN (qV (zAy rfl rfl (zBV qO)) (qM _ rfl (zAB (zAC ?_))))))));exact ⟨l.length - (j+1),qO,j+1,ez,fk,n2+2,zBA.out ⟨rfl,rfl,rfl,rfl,rfl,rfl,rfl,rfl,trivial⟩,E,qO,qO,(by rw[zSH hs,←List.append_assoc];simpa using d8),Nat.le_trans ah d7.size,rfl⟩
      ·have fh:j=l.length:=qO
       rw[fh,List.take_length] at ac;refine zAp (zAX (zAX (zAj (zAS (zAC (zAN (qV (zAy rfl rfl (zBV qO)) (qM _ rfl (zAB (zAC ?_))))))))));exact ⟨ll.length - (i+1),qO,i+1,bu,cd,n2,zPM (ll.take (i+1)).flatten,zBA.out ⟨rfl,rfl,rfl,rfl,rfl,trivial⟩,E,qO,rfl,(by rw[zKG,zGW hx,List.length_append];omega),(by rw[zSG hx,←bz];exact ac),ah,rfl⟩
    ·have fe:i=ll.length:=qO
     rw[fe,List.take_length] at bz;have dd:=zKG ll.flatten;rw[←bz] at dd;obtain ⟨d6,ed⟩:n≤lc∧lc≤9223372036854775807:=zSL aj;obtain ⟨g,rfl,hgb,hgc⟩:=zCn aj qO;have hgl:=aj.lt g rfl;obtain ⟨q,hq⟩:∃q,q=Lib.compact (rs.mergeSort leB):=⟨_,rfl⟩;obtain ⟨fl,d2⟩:q.Pairwise (· < ·)∧∀x,x∈q↔x∈zPM ll.flatten:=by rw[hq,←bz];exact zJE rs
     obtain ⟨p,hP,b6⟩:=zSt bc fl d2;subst hn;refine zAp (zAX (zAX (zAj (zAC (zAA (qM _ rfl (qE rfl (zAV func147 zWm zXW rfl) (zUR _ base g lc rs aj qO) ?_)))))));rintro _ w31 ⟨rfl,fb,d9⟩;replace E:=E.step d9 (fun x hx hm=>absurd (aj.lt g rfl).1 qO);refine zAB (zAA (qM _ rfl (qE rfl (zAV func148 zYl zZr rfl) (zVR _ g lc rs.length (rs.mergeSort leB) q fb (by simp;omega) qP hq) ?_)));rintro _ ey ⟨rfl,ek,dx⟩;replace E:=E.step dx (fun x hx hm=>absurd (aj.lt g rfl).1 qO);refine qA _ rfl (zAB (zAA (qA _ rfl (zAB (zAA (zLB zQb zMd qD ?_))))));intro bm wm Nm;have Fm:=Nm.ge E;replace E:=E.ext Nm.ext;intro Mm;refine qA _ rfl (zAB (zAK (zAA (qM _ rfl (qV (zAM underlying26 rfl) (qM _ rfl (zAB (zAT ?_))))))));obtain ⟨n1,ei⟩:∃n,n=wm.heap.size:=⟨_,rfl⟩;have fg:zDK (fun b=>b=g) wm 1 (.slice (some ⟨g,0,none⟩) q.length lc) (q.map zPN):=zDK.mk (ek.ext Nm.ext) rfl;have fm:bm<n1:=by have:=Mm.lt;omega
     have e7:g<bm:=by have:=dx.size;have:=d9.size;have:=Nm.eq;omega
     have em:w0.heap.size≤n1:=by have:=E.size;omega
     have eb:∀x∈p,x≤1114111:=fun x hx=>(zCQ hP bc hx).2;have hpl:p.length≤1114112:=zMU hP.1 (fun x hx=>zCQ hP bc hx);have hql:=zRF b6;have fd:∀x∈q,0≤x∧x≤1114112:=fun x hx=>by rcases zKF.1 ((d2 x).1 hx) with h1|⟨s,hs,h1⟩;omega;have:=bc s hs;unfold vSp at this;omega
     refine zAq (fun nn_ σ W9=>∃(i2:Nat) (ks:List (List Bool)) (aa:List (List Sp)) (vs:List Value) (oa:Option Addr) (oc:Nat) (on:Nat),(∃jj_,σ=zCH jj_ [(0,(.slice a ll.length c)),(7,(.slice (some ⟨g,0,none⟩) q.length lc)),(13,(.map (some bm))),(63,(.slice (some ⟨g,0,none⟩) q.length lc)),(64,(I6 (q.length:Int))),(65,(I6 (i2:Int))),(12,(.slice oa on oc))])∧Chg zAo w0 W9∧zCV W9 bm zQb zMd (zEf ks 0)∧(GInv ll p i2 ks aa)∧(i2≤p.length)∧(CSt W9 n1 (.slice oa on oc) vs aa)∧(on=aa.length)∧(zDK (fun b=>b=g) W9 1 (.slice (some ⟨g,0,none⟩) q.length lc) (q.map zPN))∧(n1≤W9.heap.size)∧nn_=p.length - i2) (n:=p.length - 0) ?_ ?_
     ·exact ⟨0,[],[],[],none,0,0,zBA.out ⟨rfl,rfl,rfl,rfl,rfl,rfl,rfl,trivial⟩,E,Mm,GInv.start hP bc,Nat.zero_le _,CSt.start _ _,rfl,fg,qO,rfl⟩
     ·clear E Mm;rintro _ _ W9 ⟨i2,ks,aa,vs,oa,oc,on,⟨j9,rfl⟩,E,Mm,hG,hi2,hC,ap,hI,cw,rfl⟩;refine zAA (qV (zBH rfl rfl) (zAB (zAK (qC rfl (fun dk=>?_) (fun dk=>?_)))))
      ·obtain ⟨c1,cz⟩:=zAU (l:=q) (i:=i2) qO;obtain ⟨qb,qo,bn,ep⟩:=zBu (l:=q) hI.at qO;simp only[Option.some.injEq,Addr.mk.injEq,and_true] at bn;obtain ⟨rfl,rfl⟩:=bn;refine zAP (zAC (zAK (zAT (zAA (qM _ rfl (qV (zAH (b:=g) (o:=0) (len:=q.length) (cap:=lc) (i:=i2) (o':=0+i2) rfl rfl rfl underlying26 zAv qO qO) (qV (zAL rfl zAf (ep i2 c1 cz)) (qA _ rfl (qA _ rfl (zAB (zAK (zAA (qM _ rfl (qV (zCN rfl rfl) (zAB (qC rfl (fun br=>?_) (fun br=>?_)))))))))))))))))
       ·have dm:i2=p.length:=by have:=(zTs b6 cz eb).2 br;omega
        have a4:=hG;rw[dm] at a4;have c4:=hC.join;have b9:=hG.cnt;have dt:=hG.len;refine zAp (zAX (zQk qD (zAX (zAX (zAj (zAC (zAK (zAA (qM _ rfl (qV (zAM underlying50 rfl) (qM _ rfl (zAB (zAT (zAq (fun nn_ σ ci=>∃(k3:Nat) (cs:List (List Sp)) (us:List Value),(∃jj_,σ=zCH jj_ [(12,(.slice oa on oc)),(133,(I6 (on:Int))),(134,(I6 (k3:Int)))])∧Chg zAo w0 ci∧(k3≤aa.length)∧(JSt ci n1 (.slice oa on oc) us aa cs k3)∧(∀c∈cs,c.length≤16)∧(n1≤ci.heap.size)∧nn_=aa.length - k3) (n:=aa.length - 0) ?_ ?_))))))))))))))
        ·exact ⟨0,[],vs,zBA.out ⟨rfl,rfl,rfl,trivial⟩,E,Nat.zero_le _,c4,qP,cw,rfl⟩
        ·clear E;rintro _ _ ci ⟨k3,cs,us,⟨j12,rfl⟩,E,ew,hJ,b5,eh,rfl⟩;refine zAA (qV (zBH rfl rfl) (zAB (zAK (qC rfl (fun ba=>?_) (fun ba=>?_)))))
         ·obtain ⟨o1,ag⟩:=zAU (l:=aa) (i:=k3) qO;obtain ⟨u1,bv⟩:=zAU (l:=us) (i:=k3) (by have:=hJ.len;omega);obtain ⟨⟨ua,uc,rfl⟩,c7⟩:=hJ.rst k3 u1 o1 (Nat.le_refl _) bv ag;have aq:=hJ.o;rw[←ap] at aq;obtain ⟨gg,rfl,ea,dn⟩:=zCn aq qO;have a1:=aq.lt gg rfl;have c3:=(a4.ok k3 o1 ag);refine zAP (zAC (zAK (zAT (zAA (qM _ rfl (qA _ rfl (zAB (zAA (qM _ rfl (qM _ rfl (qM _ rfl (qM _ rfl (qV (zAH (b:=gg) (o:=0) (len:=on) (cap:=oc) (i:=k3) (o':=0+k3) rfl rfl rfl underlying50 zBm qO qO) (qV (zAL (v:=(.slice ua o1.length uc)) rfl zBe ((by have h1:=(aq.cells (g:=gg) rfl) k3 _ bv;rwa [Addr.add_lit] at h1))) (qE rfl (zAV func149 zWl zXV rfl) (zTm _ _ o1 c7.at qO c3.1) ?_)))))))))))))));rintro _ et ⟨⟨j1,bw,⟨⟨ja,jc,rfl⟩,ds⟩⟩,a2⟩;replace E:=E.ext a2;obtain ⟨cf,am,dw⟩:=zIP (zAn aq a2);refine qV (zAH (b:=gg) (o:=0) (len:=on) (cap:=oc) (i:=k3) (o':=0+k3) rfl rfl rfl underlying50 zBm qO qO) ?_;have ar:=am;have ay:True:=trivial;refine zBr (b:=gg) (o:=0+k3) (c':=cf.setIfInBounds (0+k3) (.slice ja j1.length jc)) (v:=(.slice ja j1.length jc)) rfl rfl rfl zBm am qO (rfl) ?_;intro w14 db;replace ay:=db;replace E:=db.step E qQ;replace am:=db.blk;refine zAB (zAA (qM _ rfl (qM _ rfl (qV (zAH (b:=gg) (o:=0) (len:=on) (cap:=oc) (i:=k3) (o':=0+k3) rfl rfl rfl underlying50 zBm qO qO) (qV (zAL rfl zBe (am.cell (by rw[Array.getElem?_setIfInBounds_self_of_lt qO]))) ?_)))));refine qV (zAM underlying22 rfl) (qV (zCN rfl rfl) (zAB (qC rfl (fun cx=>?_) (fun cx=>?_))))
          ·refine zAA (qA _ rfl (qA _ rfl (zAB (zAR (zAZ (zAI (zAI (zAZ (zAI (zCK results103 (v:=(.slice none 0 0)) (v':=(.int .i64 2)) rfl rfl ?_))))))))));obtain ⟨cF,c9,da⟩:=zLt a4 hP ag bw qO;exact ⟨⟨[],2,.inr ⟨bl,cF,c9,.inl ⟨da,rfl,rfl⟩⟩,none,0,rfl,zDP _⟩,E⟩
          ·refine zAP (zAS (zAC (zAN (qV (zAy rfl rfl (zBV qO)) (qM _ rfl (zAB (zAC ?_)))))));exact ⟨aa.length - (k3+1),qO,k3+1,cs++[j1],us.set k3 (.slice ja j1.length jc),zBA.out ⟨rfl,rfl,rfl,trivial⟩,E,qO,(by have hS:=JSt.step (hJ.ext a2) ap ag (⟨⟨_,_,rfl⟩,ds⟩:zPR _ _ _ j1) a1.2 bw ar (by simpa using ay);exact hS),(fun c hc=>by rcases List.mem_append.1 hc with h1|h1;exact b5 c h1;rw[List.mem_singleton] at h1;subst h1;omega),(by have:=a2.size;have:=ay.chg.size;omega),rfl⟩
         ·have ai:k3=aa.length:=qO
          have ao:=a4.done hP (by rw[hJ.cl,ai]) hJ.jn;have av:=hJ.done ai;have au:cs.length=on:=by rw[hJ.cl,ai,ap]
          refine zAp (zAX (zAX (zAj (zAC (zAK (zAA (qM _ rfl (qV (zAM underlying50 rfl) (qV (zCN rfl rfl) (zAB (qC rfl (fun a7=>?_) (fun a7=>?_))))))))))))
          ·refine zAA (qA _ rfl (qA _ rfl (zAB (zAR (zAI (zCK results103 (v:=(.slice none 0 0)) (v':=(.int .i64 2)) rfl rfl ?_))))));exact ⟨⟨[],2,.inr ⟨bl,cs,ao,.inl ⟨.inr qO,rfl,rfl⟩⟩,none,0,rfl,zDP _⟩,E⟩
          ·refine zAP (zAC (zAA (qM _ rfl (qA _ rfl (qA _ rfl (zAB (zAR (zCK results103 (v:=(.slice oa on oc)) (v':=(.int .i64 0)) rfl rfl ?_))))))));rw[←au] at av;exact ⟨⟨cs,0,.inr ⟨bl,cs,ao,.inr ⟨fun dh=>by rcases dh with ⟨c,h1,h2⟩|h2;have:=b5 c h1;omega;omega,rfl,rfl⟩⟩,oa,oc,by rw[au],av⟩,E⟩
       ·have E6:Chg zAo W9 W9:=Chg.refl _ _;obtain ⟨z0,fo⟩:∃z0,z0=(W9).heap.size:=⟨_,rfl⟩;have bo:∀(i:Nat) v b,vs[i]?=some v→v.ownBlock=some b→b<z0:=fun i v b hv hb=>by obtain ⟨l,hl⟩:=hC.some hv;have:=((hC.inn i v l hv hl).lt b hb).2;omega
        have dy:=(zTs b6 cz eb).1 qO;have hlp:=zAa dy;refine zAP (zAC (zAA (qM _ rfl (qV (zBd (ps:=[(0,(I6 c1)),(1,(I6 1114111))]) (v:=(.agg #[(I6 c1),(I6 1114111)])) rfl qK) (zAg (v:=(.agg #[(I6 c1),(I6 1114111)])) (c:=#[(I6 c1),(I6 1114111)]) (n:=2) qD zCb rfl zBB rfl rfl rfl qS ?_)))));intro bx wx Nx;have Fx:=Nx.ge E;have Fx_E6:=Nx.ge E6;have Ox_bm:=Nx.ltM Mm;replace Mm:=Nx.keepM Mm;replace E:=E.ext Nx.ext;have Bx:=Nx.blk;replace E6:=E6.ext Nx.ext;refine zAB (zHi (fun σ ce=>∃(hi:Int),(∃jj_,σ=zCH jj_ [(0,(.slice a ll.length c)),(7,(.slice (some ⟨g,0,none⟩) q.length lc)),(12,(.slice oa on oc)),(13,(.map (some bm))),(15,(I6 c1)),(16,(P6 bx 0)),(63,(.slice (some ⟨g,0,none⟩) q.length lc)),(64,(I6 (q.length:Int))),(65,(I6 (i2:Int)))])∧Chg zAo w0 ce∧Chg zAo W9 ce∧zCV ce bm zQb zMd (zEf ks 0)∧Blk ce bx (#[Value.int .i64 c1,Value.int .i64 hi]) 103∧(hi=nx p (i2+1) - 1)) ?_ ?_)
        ·skip
         refine zAA (qM _ rfl (qV (zAy rfl rfl (zBV qO)) (qM _ rfl (qV (zAM underlying26 rfl) (qV (zBH rfl rfl) (zAB (qC rfl (fun fn=>?_) (fun fn=>?_))))))))
         ·obtain ⟨d1,dq⟩:=zAU (l:=q) (i:=i2+1) qO;have hdn:=zSu b6 qO dq;have hdb:=fd d1 (List.mem_of_getElem? dq);refine zAN (qM _ rfl (qM _ rfl (qV (zAy rfl rfl (zBV qO)) (qV (zAH (b:=g) (o:=0) (len:=q.length) (cap:=lc) (i:=i2+1) (o':=0+(i2+1)) rfl rfl qO underlying26 zAv qO qO) (qV (zAL rfl zAf (((hI.chg E6 fun _ _ f=>f).at |> fun hh=>by obtain ⟨qb,qo,dv,e8⟩:=zBu (l:=q) hh qO;simp only[Option.some.injEq,Addr.mk.injEq,and_true] at dv;obtain ⟨rfl,rfl⟩:=dv;exact e8 (i2+1) d1 dq))) (qV (zDS (k:=.i64) (a:=d1) (b:=1) (c:=d1 - 1) rfl rfl (zBV qO)) (qF bx 0 1 rfl underlying103 rfl zAv rfl (zBr (b:=bx) (o:=1) (c':=#[(I6 c1),(I6 (d1 - 1))]) (v:=(I6 (d1 - 1))) rfl rfl rfl zAv Bx qP rfl ?_))))))));intro w19 ck;replace Mm:=ck.keepM qO Mm;replace E:=ck.step E qQ;replace E6:=ck.step E6 (Or.inl qO);replace Bx:=ck.blk;refine zAB (zAC ?_);exact ⟨d1 - 1,zBA.out ⟨rfl,rfl,rfl,rfl,rfl,rfl,rfl,rfl,rfl,trivial⟩,E,E6,Mm,Bx,qO⟩
         ·refine zAP (zAC ?_);exact ⟨1114111,zBA.out ⟨rfl,rfl,rfl,rfl,rfl,rfl,rfl,rfl,rfl,trivial⟩,E,E6,Mm,Bx,(by rw[zSv b6 qO];rfl)⟩
        ·clear E E6 Mm Bx;rintro _ ce ⟨hi,⟨j17,rfl⟩,E,E6,Mm,Bx,er⟩;refine zAA (qM _ rfl (qV (zAM underlying50 rfl) (zTY (n:=ll.length) (z:=(.int .u8 0)) (bytes:=1) qD underlying147 zXy byt5 zer5 rfl rfl rfl qO qO ?_)));intro bk wk Nk;have Fk:=Nk.ge E;have Fk_E6:=Nk.ge E6;have Ok_bm:=Nk.ltM Mm;have Ok_bx:=Nk.lt Bx;replace Mm:=Nk.keepM Mm;replace Bx:=Nk.keep Bx;replace E:=E.ext Nk.ext;have Bk:=Nk.blk;replace E6:=E6.ext Nk.ext;refine qA _ rfl (zAB (zAK (zAA (qM _ rfl (qV (zAM underlying50 rfl) (qM _ rfl (zAB (zAT ?_))))))));rw[show (List.replicate ll.length (Value.int .u8 0))=(zDT ll c1 0).map (Value.int .u8) from by rw[zMZ,List.map_replicate]] at Bk;refine zAq (fun nn_ σ bh=>∃(e1:Nat),(∃jj_,σ=zCH jj_ [(0,(.slice a ll.length c)),(7,(.slice (some ⟨g,0,none⟩) q.length lc)),(12,(.slice oa on oc)),(13,(.map (some bm))),(15,(I6 c1)),(16,(P6 bx 0)),(17,(.slice (some ⟨bk,0,none⟩) ll.length ll.length)),(63,(.slice (some ⟨g,0,none⟩) q.length lc)),(64,(I6 (q.length:Int))),(65,(I6 (i2:Int))),(89,(.slice a ll.length c)),(90,(I6 (ll.length:Int))),(91,(I6 (e1:Int)))])∧Chg zAo w0 bh∧Chg zAo W9 bh∧zCV bh bm zQb zMd (zEf ks 0)∧Blk bh bx #[(I6 c1),(I6 hi)] 103∧Blk bh bk (((zDT ll c1 e1).map (Value.int .u8)).toArray) 5∧(e1≤ll.length)∧nn_=ll.length - e1) (n:=ll.length - 0) ?_ ?_
         ·exact ⟨0,zBA.out ⟨rfl,rfl,rfl,rfl,rfl,rfl,rfl,rfl,rfl,rfl,rfl,rfl,rfl,trivial⟩,E,E6,Mm,Bx,Bk,Nat.zero_le _,rfl⟩
         ·clear E E6 Mm Bx Bk;rintro _ _ bh ⟨e1,⟨j20,rfl⟩,E,E6,Mm,Bx,Bk,e9,rfl⟩;refine zAA (qV (zBH rfl rfl) (zAB (zAK (qC rfl (fun cy=>?_) (fun cy=>?_)))))
          ·obtain ⟨l6,c6⟩:=zAU (l:=ll) (i:=e1) qO;obtain ⟨b,o,rfl,b1⟩:=zBz h qO;obtain ⟨ra,rc,af,av⟩:=b1 e1 l6 c6;refine zAP (zAC (zAK (zAT (zAA (qM _ rfl (qV (zAH (b:=b) (o:=o) (len:=ll.length) (cap:=c) (i:=e1) (o':=o+e1) rfl rfl rfl underlying50 zBm qO qO) (qV (zAL rfl zBe (E.cell (fun f=>f) af)) (qA _ rfl (qA _ rfl (zAB (zAA (qM _ rfl (qM _ rfl (qE rfl (zAV func116 zWo zXY rfl) (zad _ _ l6 c1 (av.ext E)) ?_))))))))))))));rintro _ w51 ⟨rfl,ca⟩;replace Mm:=ca.keepM Mm;replace Bx:=ca.keep Bx;replace Bk:=ca.keep Bk;replace E:=E.ext ca;replace E6:=E6.ext ca;refine zAB (zAt rfl (fun b3=>?_) (fun b3=>?_))
           ·have cv:=b3;have hml:=zOh (c:=c1) e9;refine zAN (qM _ rfl (qM _ rfl (qV (zAH (b:=bk) (o:=0) (len:=ll.length) (cap:=ll.length) (i:=e1) (o':=0+e1) rfl rfl rfl underlying147 zXy qO qO) (zBr (b:=bk) (o:=0+e1) (c':=((zDT ll c1 (e1+1)).map (Value.int .u8)).toArray) (v:=(.int .u8 1)) rfl rfl rfl zXy Bk (by simp;omega) (by rw[zMa c6,b3];simp[zTK,List.map_set]) ?_))));intro w23 b4;replace Mm:=b4.keepM qO Mm;replace Bx:=b4.keep qO Bx;replace E:=b4.step E qQ;replace E6:=b4.step E6 (Or.inl qO);replace Bk:=b4.blk;refine zAB (zAS (zAC (zAN (qV (zAy rfl rfl (zBV qO)) (qM _ rfl (zAB (zAC ?_)))))));exact ⟨ll.length - (e1+1),qO,e1+1,zBA.out ⟨rfl,rfl,rfl,rfl,rfl,rfl,rfl,rfl,rfl,rfl,rfl,rfl,rfl,trivial⟩,E,E6,Mm,Bx,Bk,qO,rfl⟩
           ·have cv:=b3;have du:zDT ll c1 (e1+1)=zDT ll c1 e1:=zMb c6 b3;rw[←du] at Bk;refine zAP (zAS (zAC (zAN (qV (zAy rfl rfl (zBV qO)) (qM _ rfl (zAB (zAC ?_)))))));exact ⟨ll.length - (e1+1),qO,e1+1,zBA.out ⟨rfl,rfl,rfl,rfl,rfl,rfl,rfl,rfl,rfl,rfl,rfl,rfl,rfl,trivial⟩,E,E6,Mm,Bx,Bk,qO,rfl⟩
          ·have e5:e1=ll.length:=qO
           rw[e5,zOi] at Bk;refine zAp (zAX (zAX (zAj (zAC (zAA (qM _ rfl (qM _ rfl (qV (zJU underlying147 underlying5 underlying9 rfl Bk (by simp[zBI])) (zCJ (v:=(.tuple #[(I6 ((zFp (zEf ks 0) (zKU (zBI ll c1))).getD 0)),(.bool ((zFp (zEf ks 0) (zKU (zBI ll c1))).isSome))])) rfl rfl qD (zQA (k:=(zKU (zBI ll c1))) (z:=0) underlying146 (zTl underlying9) zFB Mm rfl rfl) (qM _ rfl (qV (zBM rfl rfl) (qV (zBM rfl rfl) (qA _ rfl (qA _ rfl (zAB ?_)))))))))))))));have az:=hC.ext E6;have bf:=hI.chg E6 fun _ _ f=>f;have be:=Nat.le_trans cw E6.size;have b9:=hG.cnt;have b7:on=ks.length:=by rw[ap,hG.len]
           refine zHi (fun σ a3=>∃(kk:Nat) (bj:List (List Bool)) (ad:List (List Sp)) (cg:List Value) (c8:Option Addr) (al ak:Nat),(∃jj_,σ=zCH jj_ [(0,(.slice a ll.length c)),(7,(.slice (some ⟨g,0,none⟩) q.length lc)),(13,(.map (some bm))),(16,(P6 bx 0)),(63,(.slice (some ⟨g,0,none⟩) q.length lc)),(64,(I6 (q.length:Int))),(65,(I6 (i2:Int))),(12,(.slice c8 ak al)),(20,(I6 (kk:Int)))])∧Chg zAo w0 a3∧zCV a3 bm zQb zMd (zEf bj 0)∧Blk a3 bx #[(I6 c1),(I6 hi)] 103∧Blk a3 bk ((((zBI ll c1).map zTK).map (Value.int .u8)).toArray) 5∧(bj=zMF ks (zBI ll c1))∧(ad.length=bj.length)∧(∀(j:Nat) q,ad[j]?=some q→aa[j]?=some q∨(j=ks.length∧q=[]∧zBI ll c1∉ks))∧(bj[kk]?=some (zBI ll c1))∧(CSt a3 n1 (.slice c8 ak al) cg ad)∧(ak=ad.length)∧(zDK (fun b=>b=g) a3 1 (.slice (some ⟨g,0,none⟩) q.length lc) (q.map zPN))∧(n1≤a3.heap.size)∧(∀(i:Nat) v b,cg[i]?=some v→v.ownBlock=some b→b<z0)) ?_ ?_
           ·skip
            refine zAA (qM _ rfl (qV (zCf rfl) (zAB (zAt rfl (fun ae=>?_) (fun ae=>?_)))))
            ·have cb:=ae;replace ae:=by simpa using ae
             have e3:zFp (zEf ks 0) (zKU (zBI ll c1))=none:=by simpa using ae
             obtain ⟨b2,dc⟩:=zOk e3;refine zAA (qM _ rfl (qV (zAM underlying50 rfl) (qA _ rfl (zAB (zAA (qM _ rfl (qM _ rfl (qV (zJU underlying147 underlying5 underlying9 rfl Bk (by simp[zBI])) (qM _ rfl (zFv (k:=(zKU (zBI ll c1))) (v:=(on:Int)) underlying146 (zTl underlying9) Mm rfl rfl rfl ?_))))))))));intro w26 bi fq;replace be:=Nat.le_trans be bi.chg.size;replace az:=az.chg bi.chg fun b h1 _ h2=>absurd h2 qO;replace bf:=bf.chg bi.chg fun b h1 h2=>by subst h1;omega
             replace Bx:=bi.keep qO Bx;replace Bk:=bi.keep qO Bk;replace E:=bi.step E qQ;replace Mm:=fq;refine zAB (zAN (qM _ rfl (zAh (ps:=[(0,(.slice none 0 0))]) (c:=#[(.slice none 0 0)]) qD rfl underlying50 zBm zKi qD qD qK ?_)));intro b27 w27 an;have F27:=an.ge E;have O27_bm:=an.ltM Mm;have O27_bx:=an.lt Bx;have O27_bk:=an.lt Bk;replace Mm:=an.keepM Mm;replace Bx:=an.keep Bx;replace Bk:=an.keep Bk;replace az:=az.ext an.ext;replace bf:=bf.chg an.ext fun _ _ f=>f;replace be:=Nat.le_trans be an.ext.size;replace E:=E.ext an.ext;have eo:=an.blk;refine zBC (base:=n1) (n:=on) (m:=1) (xs:=vs) (news:=[(.slice none 0 0)]) (size:=1) (bytes:=24) (v:=(.slice oa on oc)) qD underlying50 zBm zTI zKi rfl qD rfl (az.on ap) rfl (rfl) (eo.cells rfl) qS (by unfold maxLen;omega) qO (be) ?_;intro v7 w59 d3 a8 fr;replace Mm:=a8.keepM (fun h=>by have:=(az.o.lt _ h).1;omega) Mm;replace Bx:=a8.keep (fun h=>by have:=(hC.o.lt _ h).2;omega) Bx;replace Bk:=a8.keep (fun h=>by have:=(hC.o.lt _ h).2;omega) Bk;replace E:=E.step a8 (fun x hx h=>absurd ((az.on ap).lt x h).1 qO);obtain ⟨ex,fp,rfl⟩:=zAw d3;rw[b7,dc] at Mm;refine qA _ rfl (zAB (zAC ?_));exact ⟨on,ks++[zBI ll c1],aa++[[]],vs++[.slice none 0 0],ex,fp,on+1,zBA.out ⟨rfl,rfl,rfl,rfl,rfl,rfl,rfl,rfl,rfl,trivial⟩,E,Mm,Bx,Bk,(by unfold zMF;rw[if_neg b2]),(by simp;omega),zRv hG.len b2,(by rw[b7];simp),az.push (by rw[←ap];exact d3) a8 fr,(by simp;omega),bf.chg a8 fun b h1 h2=>by subst h1;have:=(az.o.lt _ h2).1;omega,Nat.le_trans be a8.size,zRw bo⟩
            ·have cb:=ae;replace ae:=by simpa using ae
             have es:(zFp (zEf ks 0) (zKU (zBI ll c1))).isSome=true:=by simpa using ae
             obtain ⟨v9,ec⟩:=Option.isSome_iff_exists.1 es;obtain ⟨j9,rfl,d4⟩:=zQW ec;rw[show (zFp (zEf ks 0) (zKU (zBI ll c1))).getD 0=((j9:Nat):Int) from by rw[ec];rfl];refine zAP (zAC ?_);exact ⟨j9,ks,aa,vs,oa,oc,on,zBA.out ⟨rfl,rfl,rfl,rfl,rfl,rfl,rfl,rfl,rfl,trivial⟩,E,Mm,Bx,Bk,(by unfold zMF;rw[if_pos (List.mem_of_getElem? d4)]),qO,(fun j q h=>.inl h),d4,az,ap,bf,be,bo⟩
           ·clear E Mm Bx Bk;rintro _ a3 ⟨kk,bj,ad,cg,c8,al,ak,⟨j24,rfl⟩,E,Mm,Bx,Bk,di,de,bp,a9,a5,bb,en,fa,d5⟩;obtain ⟨o1,ag⟩:=zAU (l:=ad) (i:=kk) (by have:=zAa a9;omega);obtain ⟨v1,bd⟩:=zAU (l:=cg) (i:=kk) (by have:=a5.len;have:=zAa a9;omega);obtain ⟨va,vc,rfl⟩:=zAw (a5.inn kk v1 o1 bd ag);have hko:=zAa ag;have eg:o1.length≤i2:=by rcases bp kk o1 ag with h1|⟨_,h1,_⟩;exact (hG.ok kk o1 h1).2;subst h1;exact Nat.zero_le _
            obtain ⟨gg,rfl,ea,dn⟩:=zCn (a5.on bb) qO;have a1:=a5.o.lt gg rfl;have a0:=a5.inn kk _ o1 bd ag;obtain ⟨h0,e0⟩:∃h0,h0=(a3).heap.size:=⟨_,rfl⟩;obtain ⟨cp,ab⟩:∃Fs:List (FactT ((fun y=>(Value.slice va o1.length vc).ownBlock=some y))),Fs=[.eq (.slice (some ⟨gg,0,none⟩) ak al),.eq (I6 (kk:Int)),.eq (.slice (some ⟨gg,0,none⟩) ak al),.eq (I6 (kk:Int)),.eq (.pointer (some ⟨gg,0+kk,none⟩)),.eq (.slice va o1.length vc),.eq (.agg #[(I6 c1),(I6 hi)]),.till (zSV TSp #[.int .i64 c1,.int .i64 hi] 0) (zFc _ _ _),.own (zTO n1 TSp 2 (o1.length+1) ((o1.map zBh).flatten++[Value.int .i64 c1,Value.int .i64 hi]) (.slice va o1.length vc) h0) (zFi _ _ _ _ _ _ _)]:=⟨_,rfl⟩;refine zKf ((fun y=>(Value.slice va o1.length vc).ownBlock=some y)) 9 8 [121,122,123,124,125,126,127,128,129] [[],[],[],[],[2,3],[4],[],[6],[5,7]] cp ab rfl mixed qK qK qK ?_ ?_
            ·intro wd X0;refine DagStepsT.cons (fun s' w' X U H=>?_) ?_
             ·exact zBb (zAi (U 12 rfl)) (Chg.refl _ _) rfl
             refine DagStepsT.cons (fun s' w' X U H=>?_) ?_
             ·exact zBb (zAi (U 20 rfl)) (Chg.refl _ _) rfl
             refine DagStepsT.cons (fun s' w' X U H=>?_) ?_
             ·exact zBb (zAi (U 12 rfl)) (Chg.refl _ _) rfl
             refine DagStepsT.cons (fun s' w' X U H=>?_) ?_
             ·exact zBb (zAi (U 20 rfl)) (Chg.refl _ _) rfl
             refine DagStepsT.cons (fun s' w' X U H=>?_) ?_
             ·have dr:s' 123=(.slice (some ⟨gg,0,none⟩) ak al):=H 2 rfl 123 (.eq (.slice (some ⟨gg,0,none⟩) ak al)) rfl (by rw[ab];rfl);have cu:s' 124=(.int .i64 ((kk:Nat):Int)):=H 3 rfl 124 (.eq (.int .i64 ((kk:Nat):Int))) rfl (by rw[ab];rfl);exact zBb (zAH (i:=kk) dr cu rfl underlying50 zBm qO qO) (Chg.refl _ _) rfl
             refine DagStepsT.cons (fun s' w' X U H=>?_) ?_
             ·have dg:s' 125=(.pointer (some ⟨gg,0+kk,none⟩)):=H 4 rfl 125 (.eq (.pointer (some ⟨gg,0+kk,none⟩))) rfl (by rw[ab];rfl);exact zBb (zAL dg zBe (by have h1:=dn kk _ bd;exact (Ext.cell X (X0.cell h1)))) (Chg.refl _ _) rfl
             refine DagStepsT.cons (fun s' w' X U H=>?_) ?_
             ·exact zBb (zAG (U 16 rfl) zCi zBB rfl ((Chg.keep X (fun h=>by have:=d5 kk _ _ bd h;omega) (X0.keep Bx)).cells rfl)) (Chg.refl _ _) rfl
             refine DagStepsT.cons (fun s' w' X U H=>?_) ?_
             ·have dj:s' 127=(.agg #[(.int .i64 c1),(.int .i64 hi)]):=H 6 rfl 127 (.eq (.agg #[(.int .i64 c1),(.int .i64 hi)])) rfl (by rw[ab];rfl);exact zMD underlying22 zBB zCb dj qD qD qK (Nat.zero_le _)
             refine DagStepsT.cons (fun s' w' X U H=>?_) ?_
             ·have cr:s' 126=(.slice va o1.length vc):=H 5 rfl 126 (.eq (.slice va o1.length vc)) rfl (by rw[ab];rfl);obtain ⟨ff,dp,c2,_⟩:=(show (.till (zSV TSp #[.int .i64 c1,.int .i64 hi] 0) (zFc _ _ _):FactT ((fun y=>(Value.slice va o1.length vc).ownBlock=some y))).In (s' 128) w' from FactT.at_false (H 7 rfl 128 (.till (zSV TSp #[.int .i64 c1,.int .i64 hi] 0) (zFc _ _ _)) rfl (by rw[ab];rfl)));exact zHl underlying22 zBB zIl zCb rfl qD cr (zAn (zAn a0 X0) X) dp rfl (c2.cells rfl) qS (by unfold maxLen;omega) qO (by have:=X0.size;have:=X.size;omega) (fun y h=>h) (by have:=X0.size;have:=X.size;omega)
             exact DagStepsT.nil
            ·intro s' e2 ee X0 cm U H;have df:s' 121=(.slice (some ⟨gg,0,none⟩) ak al):=H 0 121 (.eq (.slice (some ⟨gg,0,none⟩) ak al)) rfl (by rw[ab];rfl);have cn:s' 122=(.int .i64 ((kk:Nat):Int)):=H 1 122 (.eq (.int .i64 ((kk:Nat):Int))) rfl (by rw[ab];rfl);obtain ⟨⟨aw,ax,a6⟩,b0,bs⟩:=(show (.own (zTO n1 TSp 2 (o1.length+1) ((o1.map zBh).flatten++[Value.int .i64 c1,Value.int .i64 hi]) (.slice va o1.length vc) h0) (zFi _ _ _ _ _ _ _):FactT ((fun y=>(Value.slice va o1.length vc).ownBlock=some y))).In (s' 129) ee from H 8 129 (.own (zTO n1 TSp 2 (o1.length+1) ((o1.map zBh).flatten++[Value.int .i64 c1,Value.int .i64 hi]) (.slice va o1.length vc) h0) (zFi _ _ _ _ _ _ _)) rfl (by rw[ab];rfl));obtain ⟨j28,rfl⟩:=zBA.out (σ:=s') (l:=[(0,(.slice a ll.length c)),(7,(.slice (some ⟨g,0,none⟩) q.length lc)),(12,(.slice (some ⟨gg,0,none⟩) ak al)),(13,(.map (some bm))),(63,(.slice (some ⟨g,0,none⟩) q.length lc)),(64,(.int .i64 ((q.length:Nat):Int))),(65,(.int .i64 ((i2:Nat):Int))),(121,(.slice (some ⟨gg,0,none⟩) ak al)),(122,(.int .i64 ((kk:Nat):Int))),(129,(.slice aw (o1.length+1) ax))]) ⟨U 0 rfl,U 7 rfl,U 12 rfl,U 13 rfl,U 63 rfl,U 64 rfl,U 65 rfl,df,cn,a6,trivial⟩;clear U H;replace Mm:=Chg.keepM cm (fun h=>by have:=(a0.lt _ h).1;omega) (X0.keepM Mm);replace Bx:=Chg.keep cm (fun h=>by have:=d5 kk _ _ bd h;omega) (X0.keep Bx);have ch:=Chg.trans (Ext.chg X0) cm;replace E:=(E.ext X0).step cm (fun y hy h=>by have:=(a0.lt _ h).1;omega);obtain ⟨cf,am,dw⟩:=zIP (zBi (a5.on bb) ch (fun b hb hm=>a5.apo kk _ _ bd hm hb));have c0:=en.chg ch fun b h1 h2=>by subst h1;have:=(a0.lt _ h2).1;omega
             have dl:=Nat.le_trans fa ch.size;refine qV (zAH (b:=gg) (o:=0) (len:=ak) (cap:=al) (i:=kk) (o':=0+kk) rfl rfl rfl underlying50 zBm qO qO) ?_;have ar:=am;have ay:True:=trivial;refine zBr (b:=gg) (o:=0+kk) (c':=cf.setIfInBounds (0+kk) (.slice aw (o1.length+1) ax)) (v:=(.slice aw (o1.length+1) ax)) rfl rfl rfl zBm am qO (rfl) ?_;intro e6 bg;replace c0:=c0.chg bg.chg fun b h1 h2=>by subst h1;omega
             replace dl:=Nat.le_trans dl bg.chg.size;replace ay:=bg;replace Mm:=bg.keepM qO Mm;replace E:=bg.step E qQ;replace am:=bg.blk;have fc:=a5.grow bb bd ag (x:=(c1,hi)) (v':=.slice aw (o1.length+1) ax) (by rw[a6] at b0;simpa[zBh] using b0) ch (by rw[a6,e0] at bs;exact bs) ar (by simpa using ay);refine zAB (zAS (zAC (zAN (qV (zAy rfl rfl (zBV qO)) (qM _ rfl (zAB (zAC ?_)))))));exact ⟨p.length - (i2+1),qO,i2+1,bj,ad.set kk (o1++[(c1,hi)]),cg.set kk (.slice aw (o1.length+1) ax),some ⟨gg,0,none⟩,al,ak,zBA.out ⟨rfl,rfl,rfl,rfl,rfl,rfl,rfl,trivial⟩,E,Mm,(by rw[er];exact hG.step hP bc dy di de bp a9 ag),qO,fc,(by simp;omega),c0,dl,rfl⟩
      ·have dm:i2=p.length:=qO
       have a4:=hG;rw[dm] at a4;have c4:=hC.join;have b9:=hG.cnt;have dt:=hG.len;refine zAp (zAX (zAX (zAj (zAC (zAK (zAA (qM _ rfl (qV (zAM underlying50 rfl) (qM _ rfl (zAB (zAT (zAq (fun nn_ σ cj=>∃(k3:Nat) (cs:List (List Sp)) (us:List Value),(∃jj_,σ=zCH jj_ [(12,(.slice oa on oc)),(133,(I6 (on:Int))),(134,(I6 (k3:Int)))])∧Chg zAo w0 cj∧(k3≤aa.length)∧(JSt cj n1 (.slice oa on oc) us aa cs k3)∧(∀c∈cs,c.length≤16)∧(n1≤cj.heap.size)∧nn_=aa.length - k3) (n:=aa.length - 0) ?_ ?_))))))))))))
       ·exact ⟨0,[],vs,zBA.out ⟨rfl,rfl,rfl,trivial⟩,E,Nat.zero_le _,c4,qP,cw,rfl⟩
       ·clear E;rintro _ _ cj ⟨k3,cs,us,⟨j30,rfl⟩,E,ew,hJ,b5,eh,rfl⟩;refine zAA (qV (zBH rfl rfl) (zAB (zAK (qC rfl (fun ba=>?_) (fun ba=>?_)))))
        ·obtain ⟨o1,ag⟩:=zAU (l:=aa) (i:=k3) qO;obtain ⟨u1,bv⟩:=zAU (l:=us) (i:=k3) (by have:=hJ.len;omega);obtain ⟨⟨ua,uc,rfl⟩,c7⟩:=hJ.rst k3 u1 o1 (Nat.le_refl _) bv ag;have aq:=hJ.o;rw[←ap] at aq;obtain ⟨gg,rfl,ea,dn⟩:=zCn aq qO;have a1:=aq.lt gg rfl;have c3:=(a4.ok k3 o1 ag);refine zAP (zAC (zAK (zAT (zAA (qM _ rfl (qA _ rfl (zAB (zAA (qM _ rfl (qM _ rfl (qM _ rfl (qM _ rfl (qV (zAH (b:=gg) (o:=0) (len:=on) (cap:=oc) (i:=k3) (o':=0+k3) rfl rfl rfl underlying50 zBm qO qO) (qV (zAL (v:=(.slice ua o1.length uc)) rfl zBe ((by have h1:=(aq.cells (g:=gg) rfl) k3 _ bv;rwa [Addr.add_lit] at h1))) (qE rfl (zAV func149 zWl zXV rfl) (zTm _ _ o1 c7.at qO c3.1) ?_)))))))))))))));rintro _ et ⟨⟨j1,bw,⟨⟨ja,jc,rfl⟩,ds⟩⟩,a2⟩;replace E:=E.ext a2;obtain ⟨cf,am,dw⟩:=zIP (zAn aq a2);refine qV (zAH (b:=gg) (o:=0) (len:=on) (cap:=oc) (i:=k3) (o':=0+k3) rfl rfl rfl underlying50 zBm qO qO) ?_;have ar:=am;have ay:True:=trivial;refine zBr (b:=gg) (o:=0+k3) (c':=cf.setIfInBounds (0+k3) (.slice ja j1.length jc)) (v:=(.slice ja j1.length jc)) rfl rfl rfl zBm am qO (rfl) ?_;intro ey cq;replace ay:=cq;replace E:=cq.step E qQ;replace am:=cq.blk;refine zAB (zAA (qM _ rfl (qM _ rfl (qV (zAH (b:=gg) (o:=0) (len:=on) (cap:=oc) (i:=k3) (o':=0+k3) rfl rfl rfl underlying50 zBm qO qO) (qV (zAL rfl zBe (am.cell (by rw[Array.getElem?_setIfInBounds_self_of_lt qO]))) ?_)))));refine qV (zAM underlying22 rfl) (qV (zCN rfl rfl) (zAB (qC rfl (fun cx=>?_) (fun cx=>?_))))
         ·refine zAA (qA _ rfl (qA _ rfl (zAB (zAR (zAZ (zAI (zAI (zAZ (zAI (zCK results103 (v:=(.slice none 0 0)) (v':=(.int .i64 2)) rfl rfl ?_))))))))));obtain ⟨cF,c9,da⟩:=zLt a4 hP ag bw qO;exact ⟨⟨[],2,.inr ⟨bl,cF,c9,.inl ⟨da,rfl,rfl⟩⟩,none,0,rfl,zDP _⟩,E⟩
         ·refine zAP (zAS (zAC (zAN (qV (zAy rfl rfl (zBV qO)) (qM _ rfl (zAB (zAC ?_)))))));exact ⟨aa.length - (k3+1),qO,k3+1,cs++[j1],us.set k3 (.slice ja j1.length jc),zBA.out ⟨rfl,rfl,rfl,trivial⟩,E,qO,(by have hS:=JSt.step (hJ.ext a2) ap ag (⟨⟨_,_,rfl⟩,ds⟩:zPR _ _ _ j1) a1.2 bw ar (by simpa using ay);exact hS),(fun c hc=>by rcases List.mem_append.1 hc with h1|h1;exact b5 c h1;rw[List.mem_singleton] at h1;subst h1;omega),(by have:=a2.size;have:=ay.chg.size;omega),rfl⟩
        ·have ai:k3=aa.length:=qO
         have ao:=a4.done hP (by rw[hJ.cl,ai]) hJ.jn;have av:=hJ.done ai;have au:cs.length=on:=by rw[hJ.cl,ai,ap]
         refine zAp (zAX (zAX (zAj (zAC (zAK (zAA (qM _ rfl (qV (zAM underlying50 rfl) (qV (zCN rfl rfl) (zAB (qC rfl (fun a7=>?_) (fun a7=>?_))))))))))))
         ·refine zAA (qA _ rfl (qA _ rfl (zAB (zAR (zAI (zCK results103 (v:=(.slice none 0 0)) (v':=(.int .i64 2)) rfl rfl ?_))))));exact ⟨⟨[],2,.inr ⟨bl,cs,ao,.inl ⟨.inr qO,rfl,rfl⟩⟩,none,0,rfl,zDP _⟩,E⟩
         ·refine zAP (zAC (zAA (qM _ rfl (qA _ rfl (qA _ rfl (zAB (zAR (zCK results103 (v:=(.slice oa on oc)) (v':=(.int .i64 0)) rfl rfl ?_))))))));rw[←au] at av;exact ⟨⟨cs,0,.inr ⟨bl,cs,ao,.inr ⟨fun dh=>by rcases dh with ⟨c,h1,h2⟩|h2;have:=b5 c h1;omega;omega,rfl,rfl⟩⟩,oa,oc,by rw[au],av⟩,E⟩
end Go.Proofs
namespace Go.Proofs
open Go Go.Eng Go.Sort
set_option maxRecDepth 100000
theorem zOQ (w0:World) (v fv:Value) (ll:List (List Sp)) (p:List Sp→Bool) (h:zBy w0 v ll) (hf:∀(w:World) (u:Value) (l:List Sp),Ext w0 w→zBQ w u l→zCD prog fv #[u] w fun r w'=>r=.bool (p l)∧Ext w w') :
  Ret prog 159 #[v,fv] w0 fun r w=>r=.int .i64 (idx p ll)∧Ext w0 w:=by
 obtain ⟨a,c,rfl,_,hle⟩:=h.form;refine qR func159 rfl ntmps159 rfl (fun E=>(zAA (qA _ rfl (zAB (zAK (zAA (qM _ rfl (qV (zAM underlying50 rfl) (qM _ rfl (zAB (zAT (zAq (fun nn_ σ W1=>∃(k:Nat),(∃jj_,σ=zCH jj_ [(0,(.slice a ll.length c)),(1,fv),(7,(I6 (ll.length:Int))),(8,(I6 (k:Int)))])∧Chg zAo w0 W1∧(k≤ll.length)∧(∀(i:Nat) (y:List Sp),i<k→ll[i]?=some y→p y=false)∧nn_=ll.length - k) (n:=ll.length - 0) ?_ ?_))))))))))))
 ·exact ⟨0,zBA.out ⟨rfl,rfl,rfl,rfl,trivial⟩,E,Nat.zero_le _,(fun i y h=>absurd h (Nat.not_lt_zero _)),rfl⟩
 ·clear E;rintro _ _ W1 ⟨k,⟨j1,rfl⟩,E,hk,ab,rfl⟩;refine zAA (qV (zBH rfl rfl) (zAB (zAK (qC rfl (fun ad=>?_) (fun ad=>?_)))))
  ·obtain ⟨l,hx⟩:=zAU (l:=ll) (i:=k) qO;obtain ⟨b,o,rfl,ac⟩:=zBz h qO;obtain ⟨ra,rc,aa,ae⟩:=ac k l hx;refine zAP (zAC (zAK (zAT (zAA (qM _ rfl (qA _ rfl (zAB (zAA (qM _ rfl (qM _ rfl (qM _ rfl (qV (zAH (b:=b) (o:=o) (len:=ll.length) (cap:=c) (i:=k) (o':=o+k) rfl rfl rfl underlying50 zBm qO qO) (qV (zAL rfl zBe (E.cell (fun f=>f) aa)) (zCZ qD rfl rfl (hf _ _ l E (ae.ext E)) ?_))))))))))))));rintro _ w9 ⟨rfl,X9⟩;replace E:=E.ext X9;refine zAB (zAt rfl (fun hp=>?_) (fun hp=>?_))
   ·have af:=hp;refine zAA (qM _ rfl (qA _ rfl (zAB (zAR (zAZ (zAI (zAI (zAZ (zAI (zAW results159 (v:=(.int .i64 ((k:Nat):Int))) rfl ?_))))))))));exact ⟨zBO (zHL hx hp ab).symm,E⟩
   ·have af:=hp;refine zAP (zAS (zAC (zAN (qV (zAy rfl rfl (zBV qO)) (qM _ rfl (zAB (zAC ?_)))))));exact ⟨ll.length - (k+1),qO,k+1,zBA.out ⟨rfl,rfl,rfl,rfl,trivial⟩,E,qO,zEi hx hp ab,rfl⟩
  ·have hkk:k=ll.length:=qO
   refine zAp (zAX (zAX (zAj (zAC (zAA (qA _ rfl (zAB (zAR (zAW results159 (v:=(.int .i64 (-1))) rfl ?_)))))))));exact ⟨zBO (zGY fun i y hy=>ab i y (by have:=zAa hy;omega) hy).symm,E⟩
noncomputable def leastP (ll:List (List Sp)):List Int:=if partE ll=0 then zWr ll else []
end Go.Proofs
namespace Go.Proofs
open Go Go.Eng Go.Sort
set_option maxRecDepth 100000
theorem zXK (w0:World) (v1 v2:Value) (l1 l2:List Bool) (h1:zFS w0 v1 l1) (h2:zFS w0 v2 l2) (hl:l1.length=l2.length) :
  Ret prog 86 #[v1,v2] w0 fun v w=>v=.bool (decide (l1=l2))∧Ext w0 w:=by
 obtain ⟨a1,c1,rfl⟩:=zBq.form h1;obtain ⟨a2,c2,rfl⟩:=zBq.form h2;have hb1:l1.length≤9223372036854775807:=by simpa using zBq.le h1
 simp only[List.length_map] at h1 h2⊢;refine qR func86 rfl ntmps86 rfl (fun E=>(zAA (qA _ rfl (zAB (zAK (zAA (qM _ rfl (qV (zAM underlying109 rfl) (qM _ rfl (zAB (zAT (zAq (fun nn_ σ W1=>∃(k:Nat),(∃jj_,σ=zCH jj_ [(0,(.slice a1 l1.length c1)),(1,(.slice a2 l2.length c2)),(7,(I6 (l1.length:Int))),(8,(I6 (k:Int)))])∧Chg zAo w0 W1∧(k≤l1.length)∧(∀(i:Nat),i<k→l1[i]?=l2[i]?)∧nn_=l1.length - k) (n:=l1.length - 0) ?_ ?_))))))))))))
 ·exact ⟨0,zBA.out ⟨rfl,rfl,rfl,rfl,trivial⟩,E,Nat.zero_le _,(fun i h=>absurd h (Nat.not_lt_zero _)),rfl⟩
 ·clear E;rintro _ _ W1 ⟨k,⟨j1,rfl⟩,E,hk,ac,rfl⟩;refine zAA (qV (zBH rfl rfl) (zAB (zAK (qC rfl (fun ae=>?_) (fun ae=>?_)))))
  ·obtain ⟨p,hp⟩:=zAU (l:=l1) (i:=k) (by omega);obtain ⟨q,hq⟩:=zAU (l:=l2) (i:=k) (by omega);obtain ⟨b1,o1,rfl,af⟩:=zGH h1 (by omega);obtain ⟨b2,o2,rfl,ad⟩:=zGH h2 (by omega);refine zAP (zAC (zAK (zAT (zAA (qM _ rfl (qA _ rfl (zAB (zCs 8 mixed (by kernel_rfl) ?_))))))));intro w3 X3 _;replace E:=E.ext X3;refine qT (zAi rfl) (qT (zAi rfl) (qT (zAH (b:=b1) (o:=o1) (len:=l1.length) (cap:=c1) (i:=k) (o':=o1+k) rfl rfl rfl underlying109 zNG (by omega) (by omega)) (qT (zAL rfl zHm (E.cell (fun f=>f) (af k p hp))) (qT (zAi rfl) (qT (zAi rfl) (qT (zAH (b:=b2) (o:=o2) (len:=l2.length) (cap:=c2) (i:=k) (o':=o2+k) rfl rfl rfl underlying109 zNG (by omega) (by omega)) (qT (zAL rfl zHm (E.cell (fun f=>f) (ad k q hq))) (zEO (qV (zLK underlying4 rfl rfl) (zAB (zAt rfl (fun aa=>?_) (fun aa=>?_))))))))))))
   ·have ab:=aa;refine zAA (qA _ rfl (zAB (zAR (zAZ (zAI (zAI (zAZ (zAI (zAW results86 (v:=(.bool false)) rfl ?_)))))))));exact ⟨zAx (by symm;rw[decide_eq_false_iff_not];intro h;subst h;rw[hp] at hq;cases hq;simp at aa),E⟩
   ·have ab:=aa;refine zAP (zAS (zAC (zAN (qV (zAy rfl rfl (zBV (by omega))) (qM _ rfl (zAB (zAC ?_)))))));exact ⟨l1.length - (k+1),by omega,k+1,zBA.out ⟨rfl,rfl,rfl,rfl,trivial⟩,E,(by omega),(fun i hi=>by rcases Nat.lt_or_ge i k with h|h;exact ac i h;obtain rfl:i=k:=(by omega);rw[hp,hq];simpa using aa),rfl⟩
  ·refine zAp (zAX (zAX (zAj (zAC (zAA (qM _ rfl (qV (zAM underlying109 rfl) (qM _ rfl (qV (zAM underlying109 rfl) (qV (zAk rfl rfl) (qA _ rfl (zAB (zAR (zAW results86 (v:=(.bool (decide ((((l1.length:Nat):Int):Int)=((l2.length:Nat):Int))))) rfl ?_))))))))))))));exact ⟨zAx (by rw[decide_eq_true (show ((l1.length:Nat):Int)=((l2.length:Nat):Int) by omega)];symm;rw[decide_eq_true_eq];apply List.ext_getElem?;intro i;rcases Nat.lt_or_ge i l1.length with h|h;exact ac i (by omega);rw[List.getElem?_eq_none h,List.getElem?_eq_none (by omega)]),E⟩
def zTy (m:List Bool):Nat×List Value:=(m.length,m.map Value.bool)
def zVv (l:List Sp):Nat×List Value:=(l.length,(l.map zBh).flatten)
theorem LSt.spss {w:World} {base:Nat} {vo:Value} {vs:List Value} {ll:List (List Sp)} (h:LSt TSs TSp 2 w base vo vs (ll.map zVv)):zBy w vo ll:=by
 have hl:vs.length=ll.length:=by simpa using h.len
 refine ⟨vs,?_,hl,fun i u l hu hl=>?_⟩
 ·have ho:=h.o;rw[show vs=(vs.map fun x=>[x]).flatten by simp[List.flatten_eq_flatMap,List.flatMap_map]] at ho;exact zDC ho (by intro r hr;simp only[List.mem_map] at hr;obtain ⟨x,_,rfl⟩:=hr;rfl) (by simp[hl]) qD
 ·have h1:=h.inn i u (zVv l) hu (by rw[List.getElem?_map,hl];rfl);exact zPR.at ⟨zAw h1,h1⟩
theorem zVb (w0:World) (b1 b2:Nat) (v u:Value) (ll:List (List Sp)) (m:List Bool) (r:Int) (hB1:Blk w0 b1 #[v] 50) (hB2:Blk w0 b2 #[u] 109) (h:zBy w0 v ll) (hm:zFS w0 u m) (hl:m.length=ll.length) :
  Ret prog 88 #[.int .i64 r,.pointer (some ⟨b1,0,none⟩),.pointer (some ⟨b2,0,none⟩)] w0 fun v w=>v=.bool (decide (zBI ll r=m))∧Ext w0 w:=by
 obtain ⟨a,c,rfl,_,hle⟩:=h.form;obtain ⟨a2,c2,rfl⟩:=zBq.form hm;simp only[List.length_map] at hm hB2;refine qR func88 rfl ntmps88 rfl (fun E=>(zAA (qA _ rfl (zAB (zAK (zAA (qV (zAL rfl zGa (hB1.cell rfl)) (qV (zAM underlying50 rfl) (qM _ rfl (zAB (zAT (zAq (fun nn_ σ W1=>∃(k:Nat),(∃jj_,σ=zCH jj_ [(0,(I6 r)),(1,(P6 b1 0)),(2,(P6 b2 0)),(7,(I6 (ll.length:Int))),(8,(I6 (k:Int)))])∧Chg zAo w0 W1∧Blk W1 b1 #[(.slice a ll.length c)] 50∧Blk W1 b2 #[(.slice a2 m.length c2)] 109∧(k≤ll.length)∧(∀(i:Nat),i<k→(zBI ll r)[i]?=m[i]?)∧nn_=ll.length - k) (n:=ll.length - 0) ?_ ?_))))))))))))
 ·exact ⟨0,zBA.out ⟨rfl,rfl,rfl,rfl,rfl,trivial⟩,E,hB1,hB2,Nat.zero_le _,(fun i h=>absurd h (Nat.not_lt_zero _)),rfl⟩
 ·clear E hB1 hB2;rintro _ _ W1 ⟨k,⟨j1,rfl⟩,E,hB1,hB2,hk,af,rfl⟩;refine zAA (qV (zBH rfl rfl) (zAB (zAK (qC rfl (fun ai=>?_) (fun ai=>?_)))))
  ·obtain ⟨l,hx⟩:=zAU (l:=ll) (i:=k) qO;obtain ⟨q,hq⟩:=zAU (l:=m) (i:=k) qO;have ae:(zBI ll r)[k]?=some (inS l r):=by unfold zBI;rw[List.getElem?_map,hx];rfl
   obtain ⟨b,o,rfl,ah⟩:=zBz h qO;obtain ⟨b',o',rfl,ar⟩:=zGH hm qO;obtain ⟨ra,rc,ab,av⟩:=ah k l hx;refine zAP (zAC (zAK (zAT (zAA (qM _ rfl (qA _ rfl (zAB (zAK ?_))))))));obtain ⟨aq,aa⟩:∃Fs:List Fact,Fs=[.eq (.slice (some ⟨b,o,none⟩) ll.length c),.eq (I6 (k:Int)),.eq (.pointer (some ⟨b,o+k,none⟩)),.eq (.slice ra l.length rc),.eq (I6 r),.eq (.bool (inS l r)),.eq (.slice (some ⟨b',o',none⟩) m.length c2),.eq (I6 (k:Int)),.eq (.pointer (some ⟨b',o'+k,none⟩)),.eq (.bool q),.eq (.bool (inS l r != q))]:=⟨_,rfl⟩;refine zEA [11,12,13,14,15,16,17,18,19,20,21] [[],[],[0,1],[2],[],[3,4],[],[],[6,7],[8],[5,9]] aq aa mixed qK qK ?_ ?_
   ·intro wd X0;refine DagSteps.cons (fun s' w' X U H=>Or.inl ⟨?_,?_⟩) ?_
    ·exact zAD rfl
    ·exact zAJ (zAL (U 1 rfl) zGa (((X0.trans X).keep hB1).cell rfl)) (Ext.refl _) rfl
    refine DagSteps.cons (fun s' w' X U H=>Or.inl ⟨?_,?_⟩) ?_
    ·exact zAD rfl
    ·exact zAJ (zAi (U 5 rfl)) (Ext.refl _) rfl
    refine DagSteps.cons (fun s' w' X U H=>Or.inl ⟨?_,?_⟩) ?_
    ·exact zAD rfl
    ·have aw:s' 11=(.slice (some ⟨b,o,none⟩) ll.length c):=H 0 rfl 11 (.eq (.slice (some ⟨b,o,none⟩) ll.length c)) rfl (by rw[aa];rfl);have au:s' 12=(.int .i64 ((k:Nat):Int)):=H 1 rfl 12 (.eq (.int .i64 ((k:Nat):Int))) rfl (by rw[aa];rfl);exact zAJ (zAH (i:=k) aw au rfl underlying50 zBm qO qO) (Ext.refl _) rfl
    refine DagSteps.cons (fun s' w' X U H=>Or.inl ⟨?_,?_⟩) ?_
    ·exact zAD rfl
    ·have am:s' 13=(.pointer (some ⟨b,o+k,none⟩)):=H 2 rfl 13 (.eq (.pointer (some ⟨b,o+k,none⟩))) rfl (by rw[aa];rfl);exact zAJ (zAL am zBe ((Chg.ext E (X0.trans X)).cell (fun f=>f) ab)) (Ext.refl _) rfl
    refine DagSteps.cons (fun s' w' X U H=>Or.inl ⟨?_,?_⟩) ?_
    ·exact zAD rfl
    ·exact zAJ (zAi (U 0 rfl)) (Ext.refl _) rfl
    refine DagSteps.cons (fun s' w' X U H=>Or.inl ⟨?_,?_⟩) ?_
    ·exact zAD rfl
    ·have al:s' 14=(.slice ra l.length rc):=H 3 rfl 14 (.eq (.slice ra l.length rc)) rfl (by rw[aa];rfl);have ak:s' 15=(.int .i64 r):=H 4 rfl 15 (.eq (.int .i64 r)) rfl (by rw[aa];rfl);exact zAs (zAV func85 zYH zZN (zHG al ak)) (zMf _ _ l r (av.ext (Chg.ext E (X0.trans X))))
    refine DagSteps.cons (fun s' w' X U H=>Or.inl ⟨?_,?_⟩) ?_
    ·exact zAD rfl
    ·exact zAJ (zAL (U 2 rfl) zMj (((X0.trans X).keep hB2).cell rfl)) (Ext.refl _) rfl
    refine DagSteps.cons (fun s' w' X U H=>Or.inl ⟨?_,?_⟩) ?_
    ·exact zAD rfl
    ·exact zAJ (zAi (U 5 rfl)) (Ext.refl _) rfl
    refine DagSteps.cons (fun s' w' X U H=>Or.inl ⟨?_,?_⟩) ?_
    ·exact zAD rfl
    ·have ao:s' 17=(.slice (some ⟨b',o',none⟩) m.length c2):=H 6 rfl 17 (.eq (.slice (some ⟨b',o',none⟩) m.length c2)) rfl (by rw[aa];rfl);have aj:s' 18=(.int .i64 ((k:Nat):Int)):=H 7 rfl 18 (.eq (.int .i64 ((k:Nat):Int))) rfl (by rw[aa];rfl);exact zAJ (zAH (i:=k) ao aj rfl underlying109 zNG qO qO) (Ext.refl _) rfl
    refine DagSteps.cons (fun s' w' X U H=>Or.inl ⟨?_,?_⟩) ?_
    ·exact zAD rfl
    ·have ap:s' 19=(.pointer (some ⟨b',o'+k,none⟩)):=H 8 rfl 19 (.eq (.pointer (some ⟨b',o'+k,none⟩))) rfl (by rw[aa];rfl);exact zAJ (zAL ap zHm ((Chg.ext E (X0.trans X)).cell (fun f=>f) (ar k q hq))) (Ext.refl _) rfl
    refine DagSteps.cons (fun s' w' X U H=>Or.inl ⟨?_,?_⟩) ?_
    ·exact zAD rfl
    ·have ag:s' 16=(.bool (inS l r)):=H 5 rfl 16 (.eq (.bool (inS l r))) rfl (by rw[aa];rfl);have an:s' 20=(.bool q):=H 9 rfl 20 (.eq (.bool q)) rfl (by rw[aa];rfl);exact zAJ (zLK underlying4 ag an) (Ext.refl _) rfl
    exact DagSteps.nil
   ·intro s' w3 X3 U H;obtain ⟨j3,rfl⟩:=zBA.out (σ:=s') (l:=[(0,(.int .i64 r)),(1,(.pointer (some ⟨b1,0,none⟩))),(2,(.pointer (some ⟨b2,0,none⟩))),(7,(.int .i64 ((ll.length:Nat):Int))),(8,(.int .i64 ((k:Nat):Int))),(21,(.bool (inS l r != q)))]) ⟨U 0 rfl,U 1 rfl,U 2 rfl,U 7 rfl,U 8 rfl,(show s' 21=(.bool (inS l r != q)) from H 10 21 (.eq (.bool (inS l r != q))) rfl (by rw[aa];rfl)),trivial⟩;clear U H;replace hB1:=X3.keep hB1;replace hB2:=X3.keep hB2;replace E:=E.ext X3;refine zAC (zAt rfl (fun ac=>?_) (fun ac=>?_))
    ·have ad:=ac;refine zAA (qA _ rfl (zAB (zAR (zAZ (zAI (zAI (zAZ (zAI (zAW results88 (v:=(.bool false)) rfl ?_)))))))));exact ⟨zAx (by symm;rw[decide_eq_false_iff_not];intro h;rw[h,hq] at ae;cases ae;simp at ac),E⟩
    ·have ad:=ac;refine zAP (zAS (zAC (zAN (qV (zAy rfl rfl (zBV qO)) (qM _ rfl (zAB (zAC ?_)))))));exact ⟨ll.length - (k+1),qO,k+1,zBA.out ⟨rfl,rfl,rfl,rfl,rfl,trivial⟩,E,hB1,hB2,qO,(fun i hi=>by rcases Nat.lt_or_ge i k with h|h;exact af i h;obtain rfl:i=k:=qO;rw[ae,hq];simpa using ac),rfl⟩
  ·refine zAp (zAX (zAX (zAj (zAC (zAA (qA _ rfl (zAB (zAR (zAW results88 (v:=(.bool true)) rfl ?_)))))))));exact ⟨zAx (by symm;rw[decide_eq_true_eq];apply List.ext_getElem?;intro i;rcases Nat.lt_or_ge i ll.length with h|h;exact af i qO;rw[List.getElem?_eq_none (by simpa[zBI] using h),List.getElem?_eq_none qO]),E⟩
theorem zSx {l:List Sp} {p:List Int} {f:Int→Bool} (hP:zEE l p) (hok:∀s∈l,vSp s) (hc:zME f p):∃ou,zEF ou f:=by
  have ab:∀k,k≤p.length→∃ou,CInv p f ou k:=by
    intro k
    induction k with
    | zero=>exact fun _=>⟨[],CInv.start hP hok⟩
    | succ k ih=>
      intro hk;obtain ⟨ou,h⟩:=ih qO;obtain ⟨lo,aa⟩:=zAU (l:=p) (i:=k) qO;cases hf:f lo with
      | false=>exact ⟨ou,h.skip hP hok hc aa hf⟩
      | true=>exact ⟨_,h.take hP hok hc aa hf⟩
  obtain ⟨ou,h⟩:=ab p.length (Nat.le_refl _);exact ⟨ou,h.done⟩
theorem zPm {l:List Sp} {p:List Int} (ll:List (List Sp)) (hP:zEE l p) (hok:∀s∈l,vSp s) (hl:l=ll.flatten):∀ks:List (List Bool),∃cs:List (List Sp),cs.length=ks.length∧∀(k:Nat) key c,ks[k]?=some key→cs[k]?=some c→zEF c (fun r=>decide (zBI ll r=key))
  | []=>⟨[],rfl,fun k key c h=>by simp at h⟩
  | m::ks=>by
    obtain ⟨c,hc⟩:=zSx hP hok (zJW (hl▸hP) m);obtain ⟨cs,h1,h2⟩:=zPm ll hP hok hl ks;refine ⟨c::cs,by simp[h1],fun k key d hk hd=>?_⟩;cases k with
    | zero=>simp at hk hd;subst hk;subst hd;exact hc
    | succ k=>exact h2 k key d (by simpa using hk) (by simpa using hd)
theorem zTB {ll:List (List Sp)} {p:List Int} {k:Nat} {key:List Bool} {c:List Sp} (hP:zEE ll.flatten p) (hok:∀s∈ll.flatten,vSp s) (hk:(zDF (p.map (zBI ll)))[k]?=some key) (hc:zEF c (fun r=>decide (zBI ll r=key))) (hl:16<c.length):∃cs,zPQ ll cs∧zLU cs:=by
 obtain ⟨cs,h1,h2⟩:=zPm ll hP hok rfl (zDF (p.map (zBI ll)));refine ⟨cs,⟨p,hP,h1,h2⟩,.inl ?_⟩;obtain ⟨d,hd⟩:=zAU (l:=cs) (i:=k) (by have:=zAa hk;omega);refine ⟨d,List.mem_of_getElem? hd,?_⟩;rw[zEF.eq (h2 k key d hk hd) hc fun _ _ _=>rfl];exact hl
theorem zPl {ll cs:List (List Sp)} {ks:List (List Bool)} {k:Nat} {mk:List Bool} {out:List Sp} (h:∀(j:Nat) key d,ks[j]?=some key→cs[j]?=some d→zEF d (fun r=>decide (zBI ll r=key))) (hcl:cs.length=k) (hmk:ks[k]?=some mk) (hI:zEF out (fun r=>decide (zBI ll r=mk))) :
  ∀(j:Nat) key d,ks[j]?=some key→(cs++[out])[j]?=some d→zEF d (fun r=>decide (zBI ll r=key)):=by
 intro j key d hj hd;rcases Nat.lt_or_ge j cs.length with h1|h1
 ·rw[List.getElem?_append_left h1] at hd;exact h j key d hj hd
 ·rw[List.getElem?_append_right h1] at hd;have h2:=zAa hd;simp at h2;obtain rfl:j=k:=qO
  rw[hcl,Nat.sub_self] at hd;simp at hd;rw[hmk] at hj;cases hj;subst hd;exact hI
theorem zSs {m mk:List Bool} {l:List (List Bool)} (h:decide (m∈l)=false):decide (mk=m)=decide (m∈l++[mk]):=by
 have h9:=of_decide_eq_false h;rw[decide_eq_decide,List.mem_append,List.mem_singleton];constructor
 ·exact fun e=>.inr e.symm
 ·rintro (h1|h1)
  ·exact absurd h1 h9
  ·exact h1.symm
theorem zZL (w0:World) (v:Value) (ll:List (List Sp)) (h:zBy w0 v ll) (hL:ll.flatten.length≤1048576) (hL2:ll.length≤1048576) :
  Ret prog 30 #[v] w0 fun r w=>(∃out e,zJp ll out e∧zUB w r out e)∧Ext w0 w:=by
 obtain ⟨a,c,rfl,_,hle⟩:=h.form;obtain ⟨base,bv⟩:∃base,base=w0.heap.size:=⟨_,rfl⟩;refine qR func30 rfl ntmps30 rfl (fun E=>(zAA (zBL (v:=(.slice a ll.length c)) (c:=#[(.slice a ll.length c)]) qD rfl rfl ?_)));intro bs ws Ns;have Fs:=Ns.ge E;replace E:=E.ext Ns.ext;have Bs:=Ns.blk;refine qA _ rfl (qA _ rfl (zAB (zAK (zAA (qV (zAL rfl zGa (Bs.cell rfl)) (qV (zAM underlying50 rfl) (qM _ rfl (zAB (zAT (zAq (fun nn_ σ W1=>∃(k:Nat),(∃jj_,σ=zCH jj_ [(1,(P6 bs 0)),(20,(.slice a ll.length c)),(21,(I6 (ll.length:Int))),(22,(I6 (k:Int)))])∧Chg zAo w0 W1∧Blk W1 bs #[(.slice a ll.length c)] 50∧(k≤ll.length)∧(∀l∈ll.take k,zBR l=0)∧nn_=ll.length - k) (n:=ll.length - 0) ?_ ?_))))))))))
 ·exact ⟨0,zBA.out ⟨rfl,rfl,rfl,rfl,trivial⟩,E,Bs,Nat.zero_le _,qP,rfl⟩
 ·clear E Bs;rintro _ _ W1 ⟨k,⟨j1,rfl⟩,E,Bs,hk,hz,rfl⟩;refine zAA (qV (zBH rfl rfl) (zAB (zAK (qC rfl (fun ck=>?_) (fun ck=>?_)))))
  ·obtain ⟨l,hx⟩:=zAU (l:=ll) (i:=k) qO;obtain ⟨b,o,rfl,ar⟩:=zBz h qO;obtain ⟨ra,rc,ah,au⟩:=ar k l hx;refine zAP (zAC (zAK (zAT (zAA (qV (zAH (b:=b) (o:=o) (len:=ll.length) (cap:=c) (i:=k) (o':=o+k) rfl rfl rfl underlying50 zBm qO qO) (qV (zAL rfl zBe (E.cell (fun f=>f) ah)) (qA _ rfl (zAB (zAA (qM _ rfl (qE rfl (zAV func83 zYI zZO rfl) (zRG _ _ l (au.ext E)) ?_)))))))))));rintro _ w9 ⟨rfl,X9⟩;replace Bs:=X9.keep Bs;replace E:=E.ext X9;refine qA _ rfl (zAB (zAA (qM _ rfl (qV (zBo rfl rfl) (zAB (qC rfl (fun hc=>?_) (fun hc=>?_)))))))
   ·refine zAA (qM _ rfl (qA _ rfl (qA _ rfl (zAB (zAR (zAZ (zAI (zAI (zAZ (zAI (zCK results30 (v:=(.slice none 0 0)) (v':=(.int .i64 (zBR l))) rfl rfl ?_)))))))))));exact ⟨⟨[],zBR l,.inl ⟨by rw[zIn hz hx hc];exact hc,(zIn hz hx hc).symm,rfl⟩,none,0,rfl,zDP _⟩,E⟩
   ·refine zAP (zAS (zAC (zAN (qV (zAy rfl rfl (zBV qO)) (qM _ rfl (zAB (zAC ?_)))))));exact ⟨ll.length - (k+1),qO,k+1,zBA.out ⟨rfl,rfl,rfl,rfl,trivial⟩,E,Bs,qO,(fun y hy=>by rw[zCP hx] at hy;rcases List.mem_append.1 hy with h1|h1;exact hz y h1;rw[List.mem_singleton] at h1;subst h1;omega),rfl⟩
  ·have cf:k=ll.length:=qO
   rw[cf,List.take_length] at hz;have bk:=zIm hz;have a9:∀s∈ll.flatten,vSp s:=fun s hs=>by obtain ⟨l,hl,hs⟩:=List.mem_flatten.1 hs;exact (zHd (hz l hl)).1.ok s hs
   refine zAp (zAX (zAX (zAj (zAC (zAA (qA _ rfl (zAB (zAK (zAA (qV (zAL rfl zGa (Bs.cell rfl)) (qE rfl (zAV func84 zaS zaf rfl) (zNX _ _ ll (h.ext E) qO a9) ?_)))))))))));rintro _ w9 ⟨⟨p,hP,⟨pa,pc,rfl⟩,hp⟩,X9⟩;replace Bs:=X9.keep Bs;replace E:=E.ext X9;obtain ⟨n1,b2⟩:∃n1,n1=(w9).heap.size:=⟨_,rfl⟩;have ct:bs<n1:=by have:=Bs.lt;omega
   have b6:w0.heap.size≤n1:=by have:=E.size;omega
   have hpl:p.length≤1114112:=zMU hP.1 (fun x hx=>zCQ hP a9 hx);have E1:Chg zAo w9 w9:=Chg.refl _ _;refine qV (zAM underlying26 rfl) (qM _ rfl (zAB (zAT (zAq (fun nn_ σ W4=>∃(i:Nat) (ks:List (List Bool)) (vs:List Value) (oa:Option Addr) (oc on:Nat),(∃jj_,σ=zCH jj_ [(1,(P6 bs 0)),(33,(.slice pa p.length pc)),(34,(I6 (p.length:Int))),(35,(I6 (i:Int))),(7,(.slice oa on oc))])∧Chg zAo w0 W4∧Chg zAo w9 W4∧Blk W4 bs #[(.slice a ll.length c)] 50∧(i≤p.length)∧(ks=zDF ((p.take i).map (zBI ll)))∧(∀m∈ks,m.length=ll.length)∧(on=ks.length)∧(on≤i)∧(LSt TBs TB 1 W4 n1 (.slice oa on oc) vs (ks.map zTy))∧(n1≤W4.heap.size)∧nn_=p.length - i) (n:=p.length - 0) ?_ ?_))))
   ·exact ⟨0,[],[],none,0,0,zBA.out ⟨rfl,rfl,rfl,rfl,rfl,trivial⟩,E,E1,Bs,Nat.zero_le _,rfl,(fun m h=>absurd h List.not_mem_nil),rfl,Nat.le_refl _,LSt.start _ _ _ _ _,qO,rfl⟩
   ·clear E E1 Bs;rintro _ _ W4 ⟨i,ks,vs,oa,oc,on,⟨j4,rfl⟩,E,E1,Bs,hi,ax,a8,ba,hki,hC,hbs,rfl⟩;refine zAA (qV (zBH rfl rfl) (zAB (zAK (qC rfl (fun bq=>?_) (fun bq=>?_)))))
    ·obtain ⟨x,hx⟩:=zAU (l:=p) (i:=i) qO;obtain ⟨pb,po,rfl,b7⟩:=zBu (l:=p) (hp.ext E1) qO;obtain ⟨z0,cv⟩:∃z0,z0=(W4).heap.size:=⟨_,rfl⟩;have bp:n1≤z0:=qO
     have cm:bs<z0:=by have:=Bs.lt;omega
     have hbz:w0.heap.size≤z0:=by have:=E.size;omega
     have E6:Chg zAo W4 W4:=Chg.refl _ _;refine zAP (zAC (zAK (zAT (zAA (qV (zAH (b:=pb) (o:=po) (len:=p.length) (cap:=pc) (i:=i) (o':=po+i) rfl rfl rfl underlying26 zAv qO qO) (qV (zAL rfl zAf (b7 i x hx)) (qA _ rfl (zAB (zAA (qA _ rfl (zAB (zAK (zAA (qV (zAL rfl zGa (Bs.cell rfl)) (qV (zAM underlying50 rfl) (qM _ rfl (zAB (zAT (zAq (fun nn_ σ W6=>∃(e:Nat) (ma:Option Addr) (mc:Nat),(∃jj_,σ=zCH jj_ [(1,(P6 bs 0)),(7,(.slice oa on oc)),(9,(I6 x)),(33,(.slice (some ⟨pb,po,none⟩) p.length pc)),(34,(I6 (p.length:Int))),(35,(I6 (i:Int))),(39,(.slice a ll.length c)),(40,(I6 (ll.length:Int))),(41,(I6 (e:Int))),(10,(.slice ma e mc))])∧Chg zAo w0 W6∧Chg zAo w9 W6∧Chg zAo W4 W6∧Blk W6 bs #[(.slice a ll.length c)] 50∧(e≤ll.length)∧(W6.ownsRow z0 TB 1 (.slice ma e mc) e ((zBI (ll.take e) x).map Value.bool))∧(z0≤W6.heap.size)∧nn_=ll.length - e) (n:=ll.length - 0) ?_ ?_)))))))))))))))))))
     ·exact ⟨0,none,0,zBA.out ⟨rfl,rfl,rfl,rfl,rfl,rfl,rfl,rfl,rfl,rfl,trivial⟩,E,E1,E6,Bs,Nat.zero_le _,World.ownsRow_nil _ _ _ _,qO,rfl⟩
     ·clear E E1 E6 Bs;rintro _ _ W6 ⟨e,ma,mc,⟨j6,rfl⟩,E,E1,E6,Bs,he,hm,ap,rfl⟩;refine zAA (qV (zBH rfl rfl) (zAB (zAK (qC rfl (fun bb=>?_) (fun bb=>?_)))))
      ·obtain ⟨l,hl⟩:=zAU (l:=ll) (i:=e) qO;obtain ⟨b,o,rfl,ar⟩:=zBz h qO;obtain ⟨ra,rc,ah,au⟩:=ar e l hl;refine zAP (zAC (zAK (zAT (zAA (qV (zAH (b:=b) (o:=o) (len:=ll.length) (cap:=c) (i:=e) (o':=o+e) rfl rfl rfl underlying50 zBm qO qO) (qV (zAL rfl zBe (E.cell (fun f=>f) ah)) (qA _ rfl (zAB (zAN (qM _ rfl (qM _ rfl (qM _ rfl (qE rfl (zAV func85 zYH zZN rfl) (zMf _ _ l x (au.ext E)) ?_)))))))))))));rintro _ w51 ⟨rfl,av⟩;replace Bs:=av.keep Bs;replace hm:=zAn hm av;replace ap:=Nat.le_trans ap av.size;replace E:=E.ext av;replace E1:=E1.ext av;replace E6:=E6.ext av;refine zAh (ps:=[(0,(.bool (inS l x)))]) (c:=#[(.bool (inS l x))]) qD rfl underlying109 zNG zaO qD qD qK ?_;intro b8 w8 N8;have F8:=N8.ge E;have F8_E1:=N8.ge E1;have F8_E6:=N8.ge E6;have O8_bs:=N8.lt Bs;replace Bs:=N8.keep Bs;replace hm:=zAn hm N8.ext;replace ap:=Nat.le_trans ap N8.ext.size;replace E:=E.ext N8.ext;have B8:=N8.blk;replace E1:=E1.ext N8.ext;replace E6:=E6.ext N8.ext;refine zBC (base:=z0) (n:=e) (m:=1) (xs:=((zBI (ll.take e) x).map Value.bool)) (news:=[(.bool (inS l x))]) (size:=1) (bytes:=1) (v:=(.slice ma e mc)) qD underlying109 zNG byt4 zaO rfl qD rfl hm rfl (rfl) (B8.cells rfl) qS (by unfold maxLen;omega) qO (ap) ?_;intro v7 w59 bx a1 Dv7;replace Bs:=a1.keep (fun h=>by have:=(hm.lt _ h).1;omega) Bs;replace E:=E.step a1 (fun x hx h=>absurd (hm.lt x h).1 qO);replace E6:=E6.step a1 (fun x hx h=>absurd (hm.lt x h).1 qO);replace E1:=E1.step a1 (fun x hx h=>absurd (hm.lt x h).1 qO);obtain ⟨b4,cq,rfl⟩:=zAw bx;refine qA _ rfl (zAB (zAS (zAC (zAN (qV (zAy rfl rfl (zBV qO)) (qM _ rfl (zAB (zAC ?_))))))));exact ⟨ll.length - (e+1),qO,e+1,b4,cq,zBA.out ⟨rfl,rfl,rfl,rfl,rfl,rfl,rfl,rfl,rfl,rfl,trivial⟩,E,E1,E6,Bs,qO,(by rw[zCP hl];unfold zBI;rw[List.map_append,List.map_append];simpa[zBI] using bx),Nat.le_trans ap a1.size,rfl⟩
      ·have ay:e=ll.length:=qO
       rw[ay,List.take_length,←ay] at hm;have hmB:zFS W6 (.slice ma e mc) (zBI ll x):=zGT hm (by simp[zBI,ay]);have b9:=hC.ext E6;refine zAp (zAX (zAX (zAj (zAC (zAA (qA _ rfl (zAB (zAK (zAA (qM _ rfl (qV (zAM underlying107 rfl) (qM _ rfl (zAB (zAT (zAq (fun nn_ σ W9=>∃(k:Nat) (od:Bool),(∃jj_,σ=zCH jj_ [(1,(P6 bs 0)),(7,(.slice oa on oc)),(10,(.slice ma e mc)),(33,(.slice (some ⟨pb,po,none⟩) p.length pc)),(34,(I6 (p.length:Int))),(35,(I6 (i:Int))),(52,(.slice oa on oc)),(53,(I6 (on:Int))),(54,(I6 (k:Int))),(13,(.bool od))])∧Chg zAo w0 W9∧Chg zAo w9 W9∧Blk W9 bs #[(.slice a ll.length c)] 50∧(k≤ks.length)∧(od=decide (zBI ll x∈ks.take k))∧(LSt TBs TB 1 W9 n1 (.slice oa on oc) vs (ks.map zTy))∧(W9.ownsRow z0 TB 1 (.slice ma e mc) e ((zBI ll x).map Value.bool))∧(z0≤W9.heap.size)∧nn_=ks.length - k) (n:=ks.length - 0) ?_ ?_)))))))))))))))
       ·exact ⟨0,false,zBA.out ⟨rfl,rfl,rfl,rfl,rfl,rfl,rfl,rfl,rfl,rfl,trivial⟩,E,E1,Bs,Nat.zero_le _,qP,b9,hm,ap,rfl⟩
       ·clear E E1 Bs;rintro _ _ W9 ⟨k,od,⟨j9,rfl⟩,E,E1,Bs,hk2,az,ae,aw,al,rfl⟩;refine zAA (qV (zBH rfl rfl) (zAB (zAK (qC rfl (fun bl=>?_) (fun bl=>?_)))))
        ·obtain ⟨mk,am⟩:=zAU (l:=ks) (i:=k) qO;obtain ⟨u,hu⟩:=zAU (l:=vs) (i:=k) (by have:=ae.len;simp at this;omega);have a2:=ae.inn k u (zTy mk) hu (by rw[List.getElem?_map,am];rfl);obtain ⟨ua,uc,rfl⟩:=zAw a2;obtain ⟨gg,rfl,cp,bn⟩:=zCn (ae.on (by rw[List.length_map];exact ba)) qO;have aq:=a8 mk (List.mem_of_getElem? am);have bt:zFS W9 (.slice ua mk.length uc) mk:=zGT a2 rfl;have be:zFS W9 (.slice ma e mc) (zBI ll x):=zGT aw (by simp[zBI,ay]);refine zAP (zAC (zAK (zAT (zAA (qV (zAH (b:=gg) (o:=0) (len:=on) (cap:=oc) (i:=k) (o':=0+k) rfl rfl rfl underlying107 zKx qO qO) (qV (zAL rfl zMj ((by have h1:=bn k _ hu;exact h1))) (qA _ rfl (zAB (zAN (qM _ rfl (qM _ rfl ?_)))))))))));rcases Bool.eq_false_or_eq_true (od) with hg|hg
         ·have cy:=hg;refine zAE rfl rfl qD (v:=.bool true) (cbk hg) (Or.inl rfl) (zAE rfl rfl qD (v:=.bool true) (cbk hg) (Or.inl rfl) (zAE rfl rfl qD (v:=.bool true) (cbk hg) (Or.inl rfl) (qV (zAd (v:=(.bool true)) rfl (by rw[hg];rfl)) (qA _ rfl (zAB (zAS (zAC (zAN (qV (zAy rfl rfl (zBV qO)) (qM _ rfl (zAB (zAC ?_))))))))))));exact ⟨ks.length - (k+1),qO,k+1,true,zBA.out ⟨rfl,rfl,rfl,rfl,rfl,rfl,rfl,rfl,rfl,rfl,trivial⟩,E,E1,Bs,qO,(by rw[zCP am];symm;rw[decide_eq_true_eq];exact List.mem_append_left _ (of_decide_eq_true (az.symm.trans hg))),ae,aw,al,rfl⟩
         ·have cy:=hg;refine zAF rfl rfl qD (cbk hg) (qM _ rfl (zAF rfl rfl qD (cbk hg) (qM _ rfl (zAF rfl rfl qD (cbk hg) (qE rfl (zAV func86 nm86 bd86 rfl) (zXK _ _ _ mk (zBI ll x) bt be (by rw[aq];simp[zBI])) ?_)))));rintro _ cd ⟨rfl,ac⟩;replace Bs:=ac.keep Bs;replace E:=E.ext ac;replace E1:=E1.ext ac;refine qV (zAd (v:=(.bool (decide (mk=zBI ll x)))) rfl (by rw[hg];rfl)) (qA _ rfl (zAB (zAS (zAC (zAN (qV (zAy rfl rfl (zBV qO)) (qM _ rfl (zAB (zAC ?_)))))))));exact ⟨ks.length - (k+1),qO,k+1,decide (mk=zBI ll x),zBA.out ⟨rfl,rfl,rfl,rfl,rfl,rfl,rfl,rfl,rfl,rfl,trivial⟩,E,E1,Bs,qO,(by rw[zCP am];exact zSs (az.symm.trans hg)),ae.ext ac,zAn aw ac,Nat.le_trans al ac.size,rfl⟩
        ·have bd:k=ks.length:=qO
         rw[bd,List.take_length] at az;have bw:(p.take (i+1)).map (zBI ll)=(p.take i).map (zBI ll)++[zBI ll x]:=by rw[zCP hx,List.map_append];rfl
         refine zAp (zAX (zAX (zAj (zAC (zAA (qM _ rfl (qV (zCf rfl) (zAB (zAt rfl (fun aa=>?_) (fun aa=>?_))))))))))
         ·have a3:=aa;replace aa:=by simpa using aa
          have bc:od=false:=by simpa using aa
          have ab:on=(ks.map zTy).length:=by rw[List.length_map];exact ba
          have bf:zBI ll x∉ks:=of_decide_eq_false (az.symm.trans bc);refine zAN (qM _ rfl (qM _ rfl (zAh (ps:=[(0,(.slice ma e mc))]) (c:=#[(.slice ma e mc)]) qD rfl underlying107 zKx zPS qD qD qK ?_)));intro b13 w13 ak;have F13:=ak.ge E;have F13_E1:=ak.ge E1;have O13_bs:=ak.lt Bs;replace Bs:=ak.keep Bs;replace ae:=ae.ext ak.ext;replace aw:=zAn aw ak.ext;replace al:=Nat.le_trans al ak.ext.size;replace E:=E.ext ak.ext;have cg:=ak.blk;replace E1:=E1.ext ak.ext;refine zBC (base:=n1) (n:=on) (m:=1) (xs:=vs) (news:=[(.slice ma e mc)]) (size:=1) (bytes:=24) (v:=(.slice oa on oc)) qD underlying107 zKx zXJ zPS rfl qD rfl (ae.on ab) rfl (rfl) (cg.cells rfl) qS (by unfold maxLen;omega) qO (qO) ?_;intro v8 cu a7 aj bj;replace Bs:=aj.keep (fun h=>by have:=((ae.on ab).lt _ h).1;omega) Bs;replace E:=E.step aj (fun x hx h=>absurd ((ae.on ab).lt x h).1 qO);replace E1:=E1.step aj (fun x hx h=>absurd ((ae.on ab).lt x h).1 qO);obtain ⟨co,cw,rfl⟩:=zAw a7;have b1:=ae.push ab aw bp (fun k hk=>by have:=(hC.o.lt k hk).2;omega) a7 aj bj;refine qA _ rfl (zAB (zAS (zAC (zAN (qV (zAy rfl rfl (zBV qO)) (qM _ rfl (zAB (zAC ?_))))))));exact ⟨p.length - (i+1),qO,i+1,ks++[zBI ll x],vs++[.slice ma e mc],co,cw,on+1,zBA.out ⟨rfl,rfl,rfl,rfl,rfl,trivial⟩,E,E1,Bs,qO,(by rw[bw,zEq,←ax];unfold zMF;rw[if_neg bf]),(fun m hm=>by rcases List.mem_append.1 hm with h1|h1;exact a8 m h1;rw[List.mem_singleton] at h1;rw[h1];simp[zBI]),(by simp;omega),qO,(by rw[List.map_append];have h9:=b1;rw[show (e,(zBI ll x).map Value.bool)=zTy (zBI ll x) by unfold zTy;simp[zBI,ay]] at h9;exact h9),(by have:=aj.size;omega),rfl⟩
         ·have a3:=aa;replace aa:=by simpa using aa
          refine zAP (zAS (zAC (zAN (qV (zAy rfl rfl (zBV qO)) (qM _ rfl (zAB (zAC ?_)))))));exact ⟨p.length - (i+1),qO,i+1,ks,vs,oa,oc,on,zBA.out ⟨rfl,rfl,rfl,rfl,rfl,trivial⟩,E,E1,Bs,qO,(by rw[bw,zEq,←ax];unfold zMF;rw[if_pos (of_decide_eq_true (az.symm.trans (by simpa using aa)))]),a8,ba,qO,ae,qO,rfl⟩
    ·have b5:i=p.length:=qO
     rw[b5,List.take_length] at ax;obtain ⟨n2,cr⟩:∃n2,n2=(W4).heap.size:=⟨_,rfl⟩;have bz:bs<n2:=by have:=Bs.lt;omega
     have cb:w0.heap.size≤n2:=by have:=E.size;omega
     have E2:Chg zAo W4 W4:=Chg.refl _ _;refine zAp (zAX (zAX (zAj (zAC (zAA (qA _ rfl (zAB (zAK (zAA (qM _ rfl (qV (zAM underlying107 rfl) (qM _ rfl (zAB (zAT (zAq (fun nn_ σ ao=>∃(k:Nat) (cs:List (List Sp)) (us:List Value) (ca:Option Addr) (cc cn:Nat),(∃jj_,σ=zCH jj_ [(1,(P6 bs 0)),(72,(.slice oa on oc)),(73,(I6 (on:Int))),(74,(I6 (k:Int))),(16,(.slice ca cn cc))])∧Chg zAo w0 ao∧Chg zAo W4 ao∧Blk ao bs #[(.slice a ll.length c)] 50∧(k≤ks.length)∧(cs.length=k)∧(cn=k)∧(∀(j:Nat) a6 d,ks[j]?=some a6→cs[j]?=some d→zEF d (fun r=>decide (zBI ll r=a6)))∧(∀d∈cs,d.length≤16)∧(LSt TSs TSp 2 ao n2 (.slice ca cn cc) us (cs.map zVv))∧(n2≤ao.heap.size)∧nn_=ks.length - k) (n:=ks.length - 0) ?_ ?_)))))))))))))))
     ·exact ⟨0,[],[],none,0,0,zBA.out ⟨rfl,rfl,rfl,rfl,rfl,trivial⟩,E,E2,Bs,Nat.zero_le _,rfl,rfl,(fun j a6 d _ h=>by simp at h),(fun d h=>absurd h List.not_mem_nil),LSt.start _ _ _ _ _,qO,rfl⟩
     ·clear E E2 Bs;rintro _ _ ao ⟨k,cs,us,ca,cc,cn,⟨j14,rfl⟩,E,E2,Bs,hk3,ar,hcn,a5,bu,ag,an,rfl⟩;refine zAA (qV (zBH rfl rfl) (zAB (zAK (qC rfl (fun bo=>?_) (fun bo=>?_)))))
      ·obtain ⟨mk,am⟩:=zAU (l:=ks) (i:=k) qO;obtain ⟨u,hu⟩:=zAU (l:=vs) (i:=k) (by have:=hC.len;simp at this;omega);have a2:=hC.inn k u (zTy mk) hu (by rw[List.getElem?_map,am];rfl);obtain ⟨ua,uc,rfl⟩:=zAw a2;have ab:on=(ks.map zTy).length:=by rw[List.length_map];exact ba
       obtain ⟨gg,rfl,cp,bn⟩:=zCn (hC.on ab) qO;have aq:=a8 mk (List.mem_of_getElem? am);have bt:=zGT a2 rfl;refine zAP (zAC (zAK (zAT (zAA (qV (zAH (b:=gg) (o:=0) (len:=on) (cap:=oc) (i:=k) (o':=0+k) rfl rfl rfl underlying107 zKx qO qO) (qV (zAL (v:=(.slice ua mk.length uc)) rfl zMj ((by have h1:=bn k _ hu;exact E2.cell (fun f=>f) h1))) ?_))))));have br:=ag;have ch:=an;have ad:(ao).heap.size≤(ao).heap.size:=Nat.le_refl _;refine zAg (v:=(.slice ua mk.length uc)) (c:=#[(.slice ua mk.length uc)]) (n:=1) qD zPS rfl zKx rfl rfl rfl qS ?_;intro bm wm Nm;have Fm:=Nm.ge E;have Fm_E2:=Nm.ge E2;have Om_bs:=Nm.lt Bs;replace Bs:=Nm.keep Bs;replace ad:=Nat.le_trans ad Nm.ext.size;replace ag:=ag.ext Nm.ext;replace an:=Nat.le_trans an Nm.ext.size;replace E:=E.ext Nm.ext;have Bm:=Nm.blk;replace E2:=E2.ext Nm.ext;refine zAB (zAA (qV (zCj rfl rfl) (qV (zAL rfl zGa (Bs.cell rfl)) (qE rfl (zAV func87 nm87 bd87 rfl) (zTC _ _ _ (fun r=>decide (zBI ll r=mk)) ll (h.ext E) qO a9 (fun p hp=>zJW hp mk) (fun w x hE=>zCD.mk (first:=#[]) (cap:=#[.pointer (some ⟨bs,0,none⟩),.pointer (some ⟨bm,0,none⟩)]) func88 nm88 bd88 rfl (zVb w bs bm _ _ ll mk x (hE.keep Bs) (hE.keep Bm) ((h.ext E).ext hE) ((zBq.ext bt E2).ext hE) aq))) ?_))));rintro _ cd ⟨⟨out,hI,⟨⟨xa,xc,rfl⟩,cz⟩⟩,ac⟩;replace Bs:=ac.keep Bs;replace Bm:=ac.keep Bm;replace ad:=Nat.le_trans ad ac.size;replace ag:=ag.ext ac;replace an:=Nat.le_trans an ac.size;replace E:=E.ext ac;replace E2:=E2.ext ac;have hwm:=Nm.ext.size;have bi:=cz;refine qA _ rfl (zAB (zAK (zAA (qM _ rfl (qV (zAM underlying22 rfl) (qV (zCN rfl rfl) (zAB (qC rfl (fun ci=>?_) (fun ci=>?_)))))))))
       ·refine zAA (qA _ rfl (qA _ rfl (zAB (zAR (zAI (zAZ (zAI (zAI (zAZ (zAI (zCK results30 (v:=(.slice none 0 0)) (v':=(.int .i64 2)) rfl rfl ?_)))))))))));obtain ⟨cF,b0,b3⟩:=zTB hP a9 (ax▸am) hI qO;exact ⟨⟨[],2,.inr ⟨bk,cF,b0,.inl ⟨b3,rfl,rfl⟩⟩,none,0,rfl,zDP _⟩,E⟩
       ·have ai:cn=(cs.map zVv).length:=by rw[List.length_map];omega
        refine zAP (zAC (zAN (qM _ rfl (qM _ rfl (zAh (ps:=[(0,(.slice xa out.length xc))]) (c:=#[(.slice xa out.length xc)]) qD rfl underlying50 zBm zKi qD qD qK ?_)))));intro b17 w17 af;have F17:=af.ge E;have F17_E2:=af.ge E2;have O17_bs:=af.lt Bs;have O17_bm:=af.lt Bm;replace Bs:=af.keep Bs;replace Bm:=af.keep Bm;replace ad:=Nat.le_trans ad af.ext.size;replace ag:=ag.ext af.ext;replace an:=Nat.le_trans an af.ext.size;replace bi:=zAn bi af.ext;replace E:=E.ext af.ext;have cj:=af.blk;replace E2:=E2.ext af.ext;refine zBC (base:=n2) (n:=cn) (m:=1) (xs:=us) (news:=[(.slice xa out.length xc)]) (size:=1) (bytes:=24) (v:=(.slice ca cn cc)) qD underlying50 zBm zTI zKi rfl qD rfl (ag.on ai) rfl (rfl) (cj.cells rfl) qS (by unfold maxLen;omega) qO (an) ?_;intro v8 cu a7 aj bj;replace Bs:=aj.keep (fun h=>by have:=((ag.on ai).lt _ h).1;omega) Bs;replace E:=E.step aj (fun x hx h=>absurd ((ag.on ai).lt x h).1 qO);replace E2:=E2.step aj (fun x hx h=>absurd ((ag.on ai).lt x h).1 qO);obtain ⟨ce,cx,rfl⟩:=zAw a7;refine qA _ rfl (zAB (zAS (zAC (zAN (qV (zAy rfl rfl (zBV qO)) (qM _ rfl (zAB (zAC ?_))))))));exact ⟨ks.length - (k+1),qO,k+1,cs++[out],us++[.slice xa out.length xc],ce,cx,cn+1,zBA.out ⟨rfl,rfl,rfl,rfl,rfl,trivial⟩,E,E2,Bs,qO,(by simp;omega),qO,zPl a5 ar am hI,(fun d hd=>by rcases List.mem_append.1 hd with h1|h1;exact bu d h1;rw[List.mem_singleton] at h1;rw[h1];omega),(by rw[List.map_append];exact ag.push ai bi qO (fun k hk=>by have:=(br.o.lt k hk).2;omega) a7 aj bj),(by have:=aj.size;omega),rfl⟩
      ·have bh:k=ks.length:=qO
       have a0:zPQ ll cs:=⟨p,hP,by rw[←ax,ar,bh],fun k a6 d h1 h2=>a5 k a6 d (ax▸h1) h2⟩;have au:=ag.spss;have a4:cn=cs.length:=qO
       refine zAp (zAX (zAX (zAj (zAC (zAK (zAA (qM _ rfl (qV (zAM underlying50 rfl) (qV (zCN rfl rfl) (zAB (qC rfl (fun bg=>?_) (fun bg=>?_))))))))))))
       ·refine zAA (qA _ rfl (qA _ rfl (zAB (zAR (zAI (zCK results30 (v:=(.slice none 0 0)) (v':=(.int .i64 2)) rfl rfl ?_))))));exact ⟨⟨[],2,.inr ⟨bk,cs,a0,.inl ⟨.inr qO,rfl,rfl⟩⟩,none,0,rfl,zDP _⟩,E⟩
       ·refine zAP (zAC (zAA (qM _ rfl (qA _ rfl (qA _ rfl (zAB (zAR (zCK results30 (v:=(.slice ca cn cc)) (v':=(.int .i64 0)) rfl rfl ?_))))))));rw[a4] at au;exact ⟨⟨cs,0,.inr ⟨bk,cs,a0,.inr ⟨fun cl=>by rcases cl with ⟨d,h1,h2⟩|h2;have:=bu d h1;omega;omega,rfl,rfl⟩⟩,ca,cc,by rw[a4],au⟩,E⟩
end Go.Proofs
namespace Go.Proofs
open Go Go.Eng Go.Sort
set_option maxRecDepth 100000
theorem zWD {S:Type} (F:S→Re→Bool×S) (Inv:S→(Nat→Prop)→World→Prop) (Pn:Re→Prop) (fv:Value) (wb:World)
    (hb:∀s D w,Inv s D w→∀b,D b→wb.heap.size≤b∧b<w.heap.size)
    (hst:∀s D w w',Inv s D w→Ext w w'→Inv s D w')
    (hP:∀t,Pn t→∀x∈t.args,Pn x)
    (hf:∀s D w t vs,Ext wb w→Pn t→Inv s D w→zBG wb t vs→zCD prog fv #[.agg vs.toArray] w fun v w'=>∃D',v=.bool (F s t).1∧Chg D w w'∧Inv (F s t).2 D' w'∧∀b,D' b→D b∨w.heap.size≤b) :
    ∀n t,t.size≤n→Pn t→∀s (D:Nat→Prop) w0 vs,Ext wb w0→Inv s D w0→zBG wb t vs→
      Ret prog 121 #[.agg vs.toArray,fv] w0 fun v w'=>∃D',v=.bool (zDA F t s).1∧Chg D w0 w'∧Inv (zDA F t s).2 D' w'∧∀b,D' b→D b∨w0.heap.size≤b:=by
  have ad:∀{D:Nat→Prop} {w w':World},Ext wb w→(∀b,D b→wb.heap.size≤b)→Chg D w w'→Ext wb w':=fun e h c=>Chg.step e c fun x hx hm=>by have:=h x hm;omega
  intro n
  induction n with
  | zero=>intro t ht;have:=t.size_pos;omega
  | succ n ih=>
  intro t hn ax s D w0 vs hE hI ht;obtain ⟨sa,sc,aa,ac,rfl,a5,a0,af⟩:=ht.form;have ag:=hb s D w0 hI;rw[zEH];refine zGr func121 rfl ntmps121 (leT rfl) ?_;have E:Chg D w0 w0:=Chg.refl _ _;refine zAA (zBL (v:=(.agg (R6 t sa sc aa ac))) (c:=(R6 t sa sc aa ac)) qD rfl rfl ?_);intro br wr Nr;have Fr:=Nr.ge E;replace hI:=hst _ _ _ _ hI Nr.ext;replace E:=E.ext Nr.ext;have Br:=Nr.blk;refine qA _ rfl (zAB (zAK (zAA (qM _ rfl (qV (zAG (vs:=[(I6 t.kind),(.slice sa t.set.length sc),(.slice aa t.args.length ac),(I6 t.mn),(I6 t.mx),(.bool t.neg)]) rfl zAc zAO rfl (Br.cells rfl)) (zCZ qD rfl rfl (hf s D _ t _ (hE.trans Nr.ext) ax hI ht) ?_))))));rintro _ w2 ⟨D1,rfl,C2,hI,az⟩;replace Br:=C2.keep (fun h=>by have:=(ag _ h).2;omega) Br;replace E:=E.trans C2;have hE2:Ext wb w2:=ad hE (fun b h=>(ag b h).1) E;have ae:∀b,D1 b→D b∨w0.heap.size≤b:=fun b h=>(az b h).imp id (fun h=>by have:=Nr.size;omega);have ai:∀b,D1 b→b≠br:=fun b h e=>by rcases az b h with h|h;have:=(ag b h).2;have:=Nr.eq;omega;have:=Nr.size;have:=Nr.eq;omega
  refine qV (zCf rfl) (zAB (zAt rfl (fun h=>?_) (fun h=>?_)))
  · have kh:=h;replace h:=by simpa using h
    refine zAA (qA _ rfl (zAB (zAR (zAI (zAW results121 (v:=(.bool false)) rfl ?_)))));exact ⟨D1,by rw[if_neg (by simp[h])],E,by rw[if_neg (by simp[h])];exact hI,ae⟩
  · have kh:=h;replace h:=by simpa using h
    rw[if_pos (by simpa using h)];generalize (F s t).2=s1 at hI⊢;have z2:br<w2.heap.size:=by have:=C2.size;have:=Nr.size;have:=Nr.eq;omega
    refine zAP (zAC (zAK (zAA (qF br 0 2 rfl underlying25 rfl zBS rfl (qV (zAL rfl zBE (Br.cell rfl)) (qV (zAM underlying23 rfl) (qM _ rfl (zAB (zAT (zAq (fun nn_ σ W2=>∃(k:Nat) (s':S) (D2:Nat→Prop),(∃jj_,σ=zCH jj_ [(1,fv),(12,(.slice aa t.args.length ac)),(13,(I6 (t.args.length:Int))),(14,(I6 (k:Int)))])∧Chg D w0 W2∧Blk W2 br (R6 t sa sc aa ac) 25∧(k≤t.args.length)∧(Inv s' D2 W2)∧(zCW F t.args s1=zCW F (t.args.drop k) s')∧(∀b,D2 b→D b∨w0.heap.size≤b)∧(∀b,D2 b→b≠br)∧(br<W2.heap.size)∧nn_=t.args.length - k) (n:=t.args.length - 0) ?_ ?_))))))))))
    · exact ⟨0,s1,D1,zBA.out ⟨rfl,rfl,rfl,rfl,trivial⟩,E,Br,Nat.zero_le _,hI,rfl,ae,ai,z2,rfl⟩
    · clear E Br;rintro _ _ W2 ⟨k,s',D2,⟨j2,rfl⟩,E,Br,hk,hI,ab,am,al,hz,rfl⟩;have ay:=hb s' D2 _ hI;have hE1:=E.size;refine zAA (qV (zBH rfl rfl) (zAB (zAK (qC rfl (fun a6=>?_) (fun a6=>?_)))))
      · obtain ⟨x,hx⟩:=zAU (l:=t.args) (i:=k) qO;obtain ⟨b,o,rfl,ap⟩:∃b o,aa=some ⟨b,o,none⟩∧zCO wb b o t.args:=by
          rcases af with h|h
          · rw[h] at hx;simp at hx
          · exact h
        obtain ⟨us,a1,av⟩:=ap.get hx;have ao:=av;obtain ⟨ak,an,aj,aq,rfl,_,_,_⟩:=av.form;have aw:Ext wb _:=ad hE (fun b h=>(ag b h).1) E;have hsz:=Re.size_arg hx;refine zAP (zAC (zAK (zAT (zAA (qV (zAH (b:=b) (o:=o) (len:=t.args.length) (cap:=ac) (i:=k) (o':=o+k*6) rfl rfl rfl underlying23 zAO qO qO) (qV (zAG rfl zAc zAO rfl (a1.ext aw)) (zAg (v:=(.agg (R6 x ak an aj aq))) (c:=(R6 x ak an aj aq)) (n:=6) qD zAu rfl zAO rfl rfl rfl qS ?_)))))));intro bz wz Nz;have Fz:=Nz.ge E;have Oz_br:=Nz.lt Br;replace Br:=Nz.keep Br;replace hI:=hst _ _ _ _ hI Nz.ext;replace E:=E.ext Nz.ext;have Bz:=Nz.blk;refine zAB (zAA (qV (zAG (vs:=[(I6 x.kind),(.slice ak x.set.length an),(.slice aj x.args.length aq),(I6 x.mn),(I6 x.mx),(.bool x.neg)]) rfl zAc zAO rfl (Bz.cells rfl)) (qM _ rfl (qE rfl (zAV func121 zOg zPD rfl) (ih x qO (hP t ax x (List.mem_of_getElem? hx)) s' D2 _ _ (aw.trans Nz.ext) hI ao) ?_))));rintro _ w9 ⟨D4,rfl,C9,hI,au⟩;replace Br:=C9.keep (fun h=>by have h1:=al _ h;have h2:=(ay _ h).2;first|exact h1 rfl|(have:=Nz.eq;omega)) Br;replace Bz:=C9.keep (fun h=>by have h1:=al _ h;have h2:=(ay _ h).2;first|exact h1 rfl|(have:=Nz.eq;omega)) Bz;replace E:=E.step C9 (fun y hy h=>(am y h).resolve_right qO);have a3:=zBU hx;rw[a3,zCg] at ab;have ar:∀b,D4 b→D b∨w0.heap.size≤b:=fun b h=>by rcases au b h with h|h;exact am b h;exact .inr (by have:=Nz.size;omega)
        have ah:∀b,D4 b→b≠br:=fun b h e=>by rcases au b h with h|h;exact al b h e;have:=Nz.size;omega
        refine qV (zCf rfl) (zAB (zAt rfl (fun h2=>?_) (fun h2=>?_)))
        · have a2:=h2;replace h2:=by simpa using h2
          refine zAA (qA _ rfl (zAB (zAR (zAZ (zAI (zAI (zAZ (zAI (zAW results121 (v:=(.bool false)) rfl ?_)))))))));exact ⟨D4,by rw[ab,if_neg (by simp[h2])],E,by rw[ab,if_neg (by simp[h2])];exact hI,ar⟩
        · have a2:=h2;replace h2:=by simpa using h2
          rw[if_pos (by simpa using h2)] at ab;refine zAP (zAS (zAC (zAN (qV (zAy rfl rfl (zBV qO)) (qM _ rfl (zAB (zAC ?_)))))));exact ⟨t.args.length - (k+1),qO,k+1,(zDA F x s').2,D4,zBA.out ⟨rfl,rfl,rfl,rfl,trivial⟩,E,Br,qO,hI,ab,ar,ah,(by have:=C9.size;have:=Nz.size;omega),rfl⟩
      · have a4:k=t.args.length:=qO
        rw[a4,List.drop_length] at ab;refine zAp (zAX (zAX (zAj (zAC (zAA (qA _ rfl (zAB (zAR (zAW results121 (v:=(.bool true)) rfl ?_)))))))));exact ⟨D2,by rw[ab];rfl,E,by rw[ab];exact hI,am⟩
end Go.Proofs
namespace Go.Proofs
open Go Go.Eng
set_option maxRecDepth 100000
section
variable {S : Type} (F : S → Re → Bool × S)
def zFC:List Re→S→Bool×S
  | [],s=>(true,s)
  | t::ts,s=>if (F s t).1 then zFC ts (F s t).2 else (false,(F s t).2)
theorem zHV:∀(a b:List Re) (s:S),zFC F (a++b) s=if (zFC F a s).1 then zFC F b (zFC F a s).2 else (false,(zFC F a s).2)
  | [],b,s=>by simp[zFC]
  | x::a,b,s=>by
    simp only[List.cons_append,zFC];split
    · exact zHV a b _
    · simp
mutual
theorem zGv:∀(t:Re) (s:S),zDA F t s=zFC F (zGQ t) s
  | .mk k set args mn mx ng,s=>by
    rw[zEH,zKI];simp only[zFC,Re.args];rw[zHw args]
theorem zHw:∀(ts:List Re) (s:S),zCW F ts s=zFC F (zDa ts) s
  | [],s=>by simp only[zCW,zDa,zFC]
  | t::ts,s=>by
    rw[zCg];simp only[zDa];rw[zHV,←zGv t,←zHw ts]
end
end
def zRl (m:Nat):Nat→List Re→Int
  | _,[]=>0
  | i,x::xs=>if i=m then 2 else if zCS x≠0 then zCS x else zRl m (i+1) xs
theorem zOF (m:Nat) (hm:m≤1000000):∀(l:List Re) (n:Nat),n≤m→(zFC (zFN (m:Int)) l ((n:Int),0)).2.2=zRl m n (l.take (m+1 - n))
  | [],n,_=>by simp[zFC,zRl]
  | x::xs,n,hn=>by
    simp only[zFC];rw[zMk x qO qO];rw[show m+1 - n=(m - n)+1 from qO,List.take_succ_cons];simp only[zRl];by_cases h:n=m
    · rw[if_pos h,if_pos (by omega:(m:Int)<(n:Int)+1)];simp
    · rw[if_neg h,if_neg (by omega:¬(m:Int)<(n:Int)+1)];by_cases h2:zCS x=0
      · have:=zOF m hm xs (n+1) qO;rw[show m+1 - (n+1)=m - n from qO] at this;simp only[h2,decide_true,if_true,ne_eq,not_true,if_false];rw[←this];rfl
      · rw[if_pos h2];simp[h2]
theorem zSk {t:Re} {m:Nat} (hm:m≤1000000):zDi t (m:Int)=zRl m 0 ((zGQ t).take (m+1)):=by
 unfold zDi;rw[zGv];exact zOF m hm (zGQ t) 0 (Nat.zero_le _)
theorem zUj (w0:World) (t:Re) (vs:List Value) (m:Nat) (hm:m≤1000000) (ht:zBG w0 t vs) (hs:t.size≤2097152) :
  Ret prog 51 #[.agg vs.toArray,.int .i64 (m:Int)] w0 fun v w=>v=.int .i64 (zDi t (m:Int))∧Ext w0 w:=by
 have ar:=ht;obtain ⟨sa,sc,aa,ac,rfl,au,aq,al⟩:=ht.form;rw[zSk hm];refine qR func51 rfl ntmps51 rfl (fun E=>(zAA (zBL (v:=(.agg (R6 t sa sc aa ac))) (c:=(R6 t sa sc aa ac)) qD rfl rfl ?_)));intro b1 w1 N1;have F1:=N1.ge E;replace E:=E.ext N1.ext;have B1:=N1.blk;refine qA _ rfl (zAB (zAK (zAA (qV (zAG (vs:=[(I6 t.kind),(.slice sa t.set.length sc),(.slice aa t.args.length ac),(I6 t.mn),(I6 t.mx),(.bool t.neg)]) rfl zAc zAO rfl (B1.cells rfl)) (qM _ rfl (qV (zAy (c:=((m+1:Nat):Int)) rfl rfl (by rw[zBV qO];omega)) (qE rfl (zAV func19 zWc zXM rfl) (zQD _ t _ _ (zBG.ext E t ar) hs) ?_)))))));rintro _ w9 ⟨la,lc,ai,rfl,ah,ab,X9⟩;replace B1:=X9.keep B1;replace E:=E.ext X9;have ap:((zGQ t).take (m+1)).length≤m+1:=by simp;omega
 obtain ⟨L,hL⟩:∃L,L=(zGQ t).take (m+1):=⟨_,rfl⟩;have ad:zBv w9 L ai:=by rw[hL];exact zBv.ext X9 ab
 clear ab;rw[show ((m+1:Nat):Int).toNat=m+1 from rfl] at ah;rw[show ((m+1:Nat):Int).toNat=m+1 from rfl];rw[←hL] at ah ap⊢;clear hL;have wq0:Ext w9 w9:=Ext.refl _;have EQ:Chg zAo w9 w9:=Chg.refl _ _;refine qV (zAM underlying23 rfl) (qM _ rfl (zAB (zAT (zAq (fun nn_ σ W2=>∃(k:Nat),(∃jj_,σ=zCH jj_ [(1,(I6 (m:Int))),(11,(.slice la L.length lc)),(12,(I6 (L.length:Int))),(13,(I6 (k:Int)))])∧Chg zAo w0 W2∧Chg zAo w9 W2∧Blk W2 b1 (R6 t sa sc aa ac) 25∧(k≤L.length)∧(zRl m 0 L=zRl m k (L.drop k))∧nn_=L.length - k) (n:=L.length - 0) ?_ ?_))))
 ·exact ⟨0,zBA.out ⟨rfl,rfl,rfl,rfl,trivial⟩,E,EQ,B1,Nat.zero_le _,rfl,rfl⟩
 ·clear E EQ B1;rintro _ _ W2 ⟨k,⟨j2,rfl⟩,E,EQ,B1,hk,hp,rfl⟩;refine zAA (qV (zBH rfl rfl) (zAB (zAK (qC rfl (fun av=>?_) (fun av=>?_)))))
  ·obtain ⟨x,hx⟩:=zAU (l:=L) (i:=k) qO;obtain ⟨r,hr,aj⟩:=ad.get hx;obtain ⟨b,o,rfl,ao⟩:=zBq.at ah qO;have hd:=zBU hx;have aw:=(ao k r hr).ext EQ;obtain ⟨xa,xc,ya,yc,rfl,am,ak,af⟩:=aj.form;refine zAP (zAC (zAK (zAT (zAA (qM _ rfl (qV (zAH (b:=b) (o:=o) (len:=L.length) (cap:=lc) (i:=k) (o':=o+k*6) rfl rfl rfl underlying23 zAO qO qO) (qV (zAG rfl zAc zAO rfl (aw)) (zBJ (c:=#[(I6 0),(.slice none 0 0),(.slice none 0 0),(I6 0),(I6 0),(.bool false)]) qD zAu rfl ?_))))))));intro b4 w4 N4;have F4:=N4.ge E;have F4_EQ:=N4.ge EQ;have O4_b1:=N4.lt B1;replace B1:=N4.keep B1;replace E:=E.ext N4.ext;have B4:=N4.blk;replace EQ:=EQ.ext N4.ext;refine qA _ rfl (zAY (b:=b4) (o:=0) (c':=(R6 x xa xc ya yc)) rfl rfl qS zAO rfl B4 qL rfl ?_);intro w5 S5;replace B1:=S5.keep qO B1;replace E:=S5.step E qQ;replace EQ:=S5.step EQ (Or.inl qO);replace B4:=S5.blk;refine zAB (zAK (zAA (qM _ rfl (qM _ rfl (qV (zAk rfl rfl) (zAB (qC rfl (fun he=>?_) (fun he=>?_))))))))
   ·refine zAA (qA _ rfl (zAB (zAR (zAI (zAZ (zAI (zAI (zAZ (zAI (zAW results51 (v:=(.int .i64 2)) rfl ?_))))))))));exact ⟨zBO (by rw[hp,hd];simp only[zRl];rw[if_pos qO]),E⟩
   ·refine zAP (zAC (zAA (qV (zAG (vs:=[(I6 x.kind),(.slice xa x.set.length xc),(.slice ya x.args.length yc),(I6 x.mn),(I6 x.mx),(.bool x.neg)]) rfl zAc zAO rfl (B4.cells rfl)) (qE rfl (zAV func106 zZD zaJ rfl) (zVU _ _ x _ aj EQ) ?_))));rintro _ w19 ⟨rfl,ae⟩;replace B1:=ae.keep B1;replace B4:=ae.keep B4;replace E:=E.ext ae;replace EQ:=EQ.ext ae;refine qA _ rfl (zAB (zAA (qM _ rfl (qV (zBo rfl rfl) (zAB (qC rfl (fun ag=>?_) (fun ag=>?_)))))))
    ·refine zAA (qM _ rfl (qA _ rfl (zAB (zAR (zAZ (zAI (zAI (zAZ (zAI (zAW results51 (v:=(.int .i64 (zCS x))) rfl ?_))))))))));exact ⟨zBO (by rw[hp,hd];simp only[zRl];rw[if_neg qO,if_pos ag]),E⟩
    ·refine zAP (zAS (zAC (zAN (qV (zAy rfl rfl (zBV qO)) (qM _ rfl (zAB (zAC ?_)))))));exact ⟨L.length - (k+1),qO,k+1,zBA.out ⟨rfl,rfl,rfl,rfl,trivial⟩,E,EQ,B1,qO,(by rw[hp,hd];simp only[zRl];rw[if_neg qO,if_neg ag]),rfl⟩
  ·have an:L.drop k=[]:=List.drop_eq_nil_of_le qO;refine zAp (zAX (zAX (zAj (zAC (zAA (qA _ rfl (zAB (zAR (zAW results51 (v:=(.int .i64 0)) rfl ?_)))))))));exact ⟨zBO (by rw[hp,an];rfl),E⟩
theorem zTd {P:Program} {σ:Env} {w:World} {dst:Option Tmp} {ty:TypeId} {pos:String} {af:Array Edge} {g:Option (Nat×Bool)} {tys:Array TypeId} {x y:Operand} {k:IntKind} {a b c:Int} (hx:ev σ x=.int k a) (hy:ev σ y=.int k b) (hc:max a b=c) :
  (execOp (ev σ) ⟨dst,.call ⟨.builtin .max,#[x,y],tys⟩,ty,pos,af,g⟩).run P w=.ok (.value (.int k c)) w:=by
 subst hc;have:(if a<b then b else a)=max a b:=by split<;>omega
 simp[execOp,resolve,invoke,builtin,Builtin.max_,Builtin.max2,hx,hy,this]
theorem zRq:∀(N:Nat) (t:Re),t.size≤N→N≤2097152→zEB t→∀(w0:World) (vs:List Value),zBG w0 t vs→
    Ret prog 68 #[.agg vs.toArray] w0 fun v w=>(∃d:Int,v=.int .i64 d∧0≤d∧d≤1000000)∧Ext w0 w:=by
  intro N
  induction N with
  | zero=>intro t ht;have:=t.size_pos;omega
  | succ N ih=>
  intro t hN hNb ag w0 vs ht;have ht0:=ht;obtain ⟨sa,sc,aa,ac,rfl,ak,ai,ae⟩:=ht.form;have hal:=zCB t;refine qR func68 rfl ntmps68 rfl (fun E=>(zAA (zBL (v:=(.agg (R6 t sa sc aa ac))) (c:=(R6 t sa sc aa ac)) qD rfl rfl ?_)));intro b1 w1 N1;have F1:=N1.ge E;replace E:=E.ext N1.ext;have B1:=N1.blk;refine qA _ rfl (zAB (zAA (qA _ rfl (zAB (zAK (zAA (qF b1 0 2 rfl underlying25 rfl zBS rfl (qV (zAL rfl zBE (B1.cell rfl)) (qV (zAM underlying23 rfl) (qM _ rfl (zAB (zAT (zAq (fun nn_ σ W2=>∃(k:Nat) (n:Int),(∃jj_,σ=zCH jj_ [(1,(P6 b1 0)),(7,(.slice aa t.args.length ac)),(8,(I6 (t.args.length:Int))),(9,(I6 (k:Int))),(3,(I6 n))])∧Chg zAo w0 W2∧Blk W2 b1 (R6 t sa sc aa ac) 25∧(k≤t.args.length)∧(0≤n∧n≤1000000)∧nn_=t.args.length - k) (n:=t.args.length - 0) ?_ ?_)))))))))))))
  · exact ⟨0,1,zBA.out ⟨rfl,rfl,rfl,rfl,rfl,trivial⟩,E,B1,Nat.zero_le _,qO,rfl⟩
  · clear E B1;rintro _ _ W2 ⟨k,n,⟨j2,rfl⟩,E,B1,hk,hn,rfl⟩;refine zAA (qV (zBH rfl rfl) (zAB (zAK (qC rfl (fun am=>?_) (fun am=>?_)))))
    · obtain ⟨x,hx⟩:=zAU (l:=t.args) (i:=k) qO;obtain ⟨ab,ao,rfl,af⟩:∃b o,aa=some ⟨b,o,none⟩∧zCO w0 b o t.args:=by
        rcases ae with h|h
        · rw[h] at hx;simp at hx
        · exact h
      obtain ⟨us,ah,ad⟩:=af.get hx;have hsz:=Re.size_arg hx;have aj:=zCo (zCR ag) hx;refine zAP (zAC (zAK (zAT (zAA (qV (zAH (b:=ab) (o:=ao) (len:=t.args.length) (cap:=ac) (i:=k) (o':=ao+k*6) rfl rfl rfl underlying23 zAO qO qO) (qV (zAG rfl zAc zAO ad.len (ah.ext E)) (zAg (v:=(.agg us.toArray)) (c:=us.toArray) (n:=6) qD zAu rfl zAO rfl rfl (by simpa using ad.len) (by simpa using zBG.one ad) ?_)))))));intro b4 w4 N4;have F4:=N4.ge E;have O4_b1:=N4.lt B1;replace B1:=N4.keep B1;replace E:=E.ext N4.ext;have B4:=N4.blk;refine zAB (zAN (qM _ rfl (qV (zAG rfl zAc zAO ad.len (B4.cells qP)) (qE rfl (zAV func68 zaX zak rfl) (ih x qO qO aj _ us (zBG.ext E x ad)) ?_))));rintro _ w9 ⟨⟨d,rfl,hd⟩,X9⟩;replace B1:=X9.keep B1;replace B4:=X9.keep B4;replace E:=E.ext X9;refine qV (zAy rfl rfl (zBV qO)) (qV (zTc (c:=min (n+d) 1000000) rfl rfl rfl) (qA _ rfl (zAB (zAS (zAC (zAN (qV (zAy rfl rfl (zBV qO)) (qM _ rfl (zAB (zAC ?_))))))))));exact ⟨t.args.length - (k+1),qO,k+1,min (n+d) 1000000,zBA.out ⟨rfl,rfl,rfl,rfl,rfl,trivial⟩,E,B1,qO,qO,rfl⟩
    · refine zAp (zAX (zAX (zAj (zAC (zAK (zAA (qF b1 0 0 rfl underlying25 rfl zAv rfl (qV (zAL rfl zAf (B1.cell rfl)) (qV (zAk rfl rfl) (zAB (qC rfl (fun h6=>?_) (fun h6=>?_))))))))))))
      · have al:=zKM ag h6;refine zAN (qM _ rfl (qF b1 0 4 rfl underlying25 rfl zAv rfl (qV (zAL rfl zAf (B1.cell rfl)) (qV (zTd (c:=max 1 t.mx) rfl rfl rfl) ?_))));have an:0≤n*max 1 t.mx∧n*max 1 t.mx≤8000000:=⟨Int.mul_nonneg qO qO,Int.le_trans (Int.mul_le_mul (by omega:n≤1000000) (by omega:max 1 t.mx≤8) qO qO) qD⟩;refine qV (zYD rfl rfl (zBV qO)) (qV (zTc (c:=min (n*max 1 t.mx) 1000000) rfl rfl rfl) (qA _ rfl (zAB (zAC (zAA (qM _ rfl (qA _ rfl (zAB (zAR (zAW results68 (v:=(.int .i64 (min (n*max 1 t.mx) 1000000))) rfl ?_))))))))));exact ⟨⟨_,rfl,qO,qO⟩,E⟩
      · refine zAP (zAC (zAA (qM _ rfl (qA _ rfl (zAB (zAR (zAW results68 (v:=(.int .i64 n)) rfl ?_)))))));exact ⟨⟨_,rfl,qO,qO⟩,E⟩
end Go.Proofs
namespace Go.Eng
open Go
def zLi (l:List Oper) (t u:Nat):Bool:=match l[t]? with
  | some o=>o.after.any fun e=>Region.binds .any e && Nat.beq e.on u
  | none=>false
def zNm (hd:List Bool) (o:Oper):Bool:=match o.guard with|some p=>hd.getD p.1 false|none=>true
def zFm (N:Nat) (hd:List Bool):Nat→List Oper→List Nat→List (List Nat)→List Bool→Bool
  | _,[],[],[],[]=>true
  | i,o::l,d::ds,ws::wss,h::hs=>(bif h then zEN N i o d ws && ((o.after.all fun e=>!Region.binds .any e || hd.getD e.on false) && zNm hd o) else Nat.ble N d) && zFm N hd (i+1) l ds wss hs
  | _,_,_,_,_=>false
/-- Each operation is of the head or of the tail, and one of the tail waits for the whole head or for another of the tail. -/
def zWG (l:List Oper) (hd:List Bool) (ts:List Nat):Bool:=
 (List.range l.length).all fun i=>hd.getD i false || (ts.contains i && ((List.range l.length).all (fun u=>!hd.getD u false || zLi l i u) || ts.any fun p=>!hd.getD p true && zLi l i p))
def zMT (ops:Array Oper):List Nat→Array Bool→Bool
  | [],listed=>(Region.ready .any ops listed).isEmpty
  | k::ks,listed=>decide (Region.ready .any ops listed=[k]) && zMT ops ks (listed.setIfInBounds k true)
theorem zDf {P:Program} {ops:Array Oper} {Q':Exit→Act→World→Prop}:∀(ks:List Nat) (listed:Array Bool) (a:Act) (w:World),zMT ops ks listed=true→wpList P ops Q' (ks.filterMap fun k=>ops[k]?) a w→wpAny P .any ops Q' ks.length listed a w
  | [],_,_,_,hB,h=>⟨by simpa[zMT] using hB,h⟩
  | k::ks,listed,a,w,hB,h=>by
    simp only[zMT,Bool.and_eq_true,decide_eq_true_eq] at hB;refine ⟨fun h1=>(by rw[hB.1] at h1;cases h1),fun i hi=>?_⟩;have hi0:=hi;rw[hB.1] at hi;have hik:i=k:=by simpa using hi
    subst hik;obtain ⟨_,o,h0,_⟩:=mem_ready.1 hi0;have hw:wpOp P ops Q' i (wpList P ops Q' (ks.filterMap fun k=>ops[k]?)) a w:=by
      rw[List.filterMap_cons,h0] at h;unfold wpOp;simp only[h0];exact h
    exact wpOp_mono (fun a' w' h'=>zDf ks _ a' w' hB.2 h') hw
theorem zDw {N:Nat} {hd:List Bool}:∀{i:Nat} {l:List Oper} {ds:List Nat} {wss:List (List Nat)} {hs:List Bool},zFm N hd i l ds wss hs=true→∀{j:Nat} {o:Oper},l[j]?=some o→∃d ws h,ds[j]?=some d∧wss[j]?=some ws∧hs[j]?=some h∧(bif h then zEN N (i+j) o d ws && ((o.after.all fun e=>!Region.binds .any e || hd.getD e.on false) && zNm hd o) else Nat.ble N d)=true
  | _,[],_,_,_,_,j,o,h=>by simp at h
  | i,x::l,[],_,_,hB,_,_,_=>by simp[zFm] at hB
  | i,x::l,d::ds,[],_,hB,_,_,_=>by simp[zFm] at hB
  | i,x::l,d::ds,ws::wss,[],hB,_,_,_=>by simp[zFm] at hB
  | i,x::l,d::ds,ws::wss,h0::hs,hB,j,o,h=>by
    simp only[zFm,Bool.and_eq_true] at hB;cases j with
    | zero=>simp at h;subst h;exact ⟨d,ws,h0,rfl,rfl,rfl,hB.1⟩
    | succ j=>
      simp at h;obtain ⟨d',ws',h',h1,h2,h3,h4⟩:=zDw hB.2 h;exact ⟨d',ws',h',by simpa using h1,by simpa using h2,by simpa using h3,by rw[show i+(j+1)=i+1+j from qO];exact h4⟩
theorem zIe {N:Nat} {hd:List Bool}:∀{i:Nat} {l:List Oper} {ds:List Nat} {wss:List (List Nat)} {hs:List Bool},zFm N hd i l ds wss hs=true→ds.length=l.length∧hs.length=l.length
  | _,[],[],[],[],_=>⟨rfl,rfl⟩
  | _,[],[],[],_::_,hB=>by simp[zFm] at hB
  | _,[],[],_::_,_,hB=>by simp[zFm] at hB
  | _,[],_::_,_,_,hB=>by simp[zFm] at hB
  | i,x::l,[],_,_,hB=>by simp[zFm] at hB
  | i,x::l,d::ds,[],_,hB=>by simp[zFm] at hB
  | i,x::l,d::ds,ws::wss,[],hB=>by simp[zFm] at hB
  | i,x::l,d::ds,ws::wss,h0::hs,hB=>by
    simp only[zFm,Bool.and_eq_true] at hB;have:=zIe hB.2;simp[this.1,this.2]
inductive DagStepsP (P:Program) (N:Nat) (ds:List Nat) (Fs:List Fact) (σ:Env) (w:World):List Oper→List (List Nat)→List Bool→List Fact→Prop where
  | nil:DagStepsP P N ds Fs σ w [] [] [] []
  | cons {o:Oper} {ws:List Nat} {F:Fact} {l:List Oper} {wss:List (List Nat)} {hs:List Bool} {Gs:List Fact}:zKh P N ds Fs σ w o ws F→DagStepsP P N ds Fs σ w l wss hs Gs→DagStepsP P N ds Fs σ w (o::l) (ws::wss) (true::hs) (F::Gs)
  | tail {o:Oper} {ws:List Nat} {F:Fact} {l:List Oper} {wss:List (List Nat)} {hs:List Bool} {Gs:List Fact}:DagStepsP P N ds Fs σ w l wss hs Gs→DagStepsP P N ds Fs σ w (o::l) (ws::wss) (false::hs) (F::Gs)
theorem DagStepsP.get {P:Program} {N:Nat} {ds:List Nat} {Fs:List Fact} {σ:Env} {w:World}:∀{l:List Oper} {wss:List (List Nat)} {hs:List Bool} {Gs:List Fact},DagStepsP P N ds Fs σ w l wss hs Gs→∀{j:Nat} {o:Oper},l[j]?=some o→hs[j]?=some true→∃ws F,wss[j]?=some ws∧Gs[j]?=some F∧zKh P N ds Fs σ w o ws F
  | _,_,_,_,.nil,j,o,h,_=>by simp at h
  | _,_,_,_,.cons h1 h2,0,o,h,_=>by simp at h;subst h;exact ⟨_,_,rfl,rfl,h1⟩
  | _,_,_,_,.tail h2,0,o,h,ht=>by simp at ht
  | _,_,_,_,.cons h1 h2,j+1,o,h,ht=>by
    obtain ⟨ws,F,a,b,c⟩:=h2.get (j:=j) (by simpa using h) (by simpa using ht);exact ⟨ws,F,by simpa using a,by simpa using b,c⟩
  | _,_,_,_,.tail h2,j+1,o,h,ht=>by
    obtain ⟨ws,F,a,b,c⟩:=h2.get (j:=j) (by simpa using h) (by simpa using ht);exact ⟨ws,F,by simpa using a,by simpa using b,c⟩
/-- How many of the head are yet to come. -/
def zDu (hd:List Bool) (listed:List Bool):Nat:=((hd.zip listed).filter fun p=>p.1 && !p.2).length
theorem zGX:∀{hd listed:List Bool} {i:Nat},hd[i]?=some true→listed[i]?=some false→zDu hd (listed.set i true)+1=zDu hd listed
  | [],_,_,h,_=>by simp at h
  | _::_,[],_,_,h=>by simp at h
  | h::hd,x::listed,0,h1,h2=>by
    simp at h1 h2;subst h1;subst h2;simp[zDu]
  | h::hd,x::listed,i+1,h1,h2=>by
    have:=zGX (hd:=hd) (listed:=listed) (i:=i) (by simpa using h1) (by simpa using h2);simp only[zDu,List.set_cons_succ,List.zip_cons_cons,List.filter_cons] at this⊢;split
    · simp only[List.length_cons];omega
    · exact this
theorem zHI:∀{hd listed:List Bool},hd.length=listed.length→zDu hd listed=0→(∀(i:Nat),hd[i]?=some false→listed[i]?=some false)→listed=hd
  | [],[],_,_,_=>rfl
  | [],_::_,h,_,_=>by simp at h
  | _::_,[],h,_,_=>by simp at h
  | h::hd,x::listed,hl,h0,ht=>by
    have e1:zDu hd listed=0:=by
      simp only[zDu,List.zip_cons_cons,List.filter_cons] at h0⊢;split at h0
      · simp at h0
      · exact h0
    have e2:=zHI (by simpa using hl) e1 fun i hi=>by have:=ht (i+1) (by simpa using hi);simpa using this
    have e3:x=h:=by
      cases h with
      | false=>have:=ht 0 rfl;simpa using this
      | true=>
        cases x with
        | true=>rfl
        | false=>simp[zDu] at h0
    rw[e2,e3]
theorem zIV:∀{hd listed:List Bool},0<zDu hd listed→∃i:Nat,hd[i]?=some true∧listed[i]?=some false
  | [],_,h=>by simp[zDu] at h
  | _::_,[],h=>by simp[zDu] at h
  | h::hd,x::listed,hp=>by
    simp only[zDu,List.zip_cons_cons,List.filter_cons] at hp;split at hp
    · rename_i hc
      simp at hc;exact ⟨0,by simp[hc.1],by simp[hc.2]⟩
    · obtain ⟨i,h1,h2⟩:=zIV (hd:=hd) (listed:=listed) hp;exact ⟨i+1,by simpa using h1,by simpa using h2⟩
theorem zCq {listed:Array Bool} {i:Nat} {b d:Bool} (h:listed.toList[i]?=some b):listed.getD i d=b:=by
 have:listed[i]?=some b:=by simpa using h
 simp[Array.getD_eq_getD_getElem?,this]
theorem zEU {P:Program} {N:Nat} {Q:zGJ} {σ:Env} {w:World} {id:Nat} {l:List Oper} (hd:List Bool) (ts:List Nat) (ds:List Nat) (wss:List (List Nat)) (Fs:List Fact) {Gs:List Fact} (hG:Fs=Gs) (hm:P.follows .mixedOrders=true) (hB:zFm N hd 0 l ds wss hd=true) (hn:zIR ds=true)
    (hT:(zWG l hd ts && zMT l.toArray ts hd.toArray)=true) (hN:Nat.beq (zDu hd (List.replicate l.length false)+ts.length) l.length=true)
    (steps:∀w1,Ext w w1→DagStepsP P N ds Fs σ w1 l wss hd Gs)
    (k:∀σ' w',Ext w w'→(∀t,ds.contains t=false→σ' t=σ t)→(∀j,hd[j]?=some true→Holds ds Fs j σ' w')→WpL P N l.toArray (Q .normal) Q (ts.filterMap fun k=>l[k]?) σ' w'):Wp P N (.region id l.toArray true) Q σ w:=by
  intro a ha he;have eQ:zGU N (thn (Q .normal) Q)=zGU N Q:=by funext e a w;cases e<;>rfl
  refine wp_region_any hm ?_;obtain ⟨w1,a9⟩:∃w1:World,w1={w with drawn:=w.drawn+1}:=⟨_,rfl⟩;have be:Ext w w1:=by rw[a9];exact zGe w
  rw[←a9];have bd:=steps w1 be;rw[←hG] at bd;rw[Bool.and_eq_true] at hT;obtain ⟨bp,bf⟩:=hT;obtain ⟨bg,a8⟩:=zIe hB;have bn:∀(m:Nat) (listed:Array Bool) (a:Act) (w':World),zDu hd listed.toList=m→listed.size=l.length→(∀(t:Nat),hd[t]?=some false→listed.toList[t]?=some false)→Ok N a→Ext w1 w'→(∀t,ds.contains t=false→env a t=σ t)→(∀j,hd[j]?=some true→listed.getD j false=true→Holds ds Fs j (env a) w')→
      wpAny P .any l.toArray (zGU N Q) (m+ts.length) listed a w':=by
    intro m
    induction m with
    | zero=>
      intro listed a w' bl bc ao ha hx hu hh;have hl:listed=hd.toArray:=by
        apply Array.ext';exact zHI (by simp;omega) bl ao
      rw[Nat.zero_add];have h1:=k (env a) w' (be.trans hx) hu (fun j hj=>hh j hj (zCq (by rw[hl];exact hj))) a ha rfl;rw[eQ] at h1;exact zDf ts listed a w' (by rw[hl];exact bf) (by simpa using h1)
    | succ m ih=>
      intro listed a w' hcm bc ao ha hx hu hh;obtain ⟨i0,a4,ba⟩:=zIV (hd:=hd) (listed:=listed.toList) (by omega);rw[show m+1+ts.length=(m+ts.length)+1 by omega];refine ⟨fun hr=>?_,fun i hi=>?_⟩
      · exfalso;have az:∀i:Nat,hd[i]?=some true→listed.getD i true=true:=by
          intro i
          induction i using Nat.strongRecOn with
          | _ i ihi=>
            intro hi;cases hv:listed.getD i true with
            | true=>rfl
            | false=>
              exfalso;obtain ⟨o,ho⟩:=zAU (l:=l) (i:=i) (by have:=zAa hi;omega);obtain ⟨d,ws,h,_,_,h2,h3⟩:=zDw hB ho;rw[hi] at h2;cases h2;simp only[cond_true,Bool.and_eq_true,Nat.zero_add] at h3;have:i∈Region.ready .any l.toArray listed:=by
                refine mem_ready.2 ⟨hv,o,by simpa using ho,fun e he hb=>?_⟩;have h4:=h3.1;simp only[zEN,Bool.and_eq_true,Array.all_eq_true_iff_forall_mem,Bool.or_eq_true,Bool.not_eq_true'] at h4;have h5:=h3.2.1;simp only[Array.all_eq_true_iff_forall_mem,Bool.or_eq_true,Bool.not_eq_true'] at h5;have h6:=(h4.1.2 e he).resolve_left (by simp[hb]);have ah:e.on<i:=by simpa[Nat.blt_eq] using h6
                have h7:=(h5 e he).resolve_left (by simp[hb]);have bb:e.on<hd.length:=by have:=zAa hi;omega
                have h8:hd[e.on]?=some true:=by
                  rw[List.getD_eq_getElem?_getD,List.getElem?_eq_getElem bb,Option.getD_some] at h7;rw[List.getElem?_eq_getElem bb,h7]
                have h9:=ihi e.on ah h8;have hj:e.on<listed.size:=by omega
                simpa only[Array.getD_eq_getD_getElem?,Array.getElem?_eq_getElem hj,Option.getD_some] using h9
              rw[hr] at this;cases this
        have:=az i0 a4;rw[zCq ba] at this;cases this
      · obtain ⟨h1,o,h2,h3⟩:=mem_ready.1 hi;have ho:l[i]?=some o:=by simpa using h2
        have bj:i<l.length:=zAa ho;have av:hd[i]?=some true:=by
          obtain ⟨b,hb⟩:=zAU (l:=hd) (i:=i) (by omega);cases b with
          | true=>exact hb
          | false=>
            exfalso;have h4:=List.all_eq_true.1 bp i (List.mem_range.2 bj);rw[List.getD_eq_getElem?_getD,hb,Option.getD_some,Bool.false_or,Bool.and_eq_true,Bool.or_eq_true] at h4;have am:∀u,zLi l i u=true→listed.getD u false=true:=fun u aw=>by
              unfold zLi at aw;rw[ho] at aw;simp only[Array.any_eq_true',Bool.and_eq_true] at aw;obtain ⟨e,he,ax,a1⟩:=aw;have:=Nat.eq_of_beq_eq_true a1;rw[←this];exact h3 e he ax
            rcases h4.2 with h5|h5
            · have h6:=List.all_eq_true.1 h5 i0 (List.mem_range.2 (by have:=zAa a4;omega));rw[List.getD_eq_getElem?_getD,a4,Option.getD_some,Bool.not_true,Bool.false_or] at h6;have:=am i0 h6;rw[zCq ba] at this;cases this
            · obtain ⟨p,_,h6⟩:=List.any_eq_true.1 h5;rw[Bool.and_eq_true,Bool.not_eq_true'] at h6;have h7:=am p h6.2;have hp:hd[p]?=some false:=by
                have h8:=h6.1;rw[List.getD_eq_getElem?_getD] at h8;cases h9:hd[p]? with
                | none=>rw[h9] at h8;cases h8
                | some b=>rw[h9,Option.getD_some] at h8;rw[h8]
              rw[zCq (ao p hp)] at h7;cases h7
        obtain ⟨d,ws,h,ay,bq,a6,h4⟩:=zDw hB ho;rw[av] at a6;cases a6;obtain ⟨ws',F,al,hF,ap⟩:=bd.get ho av;rw[bq] at al;cases al;simp only[cond_true,Bool.and_eq_true,Nat.zero_add] at h4;have aj:=h4.2.2;have h4:=h4.1;simp only[zEN,Bool.and_eq_true,List.all_eq_true,Array.any_eq_true',Array.all_eq_true_iff_forall_mem,Bool.or_eq_true,Bool.not_eq_true'] at h4;obtain ⟨⟨⟨ab,a5⟩,_⟩,ak⟩:=h4;have ab:o.dst=some d:=by
          split at ab
          · rename_i d' h;rw[h,Nat.eq_of_beq_eq_true ab]
          · cases ab
        have a5:d<N:=by simpa[Nat.blt_eq] using a5
        have hH:∀j,ws.contains j=true→Holds ds Fs j (env a) w':=by
          intro j hj;have bh:j∈ws:=by simpa using hj
          obtain ⟨e,he,hb⟩:=ak j bh;obtain ⟨ax,a1⟩:=hb;have bo:e.on=j:=Nat.eq_of_beq_eq_true a1;have au:=h3 e he ax;rw[bo] at au;refine hh j ?_ au;obtain ⟨b,hb⟩:=zAU (l:=hd) (i:=j) (by
            rcases Nat.lt_or_ge j listed.size with h9|h9
            · omega
            · simp[Array.getD_eq_getD_getElem?,Array.getElem?_eq_none h9] at au)
          cases b with
          | true=>exact hb
          | false=>rw[zCq (ao j hb)] at au;cases au
        have gd:∀j b,o.guard=some (j,b)→∀dj,ds[j]?=some dj→(∃oj,l[j]?=some oj∧oj.dst=some dj)∧dj<N:=fun j b ad dj ai=>by
          obtain ⟨oj,ag⟩:=zAU (l:=l) (i:=j) (by have:=zAa ai;omega);obtain ⟨dj',_,hj,an,_,h5,h6⟩:=zDw hB ag;rw[ai] at an;cases an;unfold zNm at aj;rw[ad] at aj;simp only at aj;have h7:hj=true:=by rw[List.getD_eq_getElem?_getD,h5,Option.getD_some] at aj;exact aj
          rw[h7] at h6;simp only[cond_true,Bool.and_eq_true,zEN] at h6;obtain ⟨⟨⟨aa,ac⟩,_⟩,_⟩:=h6.1;refine ⟨⟨oj,ag,?_⟩,by simpa[Nat.blt_eq] using ac⟩;split at aa
          · rename_i d' h;rw[h,Nat.eq_of_beq_eq_true aa]
          · cases aa
        have ar:∀v w2,Ext w' w2→F.In v w2→wpAny P .any l.toArray (zGU N Q) (m+ts.length) (listed.setIfInBounds i true) (a.put o.dst v) w2:=by
          intro v w2 a7 hv;have aq:env (a.put o.dst v)=upd (env a) d v:=by rw[ab];exact zEs ha a5 v
          have bi:listed.toList[i]?=some false:=by
            have hj:i<listed.size:=by omega
            simp only[Array.getD_eq_getD_getElem?,Array.getElem?_eq_getElem hj,Option.getD_some] at h1;rw[Array.getElem?_toList,Array.getElem?_eq_getElem hj,h1]
          refine ih _ _ _ ?_ (by simpa using bc) (fun t ht=>?_) (ha.put _ _) (hx.trans a7) ?_ ?_
          · rw[Array.toList_setIfInBounds];have:=zGX av bi;omega
          · rw[Array.toList_setIfInBounds,List.getElem?_set];have a0:i≠t:=fun e=>by rw[←e,av] at ht;cases ht
            rw[if_neg a0];exact ao t ht
          · intro t ht;rw[aq,←hu t ht];simp only[upd];cases hb:Nat.beq t d
            · rfl
            · exfalso;have:t=d:=Nat.eq_of_beq_eq_true hb;subst this;have:=List.mem_of_getElem? ay;simp[this] at ht
          · intro j bk hj d' F' ae a3;rw[aq];by_cases hij:j=i
            · subst hij;rw[ay] at ae;cases ae;rw[hF] at a3;cases a3;simp only[upd,Nat.beq_refl,cond_true];exact hv
            · have a0:Nat.beq d' d=false:=by
                cases hb:Nat.beq d' d
                · rfl
                · exfalso;have:d'=d:=Nat.eq_of_beq_eq_true hb;subst this;exact hij (zDm hn ae ay)
              simp only[upd,a0,cond_false];rw[getD_set_ne _ (Ne.symm hij)] at hj;exact Fact.ext (hh j bk hj d' F' ae a3) a7
        rcases ap (env a) w' hx hu hH with ⟨hg,bm⟩|⟨⟨j,b,dj,ad,ai,af⟩,a2⟩
        · have hw:Region.wanted o (yielded l.toArray a.tmps)=true:=by
            cases ad:o.guard with
            | none=>simp[Region.wanted,ad]
            | some p=>
              obtain ⟨j,b⟩:=p;obtain ⟨dj,ai,af⟩:=hg j b ad;obtain ⟨aa,ac⟩:=gd j b ad dj ai;have h6:a.tmps[dj]?=some (Value.bool b):=by
                have h2:a.tmps.getD dj undef=.bool b:=af;have ah:dj<a.tmps.size:=by rw[ha.size];exact ac
                rw[Array.getElem?_eq_getElem ah];simpa[ah] using h2
              obtain ⟨oj,ag,aa⟩:=aa;simp[Region.wanted,ad,yielded,ag,aa,h6]
          unfold wpOp;simp only[h2,hw,if_true];exact Or.inl (bm a ha rfl _ _ ar)
        · have hw:Region.wanted o (yielded l.toArray a.tmps)=false:=by
            obtain ⟨aa,ac⟩:=gd j b ad dj ai;have ah:dj<a.tmps.size:=by rw[ha.size];exact ac
            have h6:a.tmps[dj]?=some (env a dj):=by
              rw[Array.getElem?_eq_getElem ah];simp[env,ah]
            obtain ⟨oj,ag,aa⟩:=aa;rcases af with af|af
            · rw[af] at h6;cases b<;>simp[Region.wanted,ad,yielded,ag,aa,h6]
            · rw[af] at h6;simp[Region.wanted,ad,yielded,ag,aa,h6,undef]
          unfold wpOp;simp only[h2,hw,Bool.false_eq_true,if_false];exact ar undef w' (Ext.refl _) a2
  have h1:=bn (zDu hd (Array.replicate l.toArray.size false).toList) (Array.replicate l.toArray.size false) a w1 rfl (by simp) (fun t ht=>by have h9:=zAa ht;rw[Array.toList_replicate,List.getElem?_replicate,if_pos (by rw[List.size_toArray];omega)]) ha (Ext.refl _) (fun t _=>by rw[he]) (fun j _ hj=>by rw[getD_replicate_false] at hj;cases hj);have e3:zDu hd (Array.replicate l.toArray.size false).toList+ts.length=l.toArray.size:=by have h9:=Nat.eq_of_beq_eq_true hN;simpa using h9
  rw[e3] at h1;exact h1
theorem zab {x y z u p a b c d e:Value} (h:x=a) (h':y=b) (h'':z=c) (h3:u=d) (h4:p=e):[x,y,z,u,p]=[a,b,c,d,e]:=by rw[h,h',h'',h3,h4]
section
variable {P : Program} {N : Nat} {σ : Env} {w : World} {dst : Option Tmp} {ty : TypeId} {pos : String} {af : Array Edge} {g : Option (Nat × Bool)} {t : TypeId} {x y z u : Operand} {a b c d : Value} {i j k m : Nat}
/-- A new variable, with its cells. -/
def alF (e:Nat) (c:Array Value) (hs:Nat):Fct:=fun v w=>∃b,v=.pointer (some ⟨b,0,none⟩)∧Blk w b c e∧hs≤b
theorem zET (e:Nat) (c:Array Value) (hs:Nat):zGq (alF e c hs):=by
 rintro v w w' x ⟨b,h1,h2,h3⟩;exact ⟨b,h1,Ext.keep x h2,h3⟩
theorem zEk {d hs:Nat} {z:Value} {c:Array Value} (hz:Zer P t z) (hc:z.cells=c) (hh:hs≤w.heap.size):zPK P N ⟨some d,.alloc t,ty,pos,af,g⟩ (alF t c hs) σ w:=by
 subst hc;have hn:=New.mk' w z.cells t;exact zAJ (v:=.pointer (some ⟨w.heap.size,0,none⟩)) (by simp[execOp,Instr.alloc,hz.run,newVar,newRow]) hn.ext ⟨_,rfl,hn.blk,hh⟩
end
end Go.Eng
namespace Go.Proofs
open Go Go.Eng Go.Sort
set_option maxRecDepth 100000
abbrev zao:Nat:=50
theorem zOR (w0:World) (v fv:Value) (ll:List (List Sp)) (p:List Sp→Bool) (h:zBy w0 v ll) (hf:∀(w:World) (u:Value) (l:List Sp),Ext w0 w→zBQ w u l→zCD prog fv #[u] w fun r w'=>r=.bool (p l)∧Ext w w') :
  Ret prog 111 #[v,fv] w0 fun r w=>r=.bool (ll.any p)∧Ext w0 w:=by
 refine qR func111 rfl ntmps111 rfl (fun E=>(zAA (qA _ rfl (zAB (zAA (qM v rfl (qM _ rfl (qE rfl (zAV func159 zYh zZn rfl) (zOQ _ v fv ll p h hf) ?_))))))));rintro _ w9 ⟨rfl,X9⟩;replace E:=E.ext X9;refine qV (zFG rfl rfl) (qA _ rfl (zAB (zAR (zAW results111 (v:=(.bool (decide ((0:Int)≤idx p ll)))) rfl ?_))));exact ⟨zAx (zGB p ll),E⟩
theorem zVn (w0:World) (bz:Nat) (x:Re) (xs:List Value) (u:Value) (l:List Sp) (hB:Blk w0 bz xs.toArray 25) (hx:zBG w0 x xs) (hu:zBQ w0 u l) :
  Ret prog 151 #[u,.pointer (some ⟨bz,0,none⟩)] w0 fun r w=>r=.bool (decide (l=x.set))∧Ext w0 w:=by
 obtain ⟨sa,sc,aa,ac,rfl,ab,_,_⟩:=hx.form;refine qR func151 rfl ntmps151 rfl (fun E=>(zAA (qA _ rfl (zAB (zAA (qM u rfl (qF bz 0 1 rfl underlying25 rfl zBm rfl (qV (zAL rfl zBe (hB.cell rfl)) (qE rfl (zAV func80 zaT zag rfl) (zTX _ _ _ l x.set (hu.ext E) (zBq.ext ab E)) ?_)))))))));rintro _ w9 ⟨rfl,X9⟩;replace hB:=X9.keep hB;replace E:=E.ext X9;refine qA _ rfl (zAB (zAR (zAW results151 (v:=(.bool (decide (l=x.set)))) rfl ?_)));exact ⟨rfl,E⟩
/-- The list of sets, one's own, in a cell. -/
def zVr (bo base:Nat) (SR:List (List Sp)) (s:List (List Sp)) (D:Nat→Prop) (w:World):Prop:=
 ∃(oa:Option Addr) (oc:Nat) (vs:List Value),Blk w bo #[.slice oa s.length oc] zao∧LSt TSs TSp 2 w base (.slice oa s.length oc) vs (s.map zVv)∧(∀b,D b↔b=bo∨(Value.slice oa s.length oc).ownBlock=some b)∧bo<base∧base≤w.heap.size∧s.Nodup∧∀x∈s,x∈SR
def osG (base:Nat) (l:List Sp):Fct:=fun v w=>∃a c,v=.slice a l.length c∧w.ownsRow base TSp 2 (.slice a l.length c) l.length (l.map zBh).flatten
theorem zIQ (base:Nat) (l:List Sp):zGq (osG base l):=by
 rintro v w w' e ⟨a,c,rfl,h⟩;exact ⟨a,c,rfl,zAn h e⟩
def zQU (l:List Sp) (base:Nat):Fct:=fun v w=>∃b a c,v=.slice (some ⟨b,0,none⟩) 1 1∧Blk w b #[.slice a l.length c] TSs∧base≤b∧w.ownsRow base TSp 2 (.slice a l.length c) l.length (l.map zBh).flatten
theorem zIT (l:List Sp) (base:Nat):zGq (zQU l base):=by
 rintro v w w' e ⟨b,a,c,rfl,h,h2,h3⟩;exact ⟨b,a,c,rfl,Ext.keep e h,h2,zAn h3 e⟩
theorem zPJ {M:Nat→Prop} {N:Nat} {σ:Env} {w:World} {dst:Option Tmp} {ty:TypeId} {pos:String} {af:Array Edge} {g:Option (Nat×Bool)} {x:Operand} {a:Option Addr} {c base:Nat} {l:List Sp} (hx:ev σ x=.slice a l.length c) (hb:base≤w.heap.size) (hO:w.ownsRow base TSp 2 (.slice a l.length c) l.length (l.map zBh).flatten) :
  zMw M prog N ⟨dst,.buildSlice 50 1 #[(0,x)],ty,pos,af,g⟩ (zQU l base) σ w:=by
 have hn:=New.mk' w #[.slice a l.length c] TSs;exact zBb (zCM (parts:=[(0,x)]) (ps:=[(0,.slice a l.length c)]) (by simp only[List.map,hx]) underlying50 zBm zKi qD qD qK) (Ext.chg hn.ext) ⟨_,_,_,rfl,hn.blk,hb,zAn hO hn.ext⟩
theorem zLz {s:List (List Sp)} {t:Re} (h:t.kind=2→t.set∈s):zHh s t=s:=by
 unfold zHh;rw[if_neg fun h2=>h2.2 (h h2.1)]
theorem zXc (w0:World) (bo base:Nat) (SR:List (List Sp)) (hSR:SR.length≤1000∧∀s∈SR,zBR s=0) (s:List (List Sp)) (D:Nat→Prop) (x:Re) (xs:List Value) (hI:zVr bo base SR s D w0) (hP:zDj (fun s=>s∈SR) x) (hx:zBG w0 x xs) :
  Ret prog 150 #[.agg xs.toArray,.pointer (some ⟨bo,0,none⟩)] w0 fun v w'=>∃D',v=.bool true∧Chg D w0 w'∧zVr bo base SR (zHh s x) D' w'∧∀b,D' b→D b∨w0.heap.size≤b:=by
 have ba:=hx;have hI0:=hI;obtain ⟨sa,sc,aa,ac,rfl,ao,_,_⟩:=hx.form;obtain ⟨oa,oc,vs,hB,hL,hD,am,ae,al,af⟩:=hI;have a7:=ae;have a5:D bo:=(hD bo).2 (.inl rfl);have hsl:s.length≤1000:=Nat.le_trans (zNg al af) hSR.1;have aq:=fun k h=>(hL.o.lt k h).2;have hD0:∀b,D b→b<w0.heap.size:=fun b h=>by rcases (hD b).1 h with h|h;omega;exact aq b h
 refine zGr func150 rfl ntmps150 (leT rfl) ?_;have E:Chg D w0 w0:=Chg.refl _ _;refine zAA (zBL (v:=(.agg (R6 x sa sc aa ac))) (c:=(R6 x sa sc aa ac)) qD rfl rfl ?_);intro bz wz Nz;have Fz:=Nz.ge E;have Oz_bo:=Nz.lt hB;replace hB:=Nz.keep hB;replace hL:=hL.ext Nz.ext;replace ae:=Nat.le_trans ae Nz.ext.size;replace E:=E.ext Nz.ext;have Bz:=Nz.blk;refine qA _ rfl (zAB (zAK (zAA (qF bz 0 0 rfl underlying25 rfl zAv rfl (qV (zAL rfl zAf (Bz.cell rfl)) (qV (zAk rfl rfl) (qM _ rfl ?_)))))));rcases Bool.eq_false_or_eq_true (decide ((x.kind:Int)=2)) with g1|g1
 ·have ah:=g1;replace ah:=of_decide_eq_true ah;refine zAF rfl rfl qD (cbk g1) (qV (zAL rfl zGa (hB.cell rfl)) (zAF rfl rfl qD (cbk g1) (qV (zCj rfl rfl) (zAF rfl rfl qD (cbk g1) (qE rfl (zAV func111 zZC zaI rfl) (zOR _ _ _ s (fun l=>decide (l=x.set)) hL.spss (fun w u l hE hu=>zCD.mk (first:=#[]) (cap:=#[.pointer (some ⟨bz,0,none⟩)]) func151 zYj zZp rfl (zVn w bz x _ u l (hE.keep Bz) (zBG.ext (Nz.ext.trans hE) x ba) hu))) ?_)))));rintro _ w9 ⟨rfl,X9⟩;replace hB:=X9.keep hB;replace Bz:=X9.keep Bz;replace hL:=hL.ext X9;replace ae:=Nat.le_trans ae X9.size;replace E:=E.ext X9;refine zAF rfl rfl qD (cbk g1) (qV (zCf rfl) (qV (zAd (v:=(.bool (!(s.any fun l=>decide (l=x.set))))) rfl (by rw[g1];rfl)) (zAB (zAt rfl (fun g2=>?_) (fun g2=>?_)))))
  ·have a8:=g2;replace g2:=by simpa using g2
   have aw:x.set∉s:=fun h=>g2 _ h rfl;have ay:=hP.s ah;have a6:=(zKb (hSR.2 x.set ay)).2;have ab:zHh s x=s++[x.set]:=by unfold zHh;rw[if_pos ⟨ah,aw⟩]
   obtain ⟨n1,a2⟩:∃n,n=(w9).heap.size:=⟨_,rfl⟩;have hn0:w0.heap.size≤n1:=by rw[a2];have:=X9.size;have:=Nz.size;omega
   obtain ⟨bf,ad⟩:∃Fs:List (FactT (zAo)),Fs=[.eq (.slice oa s.length oc),.eq (P6 bz 1),.eq (.slice sa x.set.length sc),.gen (osG n1 x.set) (zIQ _ _),.gen (zQU x.set n1) (zIT _ _)]:=⟨_,rfl⟩;refine zKf (zAo) 5 3 [13,14,15,16,17] [[],[],[1],[2],[3]] bf ad rfl mixed qK qK qK ?_ ?_
   ·intro wd X0;refine DagStepsT.cons (fun s' w' X U H=>?_) ?_
    ·exact zBb (zAL (U 1 rfl) zGa ((Chg.keep X (fun f=>f) (X0.keep hB)).cell rfl)) (Chg.refl _ _) rfl
    refine DagStepsT.cons (fun s' w' X U H=>?_) ?_
    ·exact zBb (zAQ (U 2 rfl) underlying25 rfl zBm rfl) (Chg.refl _ _) rfl
    refine DagStepsT.cons (fun s' w' X U H=>?_) ?_
    ·have a1:s' 14=(.pointer (some ⟨bz,1,none⟩)):=H 1 rfl 14 (.eq (.pointer (some ⟨bz,1,none⟩))) rfl (by rw[ad];rfl);exact zBb (zAL a1 zBe ((Chg.keep X (fun f=>f) (X0.keep Bz)).cell rfl)) (Chg.refl _ _) rfl
    refine DagStepsT.cons (fun s' w' X U H=>?_) ?_
    ·have a4:s' 15=(.slice sa x.set.length sc):=H 2 rfl 15 (.eq (.slice sa x.set.length sc)) rfl (by rw[ad];rfl);exact zIv (zAV func114 zVA zVm (zOj a4)) ((zOD _ _ x.set (zBq.ext (zBq.ext ao (Nz.ext.trans X9)) (X0.trans X)) qO).mono (fun v w h=>⟨(by obtain ⟨⟨⟨a,c,h1⟩,h2⟩,_⟩:=h;subst h1;exact ⟨a,c,rfl,zKK h2 (by have:=X0.size;have:=X.size;omega)⟩:osG n1 x.set v w),h.2⟩))
    refine DagStepsT.cons (fun s' w' X U H=>?_) ?_
    ·obtain ⟨bc,a9,av,ax⟩:=(show (.gen (osG n1 x.set) (zIQ _ _):FactT (zAo)).In (s' 16) w' from H 3 rfl 16 (.gen (osG n1 x.set) (zIQ _ _)) rfl (by rw[ad];rfl));exact zPJ av (by have:=X0.size;have:=X.size;omega) ax
    exact DagStepsT.nil
   ·intro s' wd3 w3 X0 X3 U H;have bd:s' 13=(.slice oa s.length oc):=H 0 13 (.eq (.slice oa s.length oc)) rfl (by rw[ad];rfl);obtain ⟨bc,a9,av,ax⟩:=(show (.gen (osG n1 x.set) (zIQ _ _):FactT (zAo)).In (s' 16) w3 from H 3 16 (.gen (osG n1 x.set) (zIQ _ _)) rfl (by rw[ad];rfl));obtain ⟨bb,ar,a0,be,bh,h17,bg⟩:=(show (.gen (zQU x.set n1) (zIT _ _):FactT (zAo)).In (s' 17) w3 from H 4 17 (.gen (zQU x.set n1) (zIT _ _)) rfl (by rw[ad];rfl));obtain ⟨j3,rfl⟩:=zBA.out (σ:=s') (l:=[(1,(.pointer (some ⟨bo,0,none⟩))),(13,(.slice oa s.length oc)),(17,(.slice (some ⟨bb,0,none⟩) 1 1))]) ⟨U 1 rfl,bd,be,trivial⟩;clear U H;replace hB:=Chg.keep X3 (fun f=>f) (X0.keep hB);replace Bz:=Chg.keep X3 (fun f=>f) (X0.keep Bz);replace hL:=hL.ext X0;replace hL:=hL.ext X3;replace ae:=Nat.le_trans ae X0.size;replace ae:=Nat.le_trans ae X3.size;replace E:=(E.ext X0).step X3 (fun _ _ f=>f.elim);have hw3:=E.size;have au:=hL.on (n:=s.length) qP;refine zBC (base:=base) (n:=s.length) (m:=1) (xs:=vs) (news:=[(.slice ar x.set.length a0)]) (size:=1) (bytes:=24) (v:=(.slice oa s.length oc)) qD underlying50 zBm zTI zKi rfl qD rfl au rfl (rfl) (bh.cells rfl) qS (by unfold maxLen;omega) qO (ae) ?_;intro v9 w29 ap ak az;replace hB:=ak.keep (fun h=>by have:=(au.lt _ h).1;omega) hB;replace E:=E.step ak (fun y hy h=>(hD y).2 (.inr h));obtain ⟨ai,aj,rfl⟩:=zAw ap;have an:=hL.push (n:=s.length) qP bg qO (fun k h=>by have:=aq k h;omega) ap ak az;have ag:=Nat.le_trans ae ak.size;have a3:∀b,(Value.slice ai (s.length+1) aj).ownBlock=some b→D b∨w0.heap.size≤b:=fun b h=>by rcases az b h with h|h;exact .inl ((hD b).2 (.inr h));exact .inr qO
    refine zBr (b:=bo) (o:=0) (c':=#[(.slice ai (s.length+1) aj)]) (v:=(.slice ai (s.length+1) aj)) rfl rfl rfl zXx hB qP rfl ?_;intro w4 S4;replace an:=an.chg S4.chg (fun b hb _ h=>by have h2:b=bo:=h;omega);replace ag:=Nat.le_trans ag S4.chg.size;replace E:=S4.step E qQ;replace hB:=S4.blk;refine zAB (zAC (zAA (qA _ rfl (zAB (zAR (zAW results150 (v:=(.bool true)) rfl (⟨fun b=>b=bo∨(Value.slice ai (s.length+1) aj).ownBlock=some b,rfl,E,⟨ai,aj,vs++[.slice ar x.set.length a0],?_,?_,?_,am,ag,?_,?_⟩,?_⟩)))))))
    ·rw[ab,List.length_append];exact hB
    ·rw[ab,List.length_append,List.map_append];exact an
    ·intro b;rw[ab,List.length_append];exact Iff.rfl
    ·rw[ab,List.nodup_append];exact ⟨al,qP,fun a ha b hb=>by rw[List.mem_singleton.1 hb];rintro rfl;exact aw ha⟩
    ·intro y hy;rw[ab] at hy;rcases List.mem_append.1 hy with h|h
     ·exact af y h
     ·rw[List.mem_singleton.1 h];exact ay
    ·rintro b (rfl|h)
     ·exact .inl a5
     ·exact a3 b h
  ·have a8:=g2;replace g2:=by simpa using g2
   have ab:zHh s x=s:=zLz fun _=>g2;refine zAP (zAC (zAA (qA _ rfl (zAB (zAR (zAW results150 (v:=(.bool true)) rfl ?_))))));exact ⟨D,rfl,E,by rw[ab];exact ⟨oa,oc,vs,hB,hL,hD,am,ae,al,af⟩,fun b h=>.inl h⟩
 ·have ah:=g1;replace ah:=of_decide_eq_false ah;have ab:zHh s x=s:=zLz fun h=>by simp[h] at g1
  refine zAE rfl rfl qD (v:=.bool false) (cbk g1) (Or.inl rfl) (zAE rfl rfl qD (v:=.bool false) (cbk g1) (Or.inl rfl) (zAE rfl rfl qD (v:=.bool false) (cbk g1) (Or.inl rfl) (zAE rfl rfl qD (v:=.bool false) (cbk g1) (Or.inl rfl) (qV (zAd (v:=(.bool false)) rfl (by rw[g1];rfl)) (zAB (zAb rfl (zAP (zAC (zAA (qA _ rfl (zAB (zAR (zAW results150 (v:=(.bool true)) rfl ?_)))))))))))));exact ⟨D,rfl,E,by rw[ab];exact ⟨oa,oc,vs,hB,hL,hD,am,ae,al,af⟩,fun b h=>.inl h⟩
theorem zVr.ext {bo base:Nat} {SR s:List (List Sp)} {D:Nat→Prop} {w w':World} (h:zVr bo base SR s D w) (e:Ext w w'):zVr bo base SR s D w':=by
 obtain ⟨oa,oc,vs,hB,hL,hD,ab,ad,ac,aa⟩:=h;exact ⟨oa,oc,vs,e.keep hB,hL.ext e,hD,ab,Nat.le_trans ad e.size,ac,aa⟩
theorem zJJ {S:Type} (f:S→Re→S):∀(l:List Re) (s:S),zFC (fun s t=>(true,f s t)) l s=(true,l.foldl f s)
  | [],s=>rfl
  | t::l,s=>by simp only[zFC,if_true,List.foldl_cons];exact zJJ f l _
theorem zaM (w0:World) (t:Re) (vs:List Value) (ht:zBG w0 t vs) (hv:zDj (fun s=>zBR s=0) t) (hs:t.size≤1000) :
  Ret prog 104 #[.agg vs.toArray] w0 fun v w=>zBy w v (zCe t)∧Ext w0 w:=by
 have ab:=ht;obtain ⟨sa,sc,aa,ac,rfl,ag,_,_⟩:=ht.form;have ai:(zCe t).length≤1000∧∀s∈zCe t,zBR s=0:=⟨Nat.le_trans (zKB t) hs,zFj hv⟩;have hw:zDA (fun s t=>(true,zHh s t)) t []=(true,zCe t):=by rw[zGv,zJJ];rfl
 have af:zDj (fun s=>s∈zCe t) t:=zRy fun s h=>h;refine qR func104 rfl ntmps104 rfl (fun E=>(zAA (zBL (v:=(.agg (R6 t sa sc aa ac))) (c:=(R6 t sa sc aa ac)) qD rfl rfl ?_)));intro br wr Nr;have Fr:=Nr.ge E;replace E:=E.ext Nr.ext;have Br:=Nr.blk;refine qA _ rfl (zAB (zAA (zBJ (c:=#[(.slice none 0 0)]) qD zXq rfl ?_)));intro bo wo No;have Fo:=No.ge E;have Oo_br:=No.lt Br;replace Br:=No.keep Br;replace E:=E.ext No.ext;have Bo:=No.blk;refine zAB (zAA (qV (zAG (vs:=[(I6 t.kind),(.slice sa t.set.length sc),(.slice aa t.args.length ac),(I6 t.mn),(I6 t.mx),(.bool t.neg)]) rfl zAc zAO rfl (Br.cells rfl)) (qV (zCj rfl rfl) ?_)));have ah:=Bo.lt;have ae:zVr bo wo.heap.size (zCe t) [] (fun b=>b=bo) wo:=⟨none,0,[],Bo,LSt.start _ _ _ _ _,fun b=>⟨.inl,fun h=>h.elim id (fun h=>by cases h)⟩,Bo.lt,Nat.le_refl _,List.nodup_nil,fun x hx=>by cases hx⟩;refine qE rfl (zAV func121 zOg zPD rfl) ((zWD (fun s t=>(true,zHh s t)) (zVr bo wo.heap.size (zCe t)) (zDj (fun s=>s∈zCe t)) _ wr (fun s D w hI b hb=>by obtain ⟨oa,oc,vs,hB,hL,hD,h1,h2,_,_⟩:=hI;rcases (hD b).1 hb with h|h;exact ⟨by have:=No.eq;omega,qO⟩;exact ⟨by have:=(hL.o.lt b h).1;have:=No.size;omega,(hL.o.lt b h).2⟩) (fun s D w w' hI e=>hI.ext e) (fun t h x hx=>h.a x hx) (fun s D w t vs hE hP hI hx=>zCD.mk (first:=#[]) (cap:=#[.pointer (some ⟨bo,0,none⟩)]) func150 zYk zZq rfl (zXc w bo wo.heap.size _ ai s D t vs hI hP (zBG.ext hE t hx))) t.size t (Nat.le_refl _) af [] (fun b=>b=bo) _ _ No.ext ae (zBG.ext Nr.ext t ab)).mono (R':=fun v w=>v=.bool true∧(∃oa oc vs,Blk w bo #[.slice oa (zCe t).length oc] zao∧LSt TSs TSp 2 w wo.heap.size (.slice oa (zCe t).length oc) vs ((zCe t).map zVv))∧Chg (fun b=>b=bo) wo w) (fun v w h=>by obtain ⟨D',h1,h2,h3,_⟩:=h;rw[hw] at h1 h3;obtain ⟨oa,oc,vs,hB,hL,_⟩:=h3;exact ⟨h1,⟨oa,oc,vs,hB,hL⟩,h2⟩)) ?_;rintro _ w9 ⟨rfl,⟨oa,oc,us,ad,hL⟩,C9⟩;replace Br:=C9.keep qO Br;replace E:=E.step C9 (by intro x hx hm;omega);refine zAB (zAA (qV (zAL rfl zGa (ad.cell rfl)) (qA _ rfl (zAB (zAR (zAW results104 (v:=(.slice oa ((zCe t).length) oc)) rfl ?_))))));exact ⟨hL.spss,E⟩
end Go.Proofs
namespace Go.Proofs
open Go Go.Eng Go.Sort
set_option maxRecDepth 100000
theorem zVV (w0:World) (x y:Int×Int):Ret prog 177 #[.agg #[.int .i64 x.1,.int .i64 x.2],.agg #[.int .i64 y.1,.int .i64 y.2]] w0 fun v w=>v=.int .i64 (zCT x y)∧Ext w0 w:=by
 refine qR func177 rfl ntmps177 rfl (fun E=>(zAA (zBL (v:=(.agg #[(I6 x.1),(I6 x.2)])) (c:=#[(I6 x.1),(I6 x.2)]) qD rfl rfl ?_)));intro b1 w1 N1;have F1:=N1.ge E;replace E:=E.ext N1.ext;have B1:=N1.blk;refine zBL (v:=(.agg #[(I6 y.1),(I6 y.2)])) (c:=#[(I6 y.1),(I6 y.2)]) qD rfl rfl ?_;intro b2 w2 N2;have F2:=N2.ge E;have O2_b1:=N2.lt B1;replace B1:=N2.keep B1;replace E:=E.ext N2.ext;have B2:=N2.blk;refine qA _ rfl (zAB (zAK ?_));obtain ⟨ah,aa⟩:∃Fs:List Fact,Fs=[.eq (P6 b1 0),.eq (I6 x.1),.eq (P6 b2 0),.eq (I6 y.1),.eq (I6 (zCI x.1 y.1)),.eq (P6 b1 1),.eq (I6 x.2),.eq (P6 b2 1),.eq (I6 y.2),.eq (I6 (zCI x.2 y.2)),.gen (zJa (zCI x.1 y.1) (zCI x.2 y.2)) (zFd _ _),.eq (I6 (zCT x y)),.eq (I6 (zCT x y))]:=⟨_,rfl⟩;refine zEA [5,6,7,8,9,10,11,12,13,14,15,16,4] [[],[0],[],[2],[1,3],[],[5],[],[7],[4,6,8],[4,9],[9,10],[0,1,2,3,4,5,6,7,8,9,10,11]] ah aa mixed qK qK ?_ ?_
 ·intro wd X0;refine DagSteps.cons (fun s' w' X U H=>Or.inl ⟨?_,?_⟩) ?_
  ·exact zAD rfl
  ·exact zAJ (zAQ (U 2 rfl) underlying103 rfl zAv rfl) (Ext.refl _) rfl
  refine DagSteps.cons (fun s' w' X U H=>Or.inl ⟨?_,?_⟩) ?_
  ·exact zAD rfl
  ·have e5:s' 5=(.pointer (some ⟨b1,0,none⟩)):=H 0 rfl 5 (.eq (.pointer (some ⟨b1,0,none⟩))) rfl (by rw[aa];rfl);exact zAJ (zAL e5 zAf (((X0.trans X).keep B1).cell rfl)) (Ext.refl _) rfl
  refine DagSteps.cons (fun s' w' X U H=>Or.inl ⟨?_,?_⟩) ?_
  ·exact zAD rfl
  ·exact zAJ (zAQ (U 3 rfl) underlying103 rfl zAv rfl) (Ext.refl _) rfl
  refine DagSteps.cons (fun s' w' X U H=>Or.inl ⟨?_,?_⟩) ?_
  ·exact zAD rfl
  ·have e7:s' 7=(.pointer (some ⟨b2,0,none⟩)):=H 2 rfl 7 (.eq (.pointer (some ⟨b2,0,none⟩))) rfl (by rw[aa];rfl);exact zAJ (zAL e7 zAf (((X0.trans X).keep B2).cell rfl)) (Ext.refl _) rfl
  refine DagSteps.cons (fun s' w' X U H=>Or.inl ⟨?_,?_⟩) ?_
  ·exact zAD rfl
  ·have e6:s' 6=(.int .i64 x.1):=H 1 rfl 6 (.eq (.int .i64 x.1)) rfl (by rw[aa];rfl);have e8:s' 8=(.int .i64 y.1):=H 3 rfl 8 (.eq (.int .i64 y.1)) rfl (by rw[aa];rfl);exact zAs (zAV func158 zMX zMs (zHG e6 e8)) (zDx _ _ _)
  refine DagSteps.cons (fun s' w' X U H=>Or.inl ⟨?_,?_⟩) ?_
  ·exact zAD rfl
  ·exact zAJ (zAQ (U 2 rfl) underlying103 rfl zAv rfl) (Ext.refl _) rfl
  refine DagSteps.cons (fun s' w' X U H=>Or.inl ⟨?_,?_⟩) ?_
  ·exact zAD rfl
  ·have ad:s' 10=(.pointer (some ⟨b1,1,none⟩)):=H 5 rfl 10 (.eq (.pointer (some ⟨b1,1,none⟩))) rfl (by rw[aa];rfl);exact zAJ (zAL ad zAf (((X0.trans X).keep B1).cell rfl)) (Ext.refl _) rfl
  refine DagSteps.cons (fun s' w' X U H=>Or.inl ⟨?_,?_⟩) ?_
  ·exact zAD rfl
  ·exact zAJ (zAQ (U 3 rfl) underlying103 rfl zAv rfl) (Ext.refl _) rfl
  refine DagSteps.cons (fun s' w' X U H=>Or.inl ⟨?_,?_⟩) ?_
  ·exact zAD rfl
  ·have ai:s' 12=(.pointer (some ⟨b2,1,none⟩)):=H 7 rfl 12 (.eq (.pointer (some ⟨b2,1,none⟩))) rfl (by rw[aa];rfl);exact zAJ (zAL ai zAf (((X0.trans X).keep B2).cell rfl)) (Ext.refl _) rfl
  refine DagSteps.cons (fun s' w' X U H=>Or.inl ⟨?_,?_⟩) ?_
  ·exact zAD rfl
  ·have aj:s' 11=(.int .i64 x.2):=H 6 rfl 11 (.eq (.int .i64 x.2)) rfl (by rw[aa];rfl);have af:s' 13=(.int .i64 y.2):=H 8 rfl 13 (.eq (.int .i64 y.2)) rfl (by rw[aa];rfl);exact zAs (zAV func158 zMX zMs (zHG aj af)) (zDx _ _ _)
  refine DagSteps.cons (fun s' w' X U H=>Or.inl ⟨?_,?_⟩) ?_
  ·exact zAD rfl
  ·have e9:s' 9=(.int .i64 (zCI x.1 y.1)):=H 4 rfl 9 (.eq (.int .i64 (zCI x.1 y.1))) rfl (by rw[aa];rfl);have ae:s' 14=(.int .i64 (zCI x.2 y.2)):=H 9 rfl 14 (.eq (.int .i64 (zCI x.2 y.2))) rfl (by rw[aa];rfl);exact zJt e9 ae
  refine DagSteps.cons (fun s' w' X U H=>Or.inl ⟨?_,?_⟩) ?_
  ·exact zAD rfl
  ·obtain ⟨b15,ab,ag⟩:=H 10 rfl 15 (.gen (zJa (zCI x.1 y.1) (zCI x.2 y.2)) (zFd _ _)) rfl (by rw[aa];rfl);exact zAs (zAV func206 zUx zVj (zOj ab)) (zUW _ _ _ (ab▸ag))
  refine DagSteps.cons (fun s' w' X U H=>Or.inl ⟨?_,?_⟩) ?_
  ·exact zAD rfl
  ·have ac:s' 16=(.int .i64 (zCT x y)):=H 11 rfl 16 (.eq (.int .i64 (zCT x y))) rfl (by rw[aa];rfl);exact zAJ (zEI ac) (Ext.refl _) rfl
  exact DagSteps.nil
 ·intro s' w3 X3 U H;obtain ⟨j3,rfl⟩:=zBA.out (σ:=s') (l:=[(4,(.int .i64 (zCT x y)))]) ⟨(show s' 4=(.int .i64 (zCT x y)) from H 12 4 (.eq (.int .i64 (zCT x y))) rfl (by rw[aa];rfl)),trivial⟩;clear U H;replace B1:=X3.keep B1;replace B2:=X3.keep B2;replace E:=E.ext X3;refine zAC (zAR (zAW results177 (v:=(.int .i64 (zCT x y))) rfl ?_));exact ⟨rfl,E⟩
theorem zVW (w0:World) (v1 v2 fv:Value) (l1 l2:List (Int×Int)) (f:Int×Int→Int×Int→Int) (h1:zBQ w0 v1 l1) (h2:zBQ w0 v2 l2)
  (hf:∀(w:World) (x y:Int×Int),Ext w0 w→zCD prog fv #[.agg #[.int .i64 x.1,.int .i64 x.2],.agg #[.int .i64 y.1,.int .i64 y.2]] w fun r w'=>r=.int .i64 (f x y)∧Ext w w') :
  Ret prog 255 #[v1,v2,fv] w0 fun v w=>v=.int .i64 (zDY f l1 l2)∧Ext w0 w:=by
 obtain ⟨a1,c1,rfl⟩:=zBq.form h1;obtain ⟨a2,c2,rfl⟩:=zBq.form h2;have ad:=zBq.le h1;have ac:=zBq.le h2;simp only[List.length_map] at h1 h2 ad ac⊢;refine qR func255 rfl ntmps255 rfl (fun E=>(zAA (qA _ rfl (zAB (zAK (zAA (qM _ rfl (qV (zAM underlying22 rfl) (qM _ rfl (zAB (zAT (zAq (fun nn_ σ W1=>∃(k:Nat),(∃jj_,σ=zCH jj_ [(0,(.slice a1 l1.length c1)),(1,(.slice a2 l2.length c2)),(2,fv),(11,(.slice a1 l1.length c1)),(12,(I6 (l1.length:Int))),(13,(I6 (k:Int)))])∧Chg zAo w0 W1∧(k≤l1.length)∧(k≤l2.length)∧(zDY f l1 l2=zDY f (l1.drop k) (l2.drop k))∧nn_=l1.length - k) (n:=l1.length - 0) ?_ ?_))))))))))))
 ·exact ⟨0,zBA.out ⟨rfl,rfl,rfl,rfl,rfl,rfl,trivial⟩,E,Nat.zero_le _,Nat.zero_le _,rfl,rfl⟩
 ·clear E;rintro _ _ W1 ⟨k,⟨j1,rfl⟩,E,hk,hk2,aa,rfl⟩;refine zAA (qV (zBH rfl rfl) (zAB (zAK (qC rfl (fun ae=>?_) (fun ae=>?_)))))
  ·obtain ⟨p,hp⟩:=zAU (l:=l1) (i:=k) (by omega);obtain ⟨b1,o1,rfl,ai⟩:=zBN h1 (by omega);rw[zBU hp] at aa;refine zAP (zAC (zAK (zAT (zAA (qM _ rfl (qV (zAH (b:=b1) (o:=o1) (len:=l1.length) (cap:=c1) (i:=k) (o':=o1+k*2) rfl rfl rfl underlying22 zBB (by omega) (by omega)) (qV (zAG rfl zCi zBB rfl ((ai k p hp).ext E)) (zBJ (c:=#[(I6 0),(I6 0)]) (by decide) zCb rfl ?_))))))));intro bp wp Np;have Fp:=Np.ge E;replace E:=E.ext Np.ext;have Bp:=Np.blk;refine qA _ rfl (zAY (b:=bp) (o:=0) (c':=#[(I6 p.1),(I6 p.2)]) rfl rfl (by simp[Value.oneCell']) zBB rfl Bp (by first|(simp;done)|exact leT rfl) rfl ?_);intro w3 S3;replace E:=S3.step E (by first|exact Or.inl (by omega)|exact Or.inr rfl|exact Or.inr (by assumption)|exact Or.inr (by simp)|exact Or.inr (by omega)|exact Or.inr (by dsimp only;omega));replace Bp:=S3.blk;refine zAB (zAK (zAA (qM _ rfl (qM _ rfl (qV (zAM underlying22 rfl) (qV (zFG rfl rfl) (zAB (qC rfl (fun ah=>?_) (fun ah=>?_)))))))))
   ·refine zAA (qA _ rfl (zAB (zAR (zAI (zAZ (zAI (zAI (zAZ (zAI (zAW results255 (v:=(.int .i64 1)) rfl ?_))))))))));exact ⟨zBO (by rw[aa,List.drop_eq_nil_of_le (show l2.length≤k by omega)];rfl),E⟩
   ·obtain ⟨q,hq⟩:=zAU (l:=l2) (i:=k) (by omega);obtain ⟨b2,o2,rfl,ag⟩:=zBN h2 (by omega);rw[zBU hq] at aa;refine zAP (zAC (zAA (qM _ rfl (qM _ rfl (qV (zAH (b:=b2) (o:=o2) (len:=l2.length) (cap:=c2) (i:=k) (o':=o2+k*2) rfl rfl rfl underlying22 zBB (by omega) (by omega)) (qV (zAG rfl zCi zBB rfl ((ag k q hq).ext E)) (zAg (v:=(.agg #[(I6 q.1),(I6 q.2)])) (c:=#[(I6 q.1),(I6 q.2)]) (n:=2) (by decide) zCb rfl zBB rfl rfl rfl (by simp[Value.oneCell']) ?_)))))));intro bq wq Nq;have Fq:=Nq.ge E;have Oq_bp:=Nq.lt Bp;replace Bp:=Nq.keep Bp;replace E:=E.ext Nq.ext;have Bq:=Nq.blk;refine zAB (zAA (qM _ rfl (qV (zAG (vs:=[(I6 p.1),(I6 p.2)]) rfl zCi zBB rfl (Bp.cells rfl)) (qV (zAG (vs:=[(I6 q.1),(I6 q.2)]) rfl zCi zBB rfl (Bq.cells rfl)) (zCZ (by decide) rfl rfl (hf _ p q E) ?_)))));rintro _ w9 ⟨rfl,X9⟩;replace Bp:=X9.keep Bp;replace Bq:=X9.keep Bq;replace E:=E.ext X9;refine qA _ rfl (zAB (zAA (qM _ rfl (qV (zBo rfl rfl) (zAB (qC rfl (fun ab=>?_) (fun ab=>?_)))))))
    ·refine zAA (qM _ rfl (qA _ rfl (zAB (zAR (zAZ (zAI (zAI (zAZ (zAI (zAW results255 (v:=(.int .i64 (f p q))) rfl ?_))))))))));exact ⟨zBO (by rw[aa,zDY,zFo,if_pos ab]),E⟩
    ·refine zAP (zAS (zAC (zAN (qV (zAy rfl rfl (zBV (by omega))) (qM _ rfl (zAB (zAC ?_)))))));exact ⟨l1.length - (k+1),by omega,k+1,zBA.out ⟨rfl,rfl,rfl,rfl,rfl,rfl,trivial⟩,E,(by omega),(by omega),(by rw[aa,zDY,zFo,if_neg ab]),rfl⟩
  ·have af:k=l1.length:=by omega
   rw[af,List.drop_length] at aa;refine zAp (zAX (zAX (zAj (zAC (zAK (zAA (qM _ rfl (qV (zAM underlying22 rfl) (qM _ rfl (qV (zAM underlying22 rfl) (qV (zBH rfl rfl) (zAB (qC rfl (fun hl=>?_) (fun hl=>?_))))))))))))))
   ·obtain ⟨q,hq⟩:=zAU (l:=l2) (i:=l1.length) (by omega);refine zAA (qA _ rfl (zAB (zAR (zAI (zAW results255 (v:=(.int .i64 (-1))) rfl ?_)))));exact ⟨zBO (by rw[aa,zBU hq];rfl),E⟩
   ·refine zAP (zAC (zAA (qA _ rfl (zAB (zAR (zAW results255 (v:=(.int .i64 0)) rfl ?_))))));exact ⟨zBO (by rw[aa,List.drop_eq_nil_of_le (by omega)];rfl),E⟩
theorem zUO (w0:World) (v1 v2:Value) (l1 l2:List (Int×Int)) (h1:zBQ w0 v1 l1) (h2:zBQ w0 v2 l2) :
  Ret prog 222 #[v1,v2] w0 fun v w=>v=.int .i64 (zDY zCT l1 l2)∧Ext w0 w:=by
 refine qR func222 rfl ntmps222 rfl (fun E=>(zAA (qA _ rfl (zAB (zAA (qM _ rfl (qM _ rfl (qE rfl (zAV func255 zYN zZT rfl) (zVW _ v1 v2 _ l1 l2 zCT h1 h2 (fun w x y _=>zCD.mk (first:=#[]) (cap:=#[]) func177 zWf zXP rfl (zVV w x y))) ?_))))))));rintro _ w9 ⟨rfl,X9⟩;replace E:=E.ext X9;refine qA _ rfl (zAB (zAR (zAW results222 (v:=(.int .i64 (zDY zCT l1 l2))) rfl ?_)));exact ⟨rfl,E⟩
theorem zNc:∀a b:List Re,zCG a b=zDY zCm a b
  | [],[]=>rfl
  | [],_::_=>rfl
  | _::_,[]=>rfl
  | t::ts,u::us=>by simp only[zCG,zDY,zNc ts us]
theorem zVX (w0:World) (v1 v2 fv:Value) (l1 l2:List Re) (h1:zIs w0 v1 l1) (h2:zIs w0 v2 l2)
  (hf:∀(w:World) (x u:Re) (vs us:List Value),Ext w0 w→x∈l1→zBG w x vs→zBG w u us→zCD prog fv #[.agg vs.toArray,.agg us.toArray] w fun r w'=>r=.int .i64 (zCm x u)∧Ext w w') :
  Ret prog 223 #[v1,v2,fv] w0 fun v w=>v=.int .i64 (zCG l1 l2)∧Ext w0 w:=by
 have g1:=h1;have g2:=h2;obtain ⟨a1,c1,rfl,hb1,_⟩:=h1;obtain ⟨a2,c2,rfl,hb2,_⟩:=h2;rw[zNc];refine qR func223 rfl ntmps223 rfl (fun E=>(zAA (qA _ rfl (zAB (zAK (zAA (qM _ rfl (qV (zAM underlying23 rfl) (qM _ rfl (zAB (zAT (zAq (fun nn_ σ W1=>∃(k:Nat),(∃jj_,σ=zCH jj_ [(0,(.slice a1 l1.length c1)),(1,(.slice a2 l2.length c2)),(2,fv),(11,(.slice a1 l1.length c1)),(12,(I6 (l1.length:Int))),(13,(I6 (k:Int)))])∧Chg zAo w0 W1∧(k≤l1.length)∧(k≤l2.length)∧(zDY zCm l1 l2=zDY zCm (l1.drop k) (l2.drop k))∧nn_=l1.length - k) (n:=l1.length - 0) ?_ ?_))))))))))))
 ·exact ⟨0,zBA.out ⟨rfl,rfl,rfl,rfl,rfl,rfl,trivial⟩,E,Nat.zero_le _,Nat.zero_le _,rfl,rfl⟩
 ·clear E;rintro _ _ W1 ⟨k,⟨j1,rfl⟩,E,hk,hk2,ab,rfl⟩;refine zAA (qV (zBH rfl rfl) (zAB (zAK (qC rfl (fun am=>?_) (fun am=>?_)))))
  ·obtain ⟨p,hp⟩:=zAU (l:=l1) (i:=k) (by omega);obtain ⟨b1,o1,rfl,au⟩:=g1.cells (by omega);obtain ⟨vs,an,al⟩:=au k p hp;have ad:=al;obtain ⟨sa,sc,aa,ac,rfl,_,_,_⟩:=al.form;rw[zBU hp] at ab;refine zAP (zAC (zAK (zAT (zAA (qM _ rfl (qV (zAH (b:=b1) (o:=o1) (len:=l1.length) (cap:=c1) (i:=k) (o':=o1+k*6) rfl rfl rfl underlying23 zAO (by omega) (by omega)) (qV (zAG rfl zAc zAO rfl (an.ext E)) (zBJ (c:=#[(I6 0),(.slice none 0 0),(.slice none 0 0),(I6 0),(I6 0),(.bool false)]) (by decide) zAu rfl ?_))))))));intro bp wp Np;have Fp:=Np.ge E;replace E:=E.ext Np.ext;have Bp:=Np.blk;refine qA _ rfl (zAY (b:=bp) (o:=0) (c':=(R6 p sa sc aa ac)) rfl rfl (by simp[Value.oneCell']) zAO rfl Bp (by first|(simp;done)|exact leT rfl) rfl ?_);intro w3 S3;replace E:=S3.step E (by first|exact Or.inl (by omega)|exact Or.inr rfl|exact Or.inr (by assumption)|exact Or.inr (by simp)|exact Or.inr (by omega)|exact Or.inr (by dsimp only;omega));replace Bp:=S3.blk;refine zAB (zAK (zAA (qM _ rfl (qM _ rfl (qV (zAM underlying23 rfl) (qV (zFG rfl rfl) (zAB (qC rfl (fun ar=>?_) (fun ar=>?_)))))))))
   ·refine zAA (qA _ rfl (zAB (zAR (zAI (zAZ (zAI (zAI (zAZ (zAI (zAW results223 (v:=(.int .i64 1)) rfl ?_))))))))));exact ⟨zBO (by rw[ab,List.drop_eq_nil_of_le (show l2.length≤k by omega)];rfl),E⟩
   ·obtain ⟨q,hq⟩:=zAU (l:=l2) (i:=k) (by omega);obtain ⟨b2,o2,rfl,aq⟩:=g2.cells (by omega);obtain ⟨us,ap,ak⟩:=aq k q hq;have aj:=ak;obtain ⟨ae,ai,ah,af,rfl,_,_,_⟩:=ak.form;rw[zBU hq] at ab;refine zAP (zAC (zAA (qM _ rfl (qM _ rfl (qV (zAH (b:=b2) (o:=o2) (len:=l2.length) (cap:=c2) (i:=k) (o':=o2+k*6) rfl rfl rfl underlying23 zAO (by omega) (by omega)) (qV (zAG rfl zAc zAO rfl (ap.ext E)) (zAg (v:=(.agg (R6 q ae ai ah af))) (c:=(R6 q ae ai ah af)) (n:=6) (by decide) zAu rfl zAO rfl rfl rfl (by simp[Value.oneCell']) ?_)))))));intro bq wq Nq;have Fq:=Nq.ge E;have Oq_bp:=Nq.lt Bp;replace Bp:=Nq.keep Bp;replace E:=E.ext Nq.ext;have Bq:=Nq.blk;refine zAB (zAA (qM _ rfl (qV (zAG (vs:=[(I6 p.kind),(.slice sa p.set.length sc),(.slice aa p.args.length ac),(I6 p.mn),(I6 p.mx),(.bool p.neg)]) rfl zAc zAO rfl (Bp.cells rfl)) (qV (zAG (vs:=[(I6 q.kind),(.slice ae q.set.length ai),(.slice ah q.args.length af),(I6 q.mn),(I6 q.mx),(.bool q.neg)]) rfl zAc zAO rfl (Bq.cells rfl)) (zCZ (by decide) rfl rfl (hf _ p q _ _ E (List.mem_of_getElem? hp) (zBG.ext E p ad) (zBG.ext E q aj)) ?_)))));rintro _ w9 ⟨rfl,X9⟩;replace Bp:=X9.keep Bp;replace Bq:=X9.keep Bq;replace E:=E.ext X9;refine qA _ rfl (zAB (zAA (qM _ rfl (qV (zBo rfl rfl) (zAB (qC rfl (fun ag=>?_) (fun ag=>?_)))))))
    ·refine zAA (qM _ rfl (qA _ rfl (zAB (zAR (zAZ (zAI (zAI (zAZ (zAI (zAW results223 (v:=(.int .i64 (zCm p q))) rfl ?_))))))))));exact ⟨zBO (by rw[ab,zDY,zFo,if_pos ag]),E⟩
    ·refine zAP (zAS (zAC (zAN (qV (zAy rfl rfl (zBV (by omega))) (qM _ rfl (zAB (zAC ?_)))))));exact ⟨l1.length - (k+1),by omega,k+1,zBA.out ⟨rfl,rfl,rfl,rfl,rfl,rfl,trivial⟩,E,(by omega),(by omega),(by rw[ab,zDY,zFo,if_neg ag]),rfl⟩
  ·have ao:k=l1.length:=by omega
   rw[ao,List.drop_length] at ab;refine zAp (zAX (zAX (zAj (zAC (zAK (zAA (qM _ rfl (qV (zAM underlying23 rfl) (qM _ rfl (qV (zAM underlying23 rfl) (qV (zBH rfl rfl) (zAB (qC rfl (fun hl=>?_) (fun hl=>?_))))))))))))))
   ·obtain ⟨q,hq⟩:=zAU (l:=l2) (i:=l1.length) (by omega);refine zAA (qA _ rfl (zAB (zAR (zAI (zAW results223 (v:=(.int .i64 (-1))) rfl ?_)))));exact ⟨zBO (by rw[ab,zBU hq];rfl),E⟩
   ·refine zAP (zAC (zAA (qA _ rfl (zAB (zAR (zAW results223 (v:=(.int .i64 0)) rfl ?_))))));exact ⟨zBO (by rw[ab,List.drop_eq_nil_of_le (by omega)];rfl),E⟩
def zNl (a b c d e:Int):Fct:=fun v w=>∃bb,v=.slice (some ⟨bb,0,none⟩) 5 5∧zBt w v [a,b,c,d,e]
theorem zJZ (a b c d e:Int):zGq (zNl a b c d e):=by
 rintro v w w' x ⟨bb,h1,h2⟩;exact ⟨bb,h1,h2.ext x⟩
theorem zPI {N:Nat} {σ:Env} {w:World} {dst:Option Tmp} {ty:TypeId} {pos:String} {af:Array Edge} {g:Option (Nat×Bool)} {x1 x2 x3 x4 x5:Operand} {a b c d e:Int} (h1:ev σ x1=.int .i64 a) (h2:ev σ x2=.int .i64 b) (h3:ev σ x3=.int .i64 c) (h4:ev σ x4=.int .i64 d) (h5:ev σ x5=.int .i64 e) :
  zPK prog N ⟨dst,.buildSlice 26 5 #[(0,x1),(1,x2),(2,x3),(3,x4),(4,x5)],ty,pos,af,g⟩ (zNl a b c d e) σ w:=by
 have hn:=New.mk' w #[.int .i64 a,.int .i64 b,.int .i64 c,.int .i64 d,.int .i64 e] 3;refine zAJ (zCM (parts:=[(0,x1),(1,x2),(2,x3),(3,x4),(4,x5)]) (ps:=[(0,.int .i64 a),(1,.int .i64 b),(2,.int .i64 c),(3,.int .i64 d),(4,.int .i64 e)]) (by simp only[List.map,h1,h2,h3,h4,h5]) underlying26 zAv zFB qD qD qK) hn.ext ?_;exact ⟨_,rfl,zDv [a,b,c,d,e] hn.blk qP qP⟩
theorem zUt (t u:Re):zCm t u=orL [zCI t.kind u.kind,zDY zCT t.set u.set,zCI t.mn u.mn,zCI t.mx u.mx,zCG t.args u.args]:=by cases t;cases u;rfl
theorem zUs:∀(n:Nat) (t u:Re) (w0:World) (vs us:List Value),t.size≤n→zBG w0 t vs→zBG w0 u us→
    Ret prog 184 #[.agg vs.toArray,.agg us.toArray] w0 fun v w=>v=.int .i64 (zCm t u)∧Ext w0 w:=by
  intro n
  induction n with
  | zero=>intro t u w0 vs us h;have:=t.size_pos;omega
  | succ n ih=>
  intro t u w0 vs us hn ht hu;have aw:=ht;have bh:=hu;obtain ⟨sa,sc,aa,ac,rfl,aj,ar,am⟩:=ht.form;obtain ⟨af,ah,ad,ae,rfl,ag,al,ai⟩:=hu.form;have aq:zIs w0 (.slice aa t.args.length ac) t.args:=zBG.rs aw;have ba:zIs w0 (.slice ad u.args.length ae) u.args:=zBG.rs bh;rw[zUt];refine qR func184 rfl ntmps184 rfl (fun E=>(zAA (zBL (v:=(.agg (R6 t sa sc aa ac))) (c:=(R6 t sa sc aa ac)) qD rfl rfl ?_)));intro b1 w1 N1;have F1:=N1.ge E;replace E:=E.ext N1.ext;have B1:=N1.blk;refine zBL (v:=(.agg (R6 u af ah ad ae))) (c:=(R6 u af ah ad ae)) qD rfl rfl ?_;intro b2 w2 N2;have F2:=N2.ge E;have O2_b1:=N2.lt B1;replace B1:=N2.keep B1;replace E:=E.ext N2.ext;have B2:=N2.blk;refine qA _ rfl (zAB (zAK ?_));obtain ⟨bf,ab⟩:∃Fs:List Fact,Fs=[.eq (P6 b1 0),.eq (I6 t.kind),.eq (P6 b2 0),.eq (I6 u.kind),.eq (I6 (zCI t.kind u.kind)),.eq (P6 b1 1),.eq (.slice sa t.set.length sc),.eq (P6 b2 1),.eq (.slice af u.set.length ah),.eq (I6 (zDY zCT t.set u.set)),.eq (P6 b1 3),.eq (I6 t.mn),.eq (P6 b2 3),.eq (I6 u.mn),.eq (I6 (zCI t.mn u.mn)),.eq (P6 b1 4),.eq (I6 t.mx),.eq (P6 b2 4),.eq (I6 u.mx),.eq (I6 (zCI t.mx u.mx)),.eq (P6 b1 2),.eq (.slice aa t.args.length ac),.eq (P6 b2 2),.eq (.slice ad u.args.length ae),.eq (I6 (zCG t.args u.args)),.gen (zNl (zCI t.kind u.kind) (zDY zCT t.set u.set) (zCI t.mn u.mn) (zCI t.mx u.mx) (zCG t.args u.args)) (zJZ _ _ _ _ _),.eq (I6 (orL [zCI t.kind u.kind,zDY zCT t.set u.set,zCI t.mn u.mn,zCI t.mx u.mx,zCG t.args u.args])),.eq (I6 (orL [zCI t.kind u.kind,zDY zCT t.set u.set,zCI t.mn u.mn,zCI t.mx u.mx,zCG t.args u.args]))]:=⟨_,rfl⟩;refine zEA [5,6,7,8,9,10,11,12,13,14,15,16,17,18,19,20,21,22,23,24,25,26,27,28,29,30,31,4] [[],[0],[],[2],[1,3],[],[5],[],[7],[4,6,8],[],[10],[],[12],[9,11,13],[],[15],[],[17],[14,16,18],[],[20],[],[22],[19,21,23],[4,9,14,19,24],[24,25],[0,1,2,3,4,5,6,7,8,9,10,11,12,13,14,15,16,17,18,19,20,21,22,23,24,25,26]] bf ab mixed qK qK ?_ ?_
  · intro wd X0;refine DagSteps.cons (fun s' w' X U H=>Or.inl ⟨?_,?_⟩) ?_
    · exact zAD rfl
    · exact zAJ (zAQ (U 2 rfl) underlying25 rfl zAv rfl) (Ext.refl _) rfl
    refine DagSteps.cons (fun s' w' X U H=>Or.inl ⟨?_,?_⟩) ?_
    · exact zAD rfl
    · have e5:s' 5=(.pointer (some ⟨b1,0,none⟩)):=H 0 rfl 5 (.eq (.pointer (some ⟨b1,0,none⟩))) rfl (by rw[ab];rfl);exact zAJ (zAL e5 zAf (((X0.trans X).keep B1).cell rfl)) (Ext.refl _) rfl
    refine DagSteps.cons (fun s' w' X U H=>Or.inl ⟨?_,?_⟩) ?_
    · exact zAD rfl
    · exact zAJ (zAQ (U 3 rfl) underlying25 rfl zAv rfl) (Ext.refl _) rfl
    refine DagSteps.cons (fun s' w' X U H=>Or.inl ⟨?_,?_⟩) ?_
    · exact zAD rfl
    · have e7:s' 7=(.pointer (some ⟨b2,0,none⟩)):=H 2 rfl 7 (.eq (.pointer (some ⟨b2,0,none⟩))) rfl (by rw[ab];rfl);exact zAJ (zAL e7 zAf (((X0.trans X).keep B2).cell rfl)) (Ext.refl _) rfl
    refine DagSteps.cons (fun s' w' X U H=>Or.inl ⟨?_,?_⟩) ?_
    · exact zAD rfl
    · have e6:s' 6=(.int .i64 t.kind):=H 1 rfl 6 (.eq (.int .i64 t.kind)) rfl (by rw[ab];rfl);have e8:s' 8=(.int .i64 u.kind):=H 3 rfl 8 (.eq (.int .i64 u.kind)) rfl (by rw[ab];rfl);exact zAs (zAV func158 zMX zMs (zHG e6 e8)) (zDx _ _ _)
    refine DagSteps.cons (fun s' w' X U H=>Or.inl ⟨?_,?_⟩) ?_
    · exact zAD rfl
    · exact zAJ (zAQ (U 2 rfl) underlying25 rfl zBm rfl) (Ext.refl _) rfl
    refine DagSteps.cons (fun s' w' X U H=>Or.inl ⟨?_,?_⟩) ?_
    · exact zAD rfl
    · have au:s' 10=(.pointer (some ⟨b1,1,none⟩)):=H 5 rfl 10 (.eq (.pointer (some ⟨b1,1,none⟩))) rfl (by rw[ab];rfl);exact zAJ (zAL au zBe (((X0.trans X).keep B1).cell rfl)) (Ext.refl _) rfl
    refine DagSteps.cons (fun s' w' X U H=>Or.inl ⟨?_,?_⟩) ?_
    · exact zAD rfl
    · exact zAJ (zAQ (U 3 rfl) underlying25 rfl zBm rfl) (Ext.refl _) rfl
    refine DagSteps.cons (fun s' w' X U H=>Or.inl ⟨?_,?_⟩) ?_
    · exact zAD rfl
    · have a6:s' 12=(.pointer (some ⟨b2,1,none⟩)):=H 7 rfl 12 (.eq (.pointer (some ⟨b2,1,none⟩))) rfl (by rw[ab];rfl);exact zAJ (zAL a6 zBe (((X0.trans X).keep B2).cell rfl)) (Ext.refl _) rfl
    refine DagSteps.cons (fun s' w' X U H=>Or.inl ⟨?_,?_⟩) ?_
    · exact zAD rfl
    · have a7:s' 11=(.slice sa t.set.length sc):=H 6 rfl 11 (.eq (.slice sa t.set.length sc)) rfl (by rw[ab];rfl);have bc:s' 13=(.slice af u.set.length ah):=H 8 rfl 13 (.eq (.slice af u.set.length ah)) rfl (by rw[ab];rfl);exact zAs (zAV func222 zYR zZX (zHG a7 bc)) (zUO _ _ _ _ _ (aj.ext (Ext.trans E (X0.trans X))) (ag.ext (Ext.trans E (X0.trans X))))
    refine DagSteps.cons (fun s' w' X U H=>Or.inl ⟨?_,?_⟩) ?_
    · exact zAD rfl
    · exact zAJ (zAQ (U 2 rfl) underlying25 rfl zAv rfl) (Ext.refl _) rfl
    refine DagSteps.cons (fun s' w' X U H=>Or.inl ⟨?_,?_⟩) ?_
    · exact zAD rfl
    · have a0:s' 15=(.pointer (some ⟨b1,3,none⟩)):=H 10 rfl 15 (.eq (.pointer (some ⟨b1,3,none⟩))) rfl (by rw[ab];rfl);exact zAJ (zAL a0 zAf (((X0.trans X).keep B1).cell rfl)) (Ext.refl _) rfl
    refine DagSteps.cons (fun s' w' X U H=>Or.inl ⟨?_,?_⟩) ?_
    · exact zAD rfl
    · exact zAJ (zAQ (U 3 rfl) underlying25 rfl zAv rfl) (Ext.refl _) rfl
    refine DagSteps.cons (fun s' w' X U H=>Or.inl ⟨?_,?_⟩) ?_
    · exact zAD rfl
    · have be:s' 17=(.pointer (some ⟨b2,3,none⟩)):=H 12 rfl 17 (.eq (.pointer (some ⟨b2,3,none⟩))) rfl (by rw[ab];rfl);exact zAJ (zAL be zAf (((X0.trans X).keep B2).cell rfl)) (Ext.refl _) rfl
    refine DagSteps.cons (fun s' w' X U H=>Or.inl ⟨?_,?_⟩) ?_
    · exact zAD rfl
    · have ay:s' 16=(.int .i64 t.mn):=H 11 rfl 16 (.eq (.int .i64 t.mn)) rfl (by rw[ab];rfl);have a9:s' 18=(.int .i64 u.mn):=H 13 rfl 18 (.eq (.int .i64 u.mn)) rfl (by rw[ab];rfl);exact zAs (zAV func158 zMX zMs (zHG ay a9)) (zDx _ _ _)
    refine DagSteps.cons (fun s' w' X U H=>Or.inl ⟨?_,?_⟩) ?_
    · exact zAD rfl
    · exact zAJ (zAQ (U 2 rfl) underlying25 rfl zAv rfl) (Ext.refl _) rfl
    refine DagSteps.cons (fun s' w' X U H=>Or.inl ⟨?_,?_⟩) ?_
    · exact zAD rfl
    · have a4:s' 20=(.pointer (some ⟨b1,4,none⟩)):=H 15 rfl 20 (.eq (.pointer (some ⟨b1,4,none⟩))) rfl (by rw[ab];rfl);exact zAJ (zAL a4 zAf (((X0.trans X).keep B1).cell rfl)) (Ext.refl _) rfl
    refine DagSteps.cons (fun s' w' X U H=>Or.inl ⟨?_,?_⟩) ?_
    · exact zAD rfl
    · exact zAJ (zAQ (U 3 rfl) underlying25 rfl zAv rfl) (Ext.refl _) rfl
    refine DagSteps.cons (fun s' w' X U H=>Or.inl ⟨?_,?_⟩) ?_
    · exact zAD rfl
    · have ax:s' 22=(.pointer (some ⟨b2,4,none⟩)):=H 17 rfl 22 (.eq (.pointer (some ⟨b2,4,none⟩))) rfl (by rw[ab];rfl);exact zAJ (zAL ax zAf (((X0.trans X).keep B2).cell rfl)) (Ext.refl _) rfl
    refine DagSteps.cons (fun s' w' X U H=>Or.inl ⟨?_,?_⟩) ?_
    · exact zAD rfl
    · have ap:s' 21=(.int .i64 t.mx):=H 16 rfl 21 (.eq (.int .i64 t.mx)) rfl (by rw[ab];rfl);have a3:s' 23=(.int .i64 u.mx):=H 18 rfl 23 (.eq (.int .i64 u.mx)) rfl (by rw[ab];rfl);exact zAs (zAV func158 zMX zMs (zHG ap a3)) (zDx _ _ _)
    refine DagSteps.cons (fun s' w' X U H=>Or.inl ⟨?_,?_⟩) ?_
    · exact zAD rfl
    · exact zAJ (zAQ (U 2 rfl) underlying25 rfl zBS rfl) (Ext.refl _) rfl
    refine DagSteps.cons (fun s' w' X U H=>Or.inl ⟨?_,?_⟩) ?_
    · exact zAD rfl
    · have a8:s' 25=(.pointer (some ⟨b1,2,none⟩)):=H 20 rfl 25 (.eq (.pointer (some ⟨b1,2,none⟩))) rfl (by rw[ab];rfl);exact zAJ (zAL a8 zBE (((X0.trans X).keep B1).cell rfl)) (Ext.refl _) rfl
    refine DagSteps.cons (fun s' w' X U H=>Or.inl ⟨?_,?_⟩) ?_
    · exact zAD rfl
    · exact zAJ (zAQ (U 3 rfl) underlying25 rfl zBS rfl) (Ext.refl _) rfl
    refine DagSteps.cons (fun s' w' X U H=>Or.inl ⟨?_,?_⟩) ?_
    · exact zAD rfl
    · have bi:s' 27=(.pointer (some ⟨b2,2,none⟩)):=H 22 rfl 27 (.eq (.pointer (some ⟨b2,2,none⟩))) rfl (by rw[ab];rfl);exact zAJ (zAL bi zBE (((X0.trans X).keep B2).cell rfl)) (Ext.refl _) rfl
    refine DagSteps.cons (fun s' w' X U H=>Or.inl ⟨?_,?_⟩) ?_
    · exact zAD rfl
    · have az:s' 26=(.slice aa t.args.length ac):=H 21 rfl 26 (.eq (.slice aa t.args.length ac)) rfl (by rw[ab];rfl);have a1:s' 28=(.slice ad u.args.length ae):=H 23 rfl 28 (.eq (.slice ad u.args.length ae)) rfl (by rw[ab];rfl);exact zAs (zAV func223 zYQ zZW (zac az a1 rfl)) (zVX _ _ _ _ _ _ (aq.ext (Ext.trans E (X0.trans X))) (ba.ext (Ext.trans E (X0.trans X))) (fun w x y xs ys _ hx bg an=>zCD.mk (first:=#[]) (cap:=#[]) func184 zWd zXN rfl (ih x y w xs ys (by obtain ⟨i,hi⟩:=List.mem_iff_getElem?.1 hx;have:=Re.size_arg hi;omega) bg an)))
    refine DagSteps.cons (fun s' w' X U H=>Or.inl ⟨?_,?_⟩) ?_
    · exact zAD rfl
    · have e9:s' 9=(.int .i64 (zCI t.kind u.kind)):=H 4 rfl 9 (.eq (.int .i64 (zCI t.kind u.kind))) rfl (by rw[ab];rfl);have av:s' 14=(.int .i64 (zDY zCT t.set u.set)):=H 9 rfl 14 (.eq (.int .i64 (zDY zCT t.set u.set))) rfl (by rw[ab];rfl);have a2:s' 19=(.int .i64 (zCI t.mn u.mn)):=H 14 rfl 19 (.eq (.int .i64 (zCI t.mn u.mn))) rfl (by rw[ab];rfl);have bd:s' 24=(.int .i64 (zCI t.mx u.mx)):=H 19 rfl 24 (.eq (.int .i64 (zCI t.mx u.mx))) rfl (by rw[ab];rfl);have ao:s' 29=(.int .i64 (zCG t.args u.args)):=H 24 rfl 29 (.eq (.int .i64 (zCG t.args u.args))) rfl (by rw[ab];rfl);exact zPI e9 av a2 bd ao
    refine DagSteps.cons (fun s' w' X U H=>Or.inl ⟨?_,?_⟩) ?_
    · exact zAD rfl
    · obtain ⟨b30,ak,a5⟩:=H 25 rfl 30 (.gen (zNl (zCI t.kind u.kind) (zDY zCT t.set u.set) (zCI t.mn u.mn) (zCI t.mx u.mx) (zCG t.args u.args)) (zJZ _ _ _ _ _)) rfl (by rw[ab];rfl);exact zAs (zAV func206 zUx zVj (zOj ak)) (zUW _ _ _ (ak▸a5))
    refine DagSteps.cons (fun s' w' X U H=>Or.inl ⟨?_,?_⟩) ?_
    · exact zAD rfl
    · have bb:s' 31=(.int .i64 (orL [zCI t.kind u.kind,zDY zCT t.set u.set,zCI t.mn u.mn,zCI t.mx u.mx,zCG t.args u.args])):=H 26 rfl 31 (.eq (.int .i64 (orL [zCI t.kind u.kind,zDY zCT t.set u.set,zCI t.mn u.mn,zCI t.mx u.mx,zCG t.args u.args]))) rfl (by rw[ab];rfl);exact zAJ (zEI bb) (Ext.refl _) rfl
    exact DagSteps.nil
  · intro s' w3 X3 U H;obtain ⟨j3,rfl⟩:=zBA.out (σ:=s') (l:=[(4,(.int .i64 (orL [zCI t.kind u.kind,zDY zCT t.set u.set,zCI t.mn u.mn,zCI t.mx u.mx,zCG t.args u.args])))]) ⟨(show s' 4=(.int .i64 (orL [zCI t.kind u.kind,zDY zCT t.set u.set,zCI t.mn u.mn,zCI t.mx u.mx,zCG t.args u.args])) from H 27 4 (.eq (.int .i64 (orL [zCI t.kind u.kind,zDY zCT t.set u.set,zCI t.mn u.mn,zCI t.mx u.mx,zCG t.args u.args]))) rfl (by rw[ab];rfl)),trivial⟩;clear U H;replace B1:=X3.keep B1;replace B2:=X3.keep B2;replace E:=E.ext X3;refine zAC (zAR (zAW results184 (v:=(.int .i64 (orL [zCI t.kind u.kind,zDY zCT t.set u.set,zCI t.mn u.mn,zCI t.mx u.mx,zCG t.args u.args]))) rfl ?_));exact ⟨rfl,E⟩
end Go.Proofs
namespace Go.Proofs
open Go Go.Eng Go.Sort
set_option maxRecDepth 100000
abbrev zTT (k:Int):List Value:=[.int .i64 k,.slice none 0 0,.slice none 0 0,.int .i64 0,.int .i64 0,.bool false]
theorem zId (w0:World):Ret prog 120 #[] w0 fun v w=>v=.agg (zTT 0).toArray∧Ext w0 w:=by
 refine qR func120 rfl ntmps120 rfl (fun E=>(zAA (zBJ (c:=#[(I6 0),(.slice none 0 0),(.slice none 0 0),(I6 0),(I6 0),(.bool false)]) qD zAu rfl ?_)));intro b1 w1 N1;have F1:=N1.ge E;replace E:=E.ext N1.ext;have B1:=N1.blk;refine zAB (zAA (qV (zBd (ps:=[(0,(I6 0))]) (v:=(.agg #[(I6 0),(.slice none 0 0),(.slice none 0 0),(I6 0),(I6 0),(.bool false)])) rfl qK) (zAY (b:=b1) (o:=0) (c':=#[(I6 0),(.slice none 0 0),(.slice none 0 0),(I6 0),(I6 0),(.bool false)]) rfl rfl qS zAO rfl B1 qL rfl ?_)));intro w2 S2;replace E:=S2.step E qQ;replace B1:=S2.blk;refine zAB (zAR (zAr results120 (vs:=[(.int .i64 0),(.slice none 0 0),(.slice none 0 0),(.int .i64 0),(.int .i64 0),(.bool false)]) (b:=b1) rfl zAc zAO rfl (B1.cells rfl) ?_));exact ⟨rfl,E⟩
theorem zEt (w0:World):Ret prog 117 #[] w0 fun v w=>v=.agg (zTT 1).toArray∧Ext w0 w:=by
 refine qR func117 rfl ntmps117 rfl (fun E=>(zAA (zBJ (c:=#[(I6 0),(.slice none 0 0),(.slice none 0 0),(I6 0),(I6 0),(.bool false)]) qD zAu rfl ?_)));intro b1 w1 N1;have F1:=N1.ge E;replace E:=E.ext N1.ext;have B1:=N1.blk;refine zAB (zAA (qV (zBd (ps:=[(0,(I6 1))]) (v:=(.agg #[(I6 1),(.slice none 0 0),(.slice none 0 0),(I6 0),(I6 0),(.bool false)])) rfl qK) (zAY (b:=b1) (o:=0) (c':=#[(I6 1),(.slice none 0 0),(.slice none 0 0),(I6 0),(I6 0),(.bool false)]) rfl rfl qS zAO rfl B1 qL rfl ?_)));intro w2 S2;replace E:=S2.step E qQ;replace B1:=S2.blk;refine zAB (zAR (zAr results117 (vs:=[(.int .i64 1),(.slice none 0 0),(.slice none 0 0),(.int .i64 0),(.int .i64 0),(.bool false)]) (b:=b1) rfl zAc zAO rfl (B1.cells rfl) ?_));exact ⟨rfl,E⟩
theorem zGf (w0:World) (t:Re) (vs:List Value) (ht:zBG w0 t vs):Ret prog 136 #[.agg vs.toArray] w0 fun v w=>v=.bool (zBc t)∧Ext w0 w:=by
 obtain ⟨sa,sc,aa,ac,rfl,_,_,_⟩:=ht.form;refine qR func136 rfl ntmps136 rfl (fun E=>(zAA (zBL (v:=(.agg (R6 t sa sc aa ac))) (c:=(R6 t sa sc aa ac)) qD rfl rfl ?_)));intro b1 w1 N1;have F1:=N1.ge E;replace E:=E.ext N1.ext;have B1:=N1.blk;refine qA _ rfl (zAB (zAA (qF b1 0 0 rfl underlying25 rfl zAv rfl (qV (zAL rfl zAf (B1.cell rfl)) (qV (zAk rfl rfl) (qA _ rfl (zAB (zAR (zAW results136 (v:=(.bool (decide ((t.kind:Int)=0)))) rfl ?_)))))))));exact ⟨rfl,E⟩
theorem zQz (w0:World) (t:Re) (vs:List Value) (ht:zBG w0 t vs):Ret prog 168 #[.agg vs.toArray] w0 fun v w=>v=.bool (zCF t)∧Ext w0 w:=by
 obtain ⟨sa,sc,aa,ac,rfl,_,_,_⟩:=ht.form;refine qR func168 rfl ntmps168 rfl (fun E=>(zAA (zBL (v:=(.agg (R6 t sa sc aa ac))) (c:=(R6 t sa sc aa ac)) qD rfl rfl ?_)));intro b1 w1 N1;have F1:=N1.ge E;replace E:=E.ext N1.ext;have B1:=N1.blk;refine qA _ rfl (zAB (zAA (qF b1 0 0 rfl underlying25 rfl zAv rfl (qV (zAL rfl zAf (B1.cell rfl)) (qV (zAk rfl rfl) (qA _ rfl (zAB (zAR (zAW results168 (v:=(.bool (decide ((t.kind:Int)=1)))) rfl ?_)))))))));exact ⟨rfl,E⟩
theorem zNw (w0:World) (t:Re) (vs:List Value) (ht:zBG w0 t vs) (h8:t.kind=8→t.args≠[]):Ret prog 162 #[.agg vs.toArray] w0 fun v w=>v=.bool (zCw t)∧Ext w0 w:=by
 obtain ⟨sa,sc,aa,ac,rfl,_,_,ae⟩:=ht.form;refine qR func162 rfl ntmps162 rfl (fun E=>(zAA (zBL (v:=(.agg (R6 t sa sc aa ac))) (c:=(R6 t sa sc aa ac)) qD rfl rfl ?_)));intro br wr Nr;have Fr:=Nr.ge E;replace E:=E.ext Nr.ext;have Br:=Nr.blk;refine qA _ rfl (zAB (zAA (qF br 0 0 rfl underlying25 rfl zAv rfl (qV (zAL rfl zAf (Br.cell rfl)) (qV (zAk rfl rfl) (qM _ rfl ?_))))));rcases Bool.eq_false_or_eq_true (decide ((t.kind:Int)=8)) with hk|hk
 ·have ad:=hk;replace ad:=of_decide_eq_true ad;obtain ⟨x,hx⟩:=zAU (l:=t.args) (i:=0) (List.length_pos_iff.2 (h8 ad));obtain ⟨ab,ao,rfl,af⟩:=zDy ae (List.length_pos_iff.2 (h8 ad));have hpl:=zAa hx;obtain ⟨us,ag,ah⟩:=af.get hx;obtain ⟨xsa,xsc,xaa,xac,rfl,_,_,_⟩:=ah.form;refine zAF rfl rfl qD (cbk hk) (qF br 0 2 rfl underlying25 rfl zBS rfl (zAF rfl rfl qD (cbk hk) (qV (zAL rfl zBE (Br.cell rfl)) (zAF rfl rfl qD (cbk hk) (qV (zAH (b:=ab) (o:=ao) (len:=t.args.length) (cap:=ac) (i:=0) (o':=ao+0*6) rfl rfl rfl underlying23 zAO qO qO) (zAF rfl rfl qD (cbk hk) (qF _ _ _ rfl underlying25 rfl zAv rfl (zAF rfl rfl qD (cbk hk) (qV (zAL rfl zAf (E.cell (fun f=>f) (ag 0 _ rfl))) (zAF rfl rfl qD (cbk hk) (qV (zAk rfl rfl) (qV (zAd (v:=(.bool (decide ((x.kind:Int)=0)))) rfl (by rw[hk];rfl)) (qA _ rfl (zAB (zAR ?_)))))))))))))));refine zAW results162 (v:=(.bool (decide ((x.kind:Int)=0)))) rfl ?_;exact ⟨zAx (by unfold zCw;rw[zCX hx,ad];rfl),E⟩
 ·have ad:=hk;replace ad:=of_decide_eq_false ad;refine zAE rfl rfl qD (v:=.bool false) (cbk hk) (Or.inl rfl) (zAE rfl rfl qD (v:=.bool false) (cbk hk) (Or.inl rfl) (zAE rfl rfl qD (v:=.bool false) (cbk hk) (Or.inl rfl) (zAE rfl rfl qD (v:=.bool false) (cbk hk) (Or.inl rfl) (zAE rfl rfl qD (v:=.bool false) (cbk hk) (Or.inl rfl) (zAE rfl rfl qD (v:=.bool false) (cbk hk) (Or.inl rfl) (qV (zAd (v:=(.bool false)) rfl (by rw[hk];rfl)) (qA _ rfl (zAB (zAR (zAW results162 (v:=(.bool false)) rfl ?_))))))))));exact ⟨zAx (by unfold zCw;simp[hk]),E⟩
theorem zKV (t:Re):zBW t=if t.kind=1∨t.kind=5 then true else if t.kind=3∨t.kind=7∨t.kind=9 then zCd t.args else if t.kind=4 then zES t.args else if t.kind=6 then (decide (t.mn=0) || zCd t.args) else if t.kind=8 then !zCd t.args else if t.kind=10 then (zCd t.args != t.neg) else false:=by
  cases t with
  | mk k s a m x g=>simp only[zBW];rfl
theorem zQx:∀(n:Nat) (t:Re) (w0:World) (vs:List Value),t.size≤n→n≤2000000→zBG w0 t vs→
    Ret prog 63 #[.agg vs.toArray] w0 fun v w=>v=.bool (zBW t)∧Ext w0 w:=by
  intro n
  induction n with
  | zero=>intro t w0 vs h;have:=t.size_pos;omega
  | succ n ih=>
  intro t w0 vs hn hnb ht;have ht0:=ht;obtain ⟨sa,sc,aa,ac,rfl,ay,av,ad⟩:=ht.form;have hal:=zCB t;rw[zKV];refine qR func63 rfl ntmps63 rfl (fun E=>(zAA (zBL (v:=(.agg (R6 t sa sc aa ac))) (c:=(R6 t sa sc aa ac)) (by decide) rfl rfl ?_)));intro b1 w1 N1;have F1:=N1.ge E;replace E:=E.ext N1.ext;have B1:=N1.blk;refine qA _ rfl (zAB (zAA (qA _ rfl (qA _ rfl (zAB (zAK (zAA (qF b1 0 2 rfl underlying25 rfl zBS rfl (qV (zAL rfl zBE (B1.cell rfl)) (qV (zAM underlying23 rfl) (qM _ rfl (zAB (zAT (zAq (fun nn_ σ W2=>∃(k:Nat) (a s:Bool),(∃jj_,σ=zCH jj_ [(1,(P6 b1 0)),(9,(.slice aa t.args.length ac)),(10,(I6 (t.args.length:Int))),(11,(I6 (k:Int))),(3,(.bool a)),(4,(.bool s))])∧Chg zAo w0 W2∧Blk W2 b1 (R6 t sa sc aa ac) 25∧(k≤t.args.length)∧(zCd t.args=(a && zCd (t.args.drop k)))∧(zES t.args=(s || zES (t.args.drop k)))∧nn_=t.args.length - k) (n:=t.args.length - 0) ?_ ?_))))))))))))))
  · exact ⟨0,true,false,zBA.out ⟨rfl,rfl,rfl,rfl,rfl,rfl,trivial⟩,E,B1,Nat.zero_le _,(by simp),(by simp),rfl⟩
  · clear E B1;rintro _ _ W2 ⟨k,a,s,⟨j2,rfl⟩,E,B1,hk,ha,hs,rfl⟩;refine zAA (qV (zBH rfl rfl) (zAB (zAK (qC rfl (fun a0=>?_) (fun a0=>?_)))))
    · obtain ⟨x,hx⟩:=zAU (l:=t.args) (i:=k) (by omega);obtain ⟨ab,ao,rfl,ak⟩:=zDy ad (by omega);obtain ⟨us,ax,an⟩:=ak.get hx;obtain ⟨ah,ai,ag,al,rfl,_,_,_⟩:=an.form;rw[zBU hx] at ha hs;simp only[zCd,zES] at ha hs;refine zAP (zAC (zAK (zAT (zAA (qV (zAH (b:=ab) (o:=ao) (len:=t.args.length) (cap:=ac) (i:=k) (o':=ao+k*6) rfl rfl rfl underlying23 zAO (by omega) (by omega)) (qV (zAG rfl zAc zAO rfl (ax.ext E)) (zAg (v:=(.agg (R6 x ah ai ag al))) (c:=(R6 x ah ai ag al)) (n:=6) (by decide) zAu rfl zAO rfl rfl rfl (by simp[Value.oneCell']) ?_)))))));intro b4 w4 N4;have F4:=N4.ge E;have O4_b1:=N4.lt B1;replace B1:=N4.keep B1;replace E:=E.ext N4.ext;have B4:=N4.blk;refine zAB (zAA (qV (zAG (vs:=[(I6 x.kind),(.slice ah x.set.length ai),(.slice ag x.args.length al),(I6 x.mn),(I6 x.mx),(.bool x.neg)]) rfl zAc zAO rfl (B4.cells rfl)) (qE rfl (zAV func63 zXh zXm rfl) (ih x _ _ (by have:=Re.size_arg hx;omega) (by omega) (zBG.ext E x an)) ?_)));rintro _ w9 ⟨rfl,X9⟩;replace B1:=X9.keep B1;replace B4:=X9.keep B4;replace E:=E.ext X9;refine qA _ rfl (zAB (zAN (qM _ rfl (qM _ rfl ?_))));rcases Bool.eq_false_or_eq_true (a) with ga|ga
      · have aw:=ga;refine zAF rfl rfl (by decide) (cbk ga) (qM _ rfl (qV (zAd (v:=(.bool (zBW x))) rfl (by rw[ga];rfl)) (qM _ rfl (qM _ rfl ?_))));rcases Bool.eq_false_or_eq_true (s) with gs|gs
        · have af:=gs;refine zAE rfl rfl (by decide) (v:=.bool true) (cbk gs) (Or.inl rfl) (qV (zAd (v:=(.bool true)) rfl (by rw[gs];rfl)) (qA _ rfl (qA _ rfl (zAB (zAS (zAC (zAN (qV (zAy rfl rfl (zBV (by omega))) (qM _ rfl (zAB (zAC ?_)))))))))));exact ⟨t.args.length - (k+1),by omega,k+1,zBW x,true,zBA.out ⟨rfl,rfl,rfl,rfl,rfl,rfl,trivial⟩,E,B1,(by omega),(by rw[ha,ga];rfl),(by rw[hs,gs];rfl),rfl⟩
        · have af:=gs;refine zAF rfl rfl (by decide) (cbk gs) (qM _ rfl (qV (zAd (v:=(.bool (zBW x))) rfl (by rw[gs];rfl)) (qA _ rfl (qA _ rfl (zAB (zAS (zAC (zAN (qV (zAy rfl rfl (zBV (by omega))) (qM _ rfl (zAB (zAC ?_))))))))))));exact ⟨t.args.length - (k+1),by omega,k+1,zBW x,zBW x,zBA.out ⟨rfl,rfl,rfl,rfl,rfl,rfl,trivial⟩,E,B1,(by omega),(by rw[ha,ga];rfl),(by rw[hs,gs];rfl),rfl⟩
      · have aw:=ga;refine zAE rfl rfl (by decide) (v:=.bool false) (cbk ga) (Or.inl rfl) (qV (zAd (v:=(.bool false)) rfl (by rw[ga];rfl)) (qM _ rfl (qM _ rfl ?_)));rcases Bool.eq_false_or_eq_true (s) with gs|gs
        · have af:=gs;refine zAE rfl rfl (by decide) (v:=.bool true) (cbk gs) (Or.inl rfl) (qV (zAd (v:=(.bool true)) rfl (by rw[gs];rfl)) (qA _ rfl (qA _ rfl (zAB (zAS (zAC (zAN (qV (zAy rfl rfl (zBV (by omega))) (qM _ rfl (zAB (zAC ?_)))))))))));exact ⟨t.args.length - (k+1),by omega,k+1,false,true,zBA.out ⟨rfl,rfl,rfl,rfl,rfl,rfl,trivial⟩,E,B1,(by omega),(by rw[ha,ga];rfl),(by rw[hs,gs];rfl),rfl⟩
        · have af:=gs;refine zAF rfl rfl (by decide) (cbk gs) (qM _ rfl (qV (zAd (v:=(.bool (zBW x))) rfl (by rw[gs];rfl)) (qA _ rfl (qA _ rfl (zAB (zAS (zAC (zAN (qV (zAy rfl rfl (zBV (by omega))) (qM _ rfl (zAB (zAC ?_))))))))))));exact ⟨t.args.length - (k+1),by omega,k+1,false,zBW x,zBA.out ⟨rfl,rfl,rfl,rfl,rfl,rfl,trivial⟩,E,B1,(by omega),(by rw[ha,ga];rfl),(by rw[hs,gs];rfl),rfl⟩
    · have ar:t.args.drop k=[]:=List.drop_eq_nil_of_le (by omega);rw[ar] at ha hs;have au:zCd t.args=a:=by rw[ha];simp[zCd]
      have az:zES t.args=s:=by rw[hs];simp[zES]
      rw[au,az];refine zAp (zAX (zAX (zAj (zAC (zAK (zAA (qF b1 0 0 rfl underlying25 rfl zAv rfl (qV (zAL rfl zAf (B1.cell rfl)) (zAB (zAT (zAK (zAA (qV (zAk rfl rfl) (qA _ rfl (zAB (qC rfl (fun h1=>?_) (fun h1=>?_)))))))))))))))))
      · have aq:=decide_eq_true h1;refine zAP (zAC (zAl (cbk aq) (zAA (qA _ rfl (zAB (zAR (zAZ (zAI (zAW results63 (v:=(.bool true)) rfl ?_)))))))));exact ⟨zAx (by rw[if_pos (.inl h1)]),E⟩
      · have aq:=decide_eq_false h1;refine zAN (qV (zAk rfl rfl) (qA _ rfl (zAB (zAC (qC rfl (fun h5=>?_) (fun h5=>?_))))))
        · refine zAA (qA _ rfl (zAB (zAR (zAZ (zAI (zAW results63 (v:=(.bool true)) rfl ?_))))));exact ⟨zAx (by rw[if_pos (.inr h5)]),E⟩
        · rw[if_neg (show ¬(t.kind=1∨t.kind=5) by omega)];refine zAK (zAA (qV (zAk rfl rfl) (qA _ rfl (zAB (qC rfl (fun h3=>?_) (fun h3=>?_))))))
          · have ap:=decide_eq_true h3;refine zAP (zAC (zAl (cbk ap) (zAA (qM _ rfl (qA _ rfl (zAB (zAR (zAZ (zAI (zAW results63 (v:=(.bool a)) rfl ?_))))))))));exact ⟨zAx (by rw[if_pos (.inl h3)]),E⟩
          · have ap:=decide_eq_false h3;refine zAA (qV (zAk rfl rfl) (qA _ rfl (zAB (qC rfl (fun h7=>?_) (fun h7=>?_)))))
            · have am:=decide_eq_true h7;refine zAP (zAC (zAl (cbk am) (zAA (qM _ rfl (qA _ rfl (zAB (zAR (zAZ (zAI (zAW results63 (v:=(.bool a)) rfl ?_))))))))));exact ⟨zAx (by rw[if_pos (.inr (.inl h7))]),E⟩
            · have am:=decide_eq_false h7;refine zAN (qV (zAk rfl rfl) (qA _ rfl (zAB (zAC (qC rfl (fun h9=>?_) (fun h9=>?_))))))
              · refine zAA (qM _ rfl (qA _ rfl (zAB (zAR (zAZ (zAI (zAW results63 (v:=(.bool a)) rfl ?_)))))));exact ⟨zAx (by rw[if_pos (.inr (.inr h9))]),E⟩
              · rw[if_neg (show ¬(t.kind=3∨t.kind=7∨t.kind=9) by omega)];refine zAA (qV (zAk rfl rfl) (qA _ rfl (zAB (qC rfl (fun h4=>?_) (fun h4=>?_)))))
                · refine zAA (qM _ rfl (qA _ rfl (zAB (zAR (zAZ (zAI (zAW results63 (v:=(.bool s)) rfl ?_)))))));exact ⟨zAx (by rw[if_pos h4]),E⟩
                · refine zAA (qV (zAk rfl rfl) (qA _ rfl (zAB (qC rfl (fun h6=>?_) (fun h6=>?_)))))
                  · refine zAA (qF b1 0 3 rfl underlying25 rfl zAv rfl (qV (zAL rfl zAf (B1.cell rfl)) (qV (zAk rfl rfl) (qM _ rfl ?_))));rcases Bool.eq_false_or_eq_true (decide ((t.mn:Int)=0)) with hm|hm
                    · have ae:=hm;replace ae:=of_decide_eq_true ae;refine zAE rfl rfl (by decide) (v:=.bool true) (cbk hm) (Or.inl rfl) (qV (zAd (v:=(.bool true)) rfl (by rw[hm];rfl)) (qA _ rfl (zAB (zAR (zAZ (zAI (zAW results63 (v:=(.bool true)) rfl ?_)))))));exact ⟨zAx (by rw[if_neg h4,if_pos h6];simp[hm]),E⟩
                    · have ae:=hm;replace ae:=of_decide_eq_false ae;refine zAF rfl rfl (by decide) (cbk hm) (qM _ rfl (qV (zAd (v:=(.bool a)) rfl (by rw[hm];rfl)) (qA _ rfl (zAB (zAR (zAZ (zAI (zAW results63 (v:=(.bool a)) rfl ?_))))))));exact ⟨zAx (by rw[if_neg h4,if_pos h6];simp[hm]),E⟩
                  · refine zAA (qV (zAk rfl rfl) (qA _ rfl (zAB (qC rfl (fun h8=>?_) (fun h8=>?_)))))
                    · refine zAA (qM _ rfl (qV (zCf rfl) (qA _ rfl (zAB (zAR (zAZ (zAI (zAW results63 (v:=(.bool (!a))) rfl ?_))))))));exact ⟨zAx (by rw[if_neg h4,if_neg h6,if_pos h8]),E⟩
                    · refine zAA (qV (zAk rfl rfl) (qA _ rfl (zAB (qC rfl (fun aj=>?_) (fun aj=>?_)))))
                      · refine zAA (qM _ rfl (qF b1 0 5 rfl underlying25 rfl zNG rfl (qV (zAL rfl zHm (B1.cell rfl)) (qV (zLK underlying4 rfl rfl) (qA _ rfl (zAB (zAR (zAZ (zAI (zAW results63 (v:=(.bool (a != t.neg))) rfl ?_))))))))));exact ⟨zAx (by rw[if_neg h4,if_neg h6,if_neg h8,if_pos aj]),E⟩
                      · refine zAP (zAS (zAC (zAA (qA _ rfl (zAB (zAR (zAW results63 (v:=(.bool false)) rfl ?_)))))));exact ⟨zAx (by rw[if_neg h4,if_neg h6,if_neg h8,if_neg aj]),E⟩
end Go.Proofs
namespace Go.Proofs
open Go Go.Eng Go.Sort
set_option maxRecDepth 100000
theorem zKC {S:Nat→Prop} {w:World} {v:Value} {ts:List Re} (h:zCU S w v ts):zIs w v ts:=by
 obtain ⟨aa,ac,h1,h2,h3⟩:=h;refine ⟨aa,ac,h1,h2,?_⟩;rcases h3 with h|⟨b,o,_,h4,h5⟩
 ·exact .inl h
 ·exact .inr ⟨b,o,h4,zBX.at ts h5⟩
theorem zFU (k:Int) (z:Re) (l:List Re):(l.length=0→zCL k z l=z)∧(∀x,l.length=1→l[0]?=some x→zCL k z l=x)∧(2≤l.length→zCL k z l=.mk k [] l 0 0 false):=by
 refine ⟨fun h=>by rw[List.eq_nil_of_length_eq_zero h];rfl,fun x h hx=>?_,zMG⟩;rw[zNn h hx];rfl
theorem zLj (w0:World) (S:Nat→Prop) (v:Value) (ts:List Re) (h:zCU S w0 v ts) (hS:∀x,S x→x<w0.heap.size) (hne:∀x∈ts,x.kind=3→x.args≠[]) (hsz:Re.sizes ts≤1000000) :
  Ret prog 118 #[v] w0 fun r w=>(∃vs,r=.agg vs.toArray∧zAe (fun b=>S b∨w0.heap.size≤b) w (zEz ts) vs)∧Ext w0 w:=by
 have h0:=h;obtain ⟨aa0,ac0,rfl,bc,_⟩:=h;have hls:=zDD ts;have aq:=zKQ 3 ts ts.length;rw[List.take_length] at aq;obtain ⟨D,hD⟩:∃D,D=zFq zCF (zBY 3 ts):=⟨_,rfl⟩;have hDl:D.length≤(zBY 3 ts).length:=by rw[hD];exact List.length_filter_le _ _
 have av:zEz ts=if (D.any zBc)=true then zBa else zCL 3 zBT D:=by rw[hD];rfl
 rw[av];obtain ⟨bf,a4,a2⟩:=zFU 3 zBT D;refine qR func118 rfl ntmps118 rfl (fun E=>(zAA (zBJ (c:=#[(I6 0),(.slice none 0 0),(.slice none 0 0),(I6 0),(I6 0),(.bool false)]) qD zAu rfl ?_)));intro bo wo No;have Fo:=No.ge E;replace E:=E.ext No.ext;have Bo:=No.blk;refine zAB (zAA (qM _ rfl ?_));obtain ⟨ab,ae⟩:∃ab,ab=wo.heap.size:=⟨_,rfl⟩;have hob:bo<ab:=by rw[ae];exact Bo.lt
 have hwb:w0.heap.size≤ab:=qO
 have E2:Chg zAo wo wo:=Chg.refl _ _;refine qE rfl (zAV func167 zWh zXR rfl) (zTq _ S 3 _ ts (h0.ext E) hne hsz) ?_;rintro _ wf ⟨la,lc,aw,rfl,al,be,Xf⟩;replace Bo:=Xf.keep Bo;replace E:=E.ext Xf;rw[←ae] at al;replace E2:Chg zAo wo wf:=Xf;have hbs:ab≤wf.heap.size:=by rw[ae];exact Xf.size
 refine qE rfl (zAV func166 zWi zXS rfl) ((zXC wo _ ab S _ _ (zBY 3 ts) aw zCF E2 al be (fun x hx=>by have:=hS x hx;omega) qO (fun w x vs _ hx=>zCD.mk (first:=#[]) (cap:=#[]) func168 zYd zZj rfl (zQz w x vs hx))).mono (R':=fun r w=>∃la lc rows',r=.slice la D.length lc∧w.ownsRow ab TRe 6 r D.length rows'.flatten∧zAm S wo D rows'∧Chg (fun x=>ab≤x) wf w) (fun r w h9=>by rw[hD];exact h9)) ?_;rintro _ wd ⟨aj,af,az,rfl,ad,ak,Cd⟩;replace Bo:=Cd.keep qO Bo;replace E:=E.step Cd (by intro x hx hm;omega);replace E2:=E2.step Cd (by intro x hx hm;omega);have ai:zIs wd (.slice aj D.length af) D:=zTf ad (ak.ext E2) rfl;refine qA _ rfl (zAB (zAK (zAA (qM _ rfl (qE rfl (zAV func26 nm26 bd26 rfl) (zPu _ _ _ D zBc ai (fun w x vs _ _ hx=>zCD.mk (first:=#[]) (cap:=#[]) func136 zSR zTM rfl (zGf w x vs hx))) ?_)))));rintro _ an ⟨rfl,ao⟩;replace Bo:=ao.keep Bo;replace E:=E.ext ao;replace E2:=E2.ext ao;replace ad:=zAn ad ao;obtain ⟨bd,am⟩:=zDs ad (ak.ext E2) rfl;refine zAB (zAt rfl (fun hn=>?_) (fun hn=>?_))
 ·have a5:=hn;refine zAA (qE rfl (zAV func120 zQP zRY rfl) (zId _) ?_);rintro _ a3 ⟨rfl,ah⟩;replace Bo:=ah.keep Bo;replace E:=E.ext ah;refine zAY (b:=bo) (o:=0) (c':=#[(I6 0),(.slice none 0 0),(.slice none 0 0),(I6 0),(I6 0),(.bool false)]) rfl rfl qS zAO rfl Bo qL rfl ?_;intro w2 S2;replace E:=S2.step E qQ;replace Bo:=S2.blk;refine zAB (zAR (zAI (zAr results118 (vs:=[(.int .i64 0),(.slice none 0 0),(.slice none 0 0),(.int .i64 0),(.int .i64 0),(.bool false)]) (b:=bo) rfl zAc zAO rfl (Bo.cells rfl) ?_)));exact ⟨⟨_,rfl,by rw[if_pos hn];exact zBg _ _ _⟩,E⟩
 ·have a5:=hn;rw[if_neg (by rw[hn];decide)];refine zAP (zAC (zAK (zAA (qM _ rfl (qV (zAM underlying23 rfl) (zAB (zAT (zAA (qV (zAk rfl rfl) (qA _ rfl (zAB (qC rfl (fun a1=>?_) (fun a1=>?_)))))))))))))
  ·refine zAA (qE rfl (zAV func117 zMY zMt rfl) (zEt _) ?_);rintro _ a3 ⟨rfl,ah⟩;replace Bo:=ah.keep Bo;replace E:=E.ext ah;refine zAY (b:=bo) (o:=0) (c':=#[(I6 1),(.slice none 0 0),(.slice none 0 0),(I6 0),(I6 0),(.bool false)]) rfl rfl qS zAO rfl Bo qL rfl ?_;intro w4 S4;replace E:=S4.step E qQ;replace Bo:=S4.blk;refine zAB (zAR (zAZ (zAI (zAr results118 (vs:=[(.int .i64 1),(.slice none 0 0),(.slice none 0 0),(.int .i64 0),(.int .i64 0),(.bool false)]) (b:=bo) rfl zAc zAO rfl (Bo.cells rfl) ?_))));exact ⟨⟨_,rfl,by rw[bf qO];exact zBg _ _ _⟩,E⟩
  ·refine zAA (qV (zAk rfl rfl) (qA _ rfl (zAB (qC rfl (fun a0=>?_) (fun a0=>?_)))))
   ·obtain ⟨x,hx⟩:=zAU (l:=D) (i:=0) qO;obtain ⟨lb,ba,a9,ax,a6⟩:=am.resolve_left (fun h=>by rw[h] at hx;simp at hx);subst ax;obtain ⟨xs,a7,ay⟩:=a6 0 x hx;have ap:=ay;obtain ⟨sa,sc,aa,ac,rfl,_,_,_⟩:=ay.form;have ag:Chg (fun y=>y=bo) (an) (an):=Chg.refl _ _;refine zAA (qM _ rfl (qV (zAH (b:=lb) (o:=0) (len:=D.length) (cap:=af) (i:=0) (o':=0) rfl rfl rfl underlying23 zAO qO qO) (qV (zAG rfl zAc zAO rfl (a7)) (zAY (b:=bo) (o:=0) (c':=(R6 x sa sc aa ac)) rfl rfl qS zAO rfl Bo qL rfl ?_))));intro w6 S6;replace ag:=S6.chg;replace E:=S6.step E qQ;replace Bo:=S6.blk;refine zAB (zAR (zAZ (zAI (zAr results118 (vs:=[(.int .i64 x.kind),(.slice sa x.set.length sc),(.slice aa x.args.length ac),(.int .i64 x.mn),(.int .i64 x.mx),(.bool x.neg)]) (b:=bo) rfl zAc zAO rfl (Bo.cells rfl) ?_))));exact ⟨⟨_,rfl,by rw[a4 x qO hx];exact zAe.mono (fun y hy=>.inl hy) x (zAe.chg ag (fun y hy h=>by have h1:=hS y hy;have h2:y=bo:=h;omega) x ap)⟩,E⟩
   ·have ag:Chg (fun y=>y=bo) (an) (an):=Chg.refl _ _;refine zAP (zAS (zAC (zAA (qM _ rfl (qV (zBd (ps:=[(0,(I6 3)),(2,(.slice aj D.length af))]) (v:=(.agg #[(I6 3),(.slice none 0 0),(.slice aj D.length af),(I6 0),(I6 0),(.bool false)])) rfl qK) (zAY (b:=bo) (o:=0) (c':=#[(I6 3),(.slice none 0 0),(.slice aj D.length af),(I6 0),(I6 0),(.bool false)]) rfl rfl qS zAO rfl Bo qL rfl ?_))))));intro w7 S7;replace ag:=S7.chg;replace E:=S7.step E qQ;replace Bo:=S7.blk;refine zAB (zAR (zAr results118 (vs:=[(.int .i64 3),(.slice none 0 0),(.slice aj D.length af),(.int .i64 0),(.int .i64 0),(.bool false)]) (b:=bo) rfl zAc zAO rfl (Bo.cells rfl) (⟨⟨_,rfl,?_⟩,E⟩)));rw[a2 qO];refine zAe.of (set:=[]) (zDK.nil _ _ _ _ _) bd ?_;rcases am with h|⟨ob,bb,a8,au,ar⟩
    ·exact .inl h
    ·refine .inr ⟨ob,0,.inr qO,au,zDB fun i t ht=>?_⟩;obtain ⟨vs,h6,h7⟩:=ar i t ht;exact ⟨vs,h6.chg ag (fun h=>by have h':ob=bo:=h;omega),zAe.mono (fun y hy=>.inl hy) t (zAe.chg ag (fun y hy h=>by have h1:=hS y hy;have h2:y=bo:=h;omega) t h7)⟩
end Go.Proofs
namespace Go.Proofs
open Go Go.Eng Go.Sort
set_option maxRecDepth 100000
/-- An expression with its cells. -/
structure RRow (S:Nat→Prop) (w:World) where
 t:Re
 vs:List Value
 h:zAe S w t vs
instance {S:Nat→Prop} {w:World}:Inhabited (RRow S w):=⟨⟨_,_,zBg S w 0⟩⟩
def zNv {S:Nat→Prop} {w:World} (r:RRow S w):List Value:=r.vs
def cfR {S:Nat→Prop} {w:World} (x y:RRow S w):Int:=zCm x.t y.t
theorem zRQ {S:Nat→Prop} {w:World} (x y:RRow S w):cfR x y<0↔zCm x.t y.t<0:=Iff.rfl
theorem swoR {S:Nat→Prop} {w:World}:SWO (ltOf (cfR (S:=S) (w:=w))):=by
 refine ⟨fun x=>?_,fun x y z=>?_,fun x y z=>?_⟩
 ·have:=zBs x.t x.t;simp only[ltOf,decide_eq_false_iff_not,zRQ];omega
 ·have a:=zBs x.t y.t;have b:=zBs y.t z.t;have c:=zBs x.t z.t;have a':=zBs y.t x.t;have b':=zBs z.t y.t;have c':=zBs z.t x.t;have h1:=zMJ x.t y.t z.t;have h2:=zMJ z.t y.t x.t;unfold Tr3 at h1 h2;simp only[ltOf,decide_eq_true_eq,zRQ];omega
 ·have a:=zBs x.t y.t;have b:=zBs y.t z.t;have c:=zBs x.t z.t;have a':=zBs y.t x.t;have b':=zBs z.t y.t;have c':=zBs z.t x.t;have h1:=zMJ x.t y.t z.t;have h2:=zMJ z.t y.t x.t;unfold Tr3 at h1 h2;simp only[ltOf,decide_eq_false_iff_not,zRQ];omega
theorem zJg {α:Type} [Inhabited α] (enc:α→List Value) (k:Nat) (hk:0<k) (he:∀x,(enc x).length=k) (d:List α):(flatK enc k d.toArray).toList=(d.map enc).flatten:=by
 have hrl:(d.map enc).flatten.length=d.length*k:=by
  have:=zCE (k:=k) (rows:=d.map enc) (fun r hr=>by obtain ⟨x,_,rfl⟩:=List.mem_map.1 hr;exact he x)
  rwa [List.length_map] at this
 apply List.ext_getElem?;intro t;by_cases ht:t<d.length*k
 ·have hi:t / k<d.length:=Nat.div_lt_of_lt_mul (by rw[Nat.mul_comm];exact ht);have hj:t % k<k:=Nat.mod_lt _ hk;have hx:(d.map enc)[t / k]?=some (enc d[t / k]):=by rw[List.getElem?_map,List.getElem?_eq_getElem hi];rfl
  have hu:(enc d[t / k])[t % k]?=some ((enc d[t / k])[t % k]'(by rw[he];exact hj)):=List.getElem?_eq_getElem _;have h1:=zJT (k:=k) (rows:=d.map enc) (rest:=[]) (fun r hr=>by obtain ⟨x,_,rfl⟩:=List.mem_map.1 hr;exact he x) hx _ _ hu;rw[List.append_nil,Nat.div_add_mod'] at h1;rw[h1];have h2:=get_flatK enc k d.toArray t (by simpa using ht);have h3:t<(flatK enc k d.toArray).size:=by rw[size_flatK];simpa using ht
  rw[getElem!_pos _ t h3] at h2;rw[Array.getElem?_toList,Array.getElem?_eq_getElem h3,h2];have h4:d.toArray[t / k]! = d[t / k]:=by rw[getElem!_pos d.toArray _ (by simpa using hi)];simp
  rw[h4,getElem!_pos _ _ (by rw[he];exact hj)]
 ·rw[List.getElem?_eq_none (by rw[Array.length_toList,size_flatK];simpa using ht),List.getElem?_eq_none qO]
theorem zOc {α:Type} [Inhabited α] (enc:α→List Value) (k:Nat) (hk:0<k) (he:∀x,(enc x).length=k) {w:World} {base e g n c:Nat} {d:List α} (h:w.ownsRow base e k (.slice (some ⟨g,0,none⟩) n c) n (d.map enc).flatten) (hn:d.length=n):HoldsK enc k w g 0 d.toArray:=by
 intro j hj;rw[size_flatK] at hj;have ab:=zJg enc k hk he d;have aa:j<(flatK enc k d.toArray).size:=by rw[size_flatK];exact hj
 rw[getElem!_pos _ j aa];have hx:(d.map enc).flatten[j]?=some (flatK enc k d.toArray)[j]:=by rw[←ab,Array.getElem?_toList,Array.getElem?_eq_getElem aa]
 have h1:=h.cells (g:=g) rfl j _ hx;rw[Addr.add_lit] at h1;refine ⟨h1,?_⟩;rcases h.2 with ⟨h1,_⟩|⟨g',cap,cur,hv,_,hg,_⟩
 ·simp at h1
 ·simp only[Value.slice.injEq] at hv;obtain ⟨hv,_⟩:=hv;simp only[Option.some.injEq,Addr.mk.injEq,and_true] at hv;subst hv;simp[World.frozen?,hg]
theorem zOb {α:Type} [Inhabited α] (enc:α→List Value) (k:Nat) (hk:0<k) (he:∀x,(enc x).length=k) {w:World} {base e g n c m:Nat} {os:Array Obj} {d:List α} {xs:List Value} (h:w.ownsRow base e k (.slice (some ⟨g,0,none⟩) n c) n xs) (hn:d.length=n):(sortWorldK enc k w g 0 m d.toArray os).ownsRow base e k (.slice (some ⟨g,0,none⟩) n c) n (d.map enc).flatten:=by
 have ab:(d.map enc).flatten.length=d.length*k:=by
  have:=zCE (k:=k) (rows:=d.map enc) (fun r hr=>by obtain ⟨x,_,rfl⟩:=List.mem_map.1 hr;exact he x)
  rwa [List.length_map] at this
 rcases h.2 with ⟨h1,_⟩|⟨g',cap,ac,hv,ah,hg,ad,ag,aa,ae⟩
 ·simp at h1
 ·simp only[Value.slice.injEq,true_and] at hv;obtain ⟨hv,rfl⟩:=hv;simp only[Option.some.injEq,Addr.mk.injEq,and_true] at hv;subst hv;have af:g<w.heap.size:=(Array.getElem?_eq_some_iff.1 hg).1;refine ⟨by rw[ab,hn],.inr ⟨g,c,putCells id 0 (flatK enc k d.toArray) ac,rfl,ah,?_,ad,ag,by simp[putCells,aa],?_⟩⟩
  ·unfold sortWorldK grow putRowK putRow mapBlock Sort.ahead;dsimp only;rw[Array.getElem?_append_left (by simpa using af),Array.getElem?_modify,if_pos rfl,hg];rfl
  ·have hle:n*k≤c*k:=Nat.mul_le_mul_right k ad;apply List.ext_getElem?;intro t;by_cases ht:t<n*k
   ·rw[List.getElem?_take,if_pos ht,Array.getElem?_toList];have h3:t<(flatK enc k d.toArray).size:=by rw[size_flatK];simpa[hn] using ht
    rw[←zJg enc k hk he d,Array.getElem?_toList,Array.getElem?_eq_getElem h3];simp only[putCells,Array.getElem?_mapIdx];rw[Array.getElem?_eq_getElem (show t<ac.size by rw[aa];omega)];simp only[Option.map_some,Nat.zero_le,true_and,Nat.zero_add,Nat.sub_zero,id];rw[if_pos h3,getElem!_pos _ t h3]
   ·rw[List.getElem?_eq_none (by rw[List.length_take];omega),List.getElem?_eq_none (by rw[ab,hn];omega)]
theorem zJQ {α:Type} [Inhabited α] (enc:α→List Value) (k:Nat) (w:World) (g off m:Nat) (dk:Array α) (os:Array Obj):Chg (fun x=>x=g) w (sortWorldK enc k w g off m dk os):=by
 refine ⟨rfl,rfl,rfl,Nat.le_add_right _ _,?_,fun b hb aa=>?_⟩
 ·simp[sortWorldK,grow,putRowK,putRow,mapBlock]
 ·simp only[sortWorldK,grow,putRowK,putRow,mapBlock];rw[Array.getElem?_append_left (by simpa using hb),Array.getElem?_modify,if_neg (fun h=>aa h.symm)];rfl
theorem zJC {P : Program} {f : FuncId} {fn : Func} (hf : P.funcs[f]? = some fn) (hn : (fn.name == "runtime.NumGoroutine") = false) (hb : fn.body.isNone = false) : ∀ args w, (callFunc f args).run P w = .ok (.enter f args) w := fun args w => zGO (vs := args) (w := w) hf hn hb
theorem zPC (w0:World):Ret prog 176 #[.int .u64 0] w0 fun v w=>v=.int .i64 (Lib.bitLen 0:Nat)∧Ext w0 w:=
 (Any.bits_Len (SlLaysF0.n15.bits (P:=prog) (ρ:=Tryz.sortRe_ren) {Tryz.sortRe with}) 0 w0 qO qO).mono fun _ _ ⟨he,hw⟩=>⟨_,he,rfl,by rw[hw];exact Ext.refl _⟩
theorem zVI (w0:World) (a:Option Addr) (c:Nat) (fv:Value):Ret prog 247 #[.slice a 0 c,.int .i64 0,.int .i64 0,fv] w0 fun v w=>v=.tuple #[]∧Ext w0 w:=by
 refine qR func247 rfl ntmps247 rfl (fun E=>(zAA (qM _ rfl (qV (zAy (c:=1) rfl rfl qD) (qA _ rfl (zAB (zAT (zAq (fun nn_ σ W1=>(∃jj_,σ=zCH jj_ [(0,(.slice a 0 c)),(1,(I6 0)),(2,(I6 0)),(3,fv),(8,(I6 1))])∧Chg zAo w0 W1∧nn_=(0:Nat)) (n:=(0:Nat)) ?_ ?_))))))))
 ·exact ⟨zBA.out ⟨rfl,rfl,rfl,rfl,rfl,trivial⟩,E,rfl⟩
 ·clear E;rintro _ _ W1 ⟨⟨j1,rfl⟩,E,rfl⟩;refine zAK (zAA (qM _ rfl (qM _ rfl (qV (zBH rfl rfl) (zAB (zAb rfl (zAp (zAX (zAX (zAj (zGd results247 ?_)))))))))));exact ⟨rfl,E⟩
theorem zUq (w0:World) (a:Option Addr) (c:Nat) (n:Int) (fv:Value):Ret prog 221 #[.slice a 0 c,.int .i64 0,.int .i64 0,.int .i64 n,fv] w0 fun v w=>v=.tuple #[]∧Ext w0 w:=by
 refine qR func221 rfl ntmps221 rfl (fun E=>(zAA (qA _ rfl (zAB (zAA (qA _ rfl (zAB (zAT (zAq (fun nn_ σ W1=>(∃jj_,σ=zCH jj_ [(0,(.slice a 0 c)),(1,(I6 0)),(2,(I6 0)),(4,fv)])∧Chg zAo w0 W1∧nn_=(0:Nat)) (n:=(0:Nat)) ?_ ?_)))))))))
 ·exact ⟨zBA.out ⟨rfl,rfl,rfl,rfl,trivial⟩,E,rfl⟩
 ·clear E;rintro _ _ W1 ⟨⟨j1,rfl⟩,E,rfl⟩;refine zAT (zAA (qM _ rfl (qM _ rfl (qV (zDS (c:=0) rfl rfl qD) (qA _ rfl (zAB (zAK (zAA (qM _ rfl (qV (zEd rfl rfl) (zAB (zAl rfl (zAA (qM _ rfl (qM _ rfl (qM _ rfl (qM _ rfl ?_)))))))))))))))));refine qE rfl (zAV func247 zYP zZV rfl) (zVI _ a c fv) ?_;rintro _ w9 ⟨rfl,X9⟩;replace E:=E.ext X9;refine zAB (zAR (zAI (zAZ (zAI (zAZ (zLe results221 ?_))))));exact ⟨rfl,E⟩
theorem zRu (w0:World) (a:Option Addr) (c:Nat) (fv:Value):Ret prog 183 #[.slice a 0 c,fv] w0 fun v w=>v=.tuple #[]∧Ext w0 w:=by
 refine qR func183 rfl ntmps183 rfl (fun E=>(zAA (qM _ rfl (qV (zAM underlying23 rfl) (qA _ rfl (zAB (zAN (qM _ rfl (qM _ rfl (qM _ rfl (qV (zLL (c:=0) ⟨_,underlying3⟩ underlying170 rfl (zaP qO)) (qE rfl (zAV func176 zWg zXQ rfl) (zPC _) ?_))))))))))));rintro _ w8 ⟨rfl,X8⟩;replace E:=E.ext X8;refine qM _ rfl (qE rfl (zAV func221 zYS zZY rfl) (zUq _ a c _ fv) ?_);rintro _ w9 ⟨rfl,X9⟩;replace E:=E.ext X9;refine zAB (zGd results183 ?_);exact ⟨rfl,E⟩
theorem zUQ (wb w0:World) (S:Nat→Prop) (base:Nat) (v:Value) (ts:List Re) (rows:List (List Value)) (hE:Ext wb w0) (h:w0.ownsRow base TRe 6 v ts.length rows.flatten) (hr:zAm S wb ts rows) (hS:∀x,S x→x<base) (hl:ts.length≤1000000) :
    Ret prog 183 #[v,.func (.func 184) #[] #[]] w0 fun r w=>r=.tuple #[]∧(∃us qs,us.Perm ts∧us.Pairwise (fun x y=>zCm x y≤0)∧w.ownsRow base TRe 6 v us.length qs.flatten∧zAm S wb us qs)∧Chg (fun x=>v.ownBlock=some x) w0 w:=by
  have eg:=zJC func184 zWd zXN;rcases h.2 with ⟨rfl,h0⟩|⟨g,al,cur,rfl,hbg,hg,ak,hcm,hcs,ab⟩
  · have hd:ts=[]:=List.eq_nil_of_length_eq_zero h0;subst hd;exact (zRu w0 none 0 (.func (.func 184) #[] #[])).mono fun v w' ⟨hv,hw⟩=>⟨hv,⟨[],[],List.Perm.refl _,List.Pairwise.nil,World.ownsRow_nil _ _ _ _,rfl⟩,Ext.chg hw⟩
  · obtain ⟨d,ah,an⟩:∃d:List (RRow S wb),d.map (·.t)=ts∧d.map zNv=rows:=by
      clear h hg ab ak hl
      induction ts generalizing rows with
      | nil=>
        have am:rows=[]:=hr;exact ⟨[],rfl,am.symm⟩
      | cons t ts ih=>
        obtain ⟨r,rs,rfl,h1,h2⟩:=hr;obtain ⟨d,h3,h4⟩:=ih rs h2;exact ⟨⟨t,r,h1⟩::d,by simp[h3],by simp[h4,zNv]⟩
    have ac:d.length=ts.length:=by rw[←ah,List.length_map]
    have he:∀x:RRow S wb,(zNv x).length=6:=fun x=>zAe.len x.h;have ht:∀w,(isAgg (Tryz.sortRe_ren.t 24)).run prog w=.ok true w:=fun w=>zMu.run zAc w;have hs:∀w,(Go.sizeOf (Tryz.sortRe_ren.t 24)).run prog w=.ok 6 w:=fun w=>zAO.run w;have hH:=zOc zNv 6 qD he (d:=d) (by rw[an];exact h) ac;have af:g<w0.heap.size:=(Array.getElem?_eq_some_iff.1 hg).1;have hc:CmpLays prog 184 #[] zNv 6 cfR g 0 d.toArray.size w0:=fun m os dk _ x y=>by
      have ag:=zJQ zNv 6 w0 g 0 m dk os;have hx:zBG (sortWorldK zNv 6 w0 g 0 m dk os) x.t x.vs:=zAe.at x.t (zAe.chg ag (fun b hb hm=>by have:=hS b hb;have aj:b=g:=hm;omega) x.t (zAe.ext hE x.t x.h));have hy:zBG (sortWorldK zNv 6 w0 g 0 m dk os) y.t y.vs:=zAe.at y.t (zAe.chg ag (fun b hb hm=>by have:=hS b hb;have aj:b=g:=hm;omega) y.t (zAe.ext hE y.t y.h));refine Calls.mono (zUs _ x.t y.t _ _ _ (Nat.le_refl _) hx hy) ?_;rintro e w' ⟨v,rfl,rfl,hx⟩;obtain ⟨q,ai,hw⟩:=Ext.grown hx;exact ⟨rfl,q,ai,hw⟩
    have ae:=AnyQ.slices_SortFunc Tryz.sortRe 6 ht hs zNv he (fun x u hu=>zBG.one (zAe.at x.t x.h) u hu) cfR swoR 184 #[] g 0 al d.toArray w0 eg hc hH af (by simp;omega);have hz:ts.length=d.toArray.size:=by simp[ac]
    rw[hz];refine Calls.mono ae ?_;rintro e w' ⟨rfl,d',n,os,hp,ao,rfl⟩;have ad:d'.size=d.length:=by have:=hp.1;simpa using this
    have aa:d'.toList.Perm d:=by
      have h3:=hp.2.2;simp only[List.size_toArray] at h3;rw[show d.length=d'.size from ad.symm,Array.extract_size] at h3;rw[ad] at h3;simpa using h3
    refine ⟨_,rfl,rfl,⟨d'.toList.map (·.t),d'.toList.map zNv,by rw[←ah];exact aa.map _,?_,?_,?_⟩,(zJQ zNv 6 w0 g 0 n d' os).mono fun x _ hx=>by subst hx;rfl⟩
    · rw[List.pairwise_map,List.pairwise_iff_getElem];intro i j hi hj ap;have h4:=ao i j (Nat.zero_le _) ap (by simp at hj⊢;omega);simp only[Array.length_toList] at hi hj;rw[getElem!_pos d' i hi,getElem!_pos d' j hj] at h4;have h5:¬zCm d'[j].t d'[i].t<0:=of_decide_eq_false h4;have h6:=zBs d'[i].t d'[j].t;simp only[Array.getElem_toList];omega
    · have h7:=zOb zNv 6 qD he (m:=n) (os:=os) (d:=d'.toList) h (by rw[Array.length_toList,ad,ac]);rw[Array.toArray_toList] at h7;rw[List.length_map,Array.length_toList,ad,ac,←hz];exact h7
    · generalize d'.toList=q
      induction q with
      | nil=>rfl
      | cons x q ih=>exact ⟨zNv x,q.map zNv,rfl,x.h,ih⟩
end Go.Proofs
namespace Go.Proofs
open Go Go.Eng Go.Sort
set_option maxRecDepth 100000
/-- What is kept behind an element. -/
def kdR:Option Re→List Re→List Re
  | _,[]=>[]
  | none,x::l=>x::kdR (some x) l
  | some y,x::l=>if zBZ x y=true then kdR (some x) l else x::kdR (some x) l
theorem zPo (x y:Re):zBZ x y=zBZ y x:=by
 rw[Bool.eq_iff_iff,zBP,zBP];exact eq_comm
theorem zRC:∀(x:Re) (l:List Re),zGu (x::l)=x::kdR (some x) l
  | x,[]=>rfl
  | x,y::l=>by
    simp only[zGu,kdR,zPo y x];split
    · rename_i h
      rw[zRC y l,(zBP x y).1 h]
    · rw[zRC y l]
theorem zVO (l:List Re):zGu l=kdR none l:=by
  cases l with
  | nil=>rfl
  | cons x l=>exact zRC x l
theorem zQZ:∀(l:List Re) (p:Option Re) (x:Re),kdR p (l++[x])=kdR p l++(match l.getLast?.or p with|some y=>if zBZ x y=true then [] else [x]|none=>[x])
  | [],none,x=>rfl
  | [],some y,x=>by
    simp only[List.nil_append,kdR,List.getLast?_nil,Option.none_or]
  | z::l,p,x=>by
    have ih:=zQZ l (some z) x;have hg:(z::l).getLast?.or p=l.getLast?.or (some z):=by cases l<;>simp[List.getLast?_cons]
    rw[hg];cases p with
    | none=>simp only[List.cons_append,kdR,ih]
    | some y=>
      simp only[List.cons_append,kdR];split
      · exact ih
      · rw[ih];rfl
theorem zQY {l:List Re} {j:Nat} {x y:Re} (h0:0<j) (hx:l[j]?=some x) (hy:l[j - 1]?=some y):kdR none (l.take (j+1))=kdR none (l.take j)++(if zBZ x y=true then [] else [x]):=by
 rw[List.take_add_one,hx,Option.toList_some,zQZ];have hl:=zAa hx;have:(l.take j).getLast?=some y:=by rw[List.getLast?_take,if_neg qO,hy];rfl
 rw[this];rfl
theorem zQa:∀(l:List Re) (p:Option Re),(kdR p l).length≤l.length
  | [],_=>by simp[kdR]
  | x::l,none=>by simp only[kdR,List.length_cons];have:=zQa l (some x);omega
  | x::l,some y=>by
    simp only[kdR];have:=zQa l (some x);split<;>simp only[List.length_cons]<;>omega
theorem zSK {w w':World} {base g n c:Nat} {rows:List (List Value)} {rest:List Value} (h:w.ownsRow base TRe 6 (.slice (some ⟨g,0,none⟩) n c) n rows.flatten) (hB:Blk w' g (rows.flatten++rest).toArray TRe) (hn:n≤c) (hc:c≤maxLen) (hz:(rows.flatten++rest).length=c*6):w'.ownsRow base TRe 6 (.slice (some ⟨g,0,none⟩) n c) n rows.flatten:=by
 have h1:=h.1;rcases h.2 with ⟨h2,_⟩|⟨g',cap,cur,hv,ab,hg,hnc,hcm,hcs,aa⟩
 ·simp at h2
 ·simp only[Value.slice.injEq,Option.some.injEq,Addr.mk.injEq,and_true,true_and] at hv;obtain ⟨rfl,_⟩:=hv;exact ⟨h1,.inr ⟨g,c,_,rfl,ab,hB,hn,hc,by rw[List.size_toArray,hz],by rw[List.toList_toArray,List.take_append_of_le_length qO,List.take_of_length_le qO]⟩⟩
theorem zVY (wb w0:World) (base:Nat) (S:Nat→Prop) (v fv:Value) (ts:List Re) (rows:List (List Value)) (hE:Ext wb w0) (hown:w0.ownsRow base TRe 6 v ts.length rows.flatten) (hr:zAm S wb ts rows) (hS:∀x,S x→x<base) (hlen:ts.length≤1000000)
  (hf:∀(w:World) (x y:Re) (xs ys:List Value),zBG w x xs→zBG w y ys→zCD prog fv #[.agg xs.toArray,.agg ys.toArray] w fun r w'=>r=.bool (zBZ x y)∧Ext w w') :
  Ret prog 185 #[v,fv] w0 fun r w=>∃la lc rows',r=.slice la (zGu ts).length lc∧w.ownsRow base TRe 6 r (zGu ts).length rows'.flatten∧zAm S wb (zGu ts) rows'∧Chg (fun x=>base≤x) w0 w:=by
 have ah:=hown;obtain ⟨a,c,rfl⟩:=zAw hown;rw[zVO];refine zGr func185 rfl ntmps185 (leT rfl) ?_;have E:Chg (fun x=>base≤x) w0 w0:=Chg.refl _ _;refine zAA (qA _ rfl (zAB (zAK (zAA (qM _ rfl (qV (zAM underlying23 rfl) (qV (zBH rfl rfl) (zAB (qC rfl (fun h2=>?_) (fun h2=>?_))))))))))
 ·have ag:kdR none ts=ts:=by match ts,h2 with|[],_=>rfl|[x],_=>rfl|x::y::l,h=>simp at h;omega
  refine zAA (qM _ rfl (qA _ rfl (zAB (zAR (zAI (zAW results185 (v:=(.slice a ts.length c)) rfl ?_))))));rw[ag];exact ⟨a,c,rows,rfl,ah,hr,E⟩
 ·rcases ah.2 with ⟨_,b2⟩|⟨g,cap,bd,br,ck,bx,ay,ap,a0,av⟩
  ·omega
  simp only[Value.slice.injEq] at br;obtain ⟨rfl,_,rfl⟩:=br;obtain ⟨rest,aw⟩:∃rest,rest=bd.toList.drop (ts.length*6):=⟨_,rfl⟩;have ab:Blk w0 g (rows.flatten++rest).toArray TRe:=by rw[aw,←av,List.take_append_drop];exact bx
  have az:(rows.flatten++rest).length=c*6:=by rw[aw,←av,List.take_append_drop];simpa using a0
  have bs:=hr.len;have a8:=hr.six;have bj:rest.length=c*6 - ts.length*6:=by rw[List.length_append,zCE a8,bs] at az;omega
  refine zAP (zAC (zAK (zAA (qA _ rfl (zAB (zAT (zAq (fun nn_ σ W2=>∃(k:Nat),(∃jj_,σ=zCH jj_ [(0,(.slice (some ⟨g,0,none⟩) ts.length c)),(1,fv),(5,(I6 (k:Int)))])∧Chg (fun x=>base≤x) w0 W2∧Blk W2 g ((rows.flatten++rest).toArray) TRe∧(1≤k∧k≤ts.length)∧(kdR none (ts.take k)=ts.take k)∧nn_=ts.length - k) (n:=ts.length - 1) ?_ ?_)))))))
  ·exact ⟨1,zBA.out ⟨rfl,rfl,rfl,trivial⟩,E,ab,⟨by omega,by omega⟩,(by match ts,h2 with|[],h=>simp at h|x::l,_=>rfl),rfl⟩
  ·clear E ab;rintro _ _ W2 ⟨k,⟨j2,rfl⟩,E,ab,hk,a1,rfl⟩;refine zAK (zAA (qM _ rfl (qM _ rfl (qV (zAM underlying23 rfl) (qV (zBH rfl rfl) (zAB (qC rfl (fun cu=>?_) (fun cu=>?_))))))))
   ·obtain ⟨x,hx⟩:=zAU (l:=ts) (i:=k) (by omega);obtain ⟨y,hy⟩:=zAU (l:=ts) (i:=k - 1) (by omega);obtain ⟨r,bi,a4⟩:=hr.get hx;obtain ⟨s,bn,bm⟩:=hr.get hy;have ao:=zQY (by omega) hx hy;have ai:zBG (W2) x r:=zAe.at x (zAe.chg E (fun y hy hb=>by have:=hS y hy;have ba:base≤y:=hb;omega) x (zAe.ext hE x a4));have aj:zBG (W2) y s:=zAe.at y (zAe.chg E (fun y hy hb=>by have:=hS y hy;have ba:base≤y:=hb;omega) y (zAe.ext hE y bm));have ax:=zFy ab a8 bi;have bl:=zFy ab a8 bn;obtain ⟨sa,sc,aa,ac,rfl,_,_,_⟩:=ai.form;obtain ⟨aq,au,ar,an,rfl,_,_,_⟩:=aj.form;refine zAP (zAC (zAK (zAT (zAK ?_))));obtain ⟨b0,ae⟩:∃Fs:List Fact,Fs=[.eq fv,.eq (.slice (some ⟨g,0,none⟩) ts.length c),.eq (I6 (k:Int)),.eq (.pointer (some ⟨g,0+k*6,none⟩)),.eq (.agg (R6 x sa sc aa ac)),.eq (.slice (some ⟨g,0,none⟩) ts.length c),.eq (I6 (k:Int)),.eq (I6 ((k:Int) - 1)),.eq (.pointer (some ⟨g,0+(k - 1)*6,none⟩)),.eq (.agg (R6 y aq au ar an)),.eq (.bool (zBZ x y))]:=⟨_,rfl⟩;refine zEA [18,19,20,21,22,23,24,25,26,27,28] [[],[],[],[1,2],[3],[],[],[6],[5,7],[8],[0,4,9]] b0 ae mixed (by kernel_rfl) (by kernel_rfl) ?_ ?_
    ·intro wd X0;refine DagSteps.cons (fun s' w' X U H=>Or.inl ⟨?_,?_⟩) ?_
     ·exact zAD rfl
     ·exact zAJ (zAi (U 1 rfl)) (Ext.refl _) rfl
     refine DagSteps.cons (fun s' w' X U H=>Or.inl ⟨?_,?_⟩) ?_
     ·exact zAD rfl
     ·exact zAJ (zAi (U 0 rfl)) (Ext.refl _) rfl
     refine DagSteps.cons (fun s' w' X U H=>Or.inl ⟨?_,?_⟩) ?_
     ·exact zAD rfl
     ·exact zAJ (zAi (U 5 rfl)) (Ext.refl _) rfl
     refine DagSteps.cons (fun s' w' X U H=>Or.inl ⟨?_,?_⟩) ?_
     ·exact zAD rfl
     ·have cn:s' 19=(.slice (some ⟨g,0,none⟩) ts.length c):=H 1 rfl 19 (.eq (.slice (some ⟨g,0,none⟩) ts.length c)) rfl (by rw[ae];rfl);have b1:s' 20=(.int .i64 ((k:Nat):Int)):=H 2 rfl 20 (.eq (.int .i64 ((k:Nat):Int))) rfl (by rw[ae];rfl);exact zAJ (zAH (i:=k) cn b1 rfl underlying23 zAO (by omega) (by omega)) (Ext.refl _) rfl
     refine DagSteps.cons (fun s' w' X U H=>Or.inl ⟨?_,?_⟩) ?_
     ·exact zAD rfl
     ·have bv:s' 21=(.pointer (some ⟨g,0+k*6,none⟩)):=H 3 rfl 21 (.eq (.pointer (some ⟨g,0+k*6,none⟩))) rfl (by rw[ae];rfl);exact zAJ (zAG bv zAc zAO rfl (by rw[Nat.zero_add];exact ax.ext (X0.trans X))) (Ext.refl _) rfl
     refine DagSteps.cons (fun s' w' X U H=>Or.inl ⟨?_,?_⟩) ?_
     ·exact zAD rfl
     ·exact zAJ (zAi (U 0 rfl)) (Ext.refl _) rfl
     refine DagSteps.cons (fun s' w' X U H=>Or.inl ⟨?_,?_⟩) ?_
     ·exact zAD rfl
     ·exact zAJ (zAi (U 5 rfl)) (Ext.refl _) rfl
     refine DagSteps.cons (fun s' w' X U H=>Or.inl ⟨?_,?_⟩) ?_
     ·exact zAD rfl
     ·have cl:s' 24=(.int .i64 ((k:Nat):Int)):=H 6 rfl 24 (.eq (.int .i64 ((k:Nat):Int))) rfl (by rw[ae];rfl);exact zAJ (zDS cl rfl (zBV (by omega))) (Ext.refl _) rfl
     refine DagSteps.cons (fun s' w' X U H=>Or.inl ⟨?_,?_⟩) ?_
     ·exact zAD rfl
     ·have bz:s' 23=(.slice (some ⟨g,0,none⟩) ts.length c):=H 5 rfl 23 (.eq (.slice (some ⟨g,0,none⟩) ts.length c)) rfl (by rw[ae];rfl);have ca:s' 25=(.int .i64 (((k:Nat):Int) - 1)):=H 7 rfl 25 (.eq (.int .i64 (((k:Nat):Int) - 1))) rfl (by rw[ae];rfl);exact zAJ (zAH (i:=k - 1) bz ca (by omega) underlying23 zAO (by omega) (by omega)) (Ext.refl _) rfl
     refine DagSteps.cons (fun s' w' X U H=>Or.inl ⟨?_,?_⟩) ?_
     ·exact zAD rfl
     ·have ch:s' 26=(.pointer (some ⟨g,0+(k - 1)*6,none⟩)):=H 8 rfl 26 (.eq (.pointer (some ⟨g,0+(k - 1)*6,none⟩))) rfl (by rw[ae];rfl);exact zAJ (zAG (vs:=[(I6 y.kind),(.slice aq y.set.length au),(.slice ar y.args.length an),(I6 y.mn),(I6 y.mx),(.bool y.neg)]) ch zAc zAO rfl (by rw[Nat.zero_add];exact bl.ext (X0.trans X))) (Ext.refl _) rfl
     refine DagSteps.cons (fun s' w' X U H=>Or.inl ⟨?_,?_⟩) ?_
     ·exact zAD rfl
     ·have b6:s' 22=(.agg #[(.int .i64 x.kind),(.slice sa x.set.length sc),(.slice aa x.args.length ac),(.int .i64 x.mn),(.int .i64 x.mx),(.bool x.neg)]):=H 4 rfl 22 (.eq (.agg #[(.int .i64 x.kind),(.slice sa x.set.length sc),(.slice aa x.args.length ac),(.int .i64 x.mn),(.int .i64 x.mx),(.bool x.neg)])) rfl (by rw[ae];rfl);have ct:s' 27=(.agg #[(.int .i64 y.kind),(.slice aq y.set.length au),(.slice ar y.args.length an),(.int .i64 y.mn),(.int .i64 y.mx),(.bool y.neg)]):=H 9 rfl 27 (.eq (.agg #[(.int .i64 y.kind),(.slice aq y.set.length au),(.slice ar y.args.length an),(.int .i64 y.mn),(.int .i64 y.mx),(.bool y.neg)])) rfl (by rw[ae];rfl);have cg:s' 18=fv:=H 0 rfl 18 (.eq fv) rfl (by rw[ae];rfl);exact zJu cg (zHG b6 ct) (hf _ x y _ _ (zBG.ext (X0.trans X) x ai) (zBG.ext (X0.trans X) y aj))
     exact DagSteps.nil
    ·intro s' w4 X4 U H;obtain ⟨j4,rfl⟩:=zBA.out (σ:=s') (l:=[(0,(.slice (some ⟨g,0,none⟩) ts.length c)),(1,fv),(5,(.int .i64 ((k:Nat):Int))),(28,(.bool (zBZ x y)))]) ⟨U 0 rfl,U 1 rfl,U 5 rfl,(show s' 28=(.bool (zBZ x y)) from H 10 28 (.eq (.bool (zBZ x y))) rfl (by rw[ae];rfl)),trivial⟩;clear U H;replace ab:=X4.keep ab;replace E:=E.ext X4;refine zAC (zAt (b:=zBZ x y) rfl (fun ag=>?_) (fun ag=>?_))
     ·have be:=ag;refine zAA (qM (.slice (some ⟨g,0,none⟩) ts.length c) rfl (qM (I6 (k:Int)) rfl ?_));obtain ⟨sl,bq⟩:∃a':Option Addr,(if c=k then (some ⟨g,0,none⟩) else Option.map (fun q:Addr=>q.add (k*6)) (some ⟨g,0,none⟩))=a':=⟨_,rfl⟩;refine qV (zDq (a:=(some ⟨g,0,none⟩)) (len:=ts.length) (cap:=c) (lo:=k) (l:=(k:Int)) (n':=(ts.length - k)) (c':=(c - k)) underlying23 zAO rfl rfl (by omega) (by omega) bq (by omega) (by omega)) ?_;have bf:sl=some ⟨g,k*6,none⟩:=by rw[←bq,if_neg (by omega)];simp[Addr.add];omega
      subst bf;refine qA _ rfl (zAB (zAK (zAA (qA _ rfl (zAB (zAT (zAq (fun nn_ σ W6=>∃(m:Nat) (i:Nat) (af:List (List Value)),(∃jj_,σ=zCH jj_ [(0,(.slice (some ⟨g,0,none⟩) ts.length c)),(1,fv),(6,(.slice (some ⟨g,k*6,none⟩) (ts.length - k) (c - k))),(7,(I6 (m:Int))),(5,(I6 (i:Int)))])∧Chg (fun x=>base≤x) w0 W6∧Blk W6 g ((af.flatten++rest).toArray) TRe∧(1≤m∧m≤ts.length - k)∧(i<k+m)∧(af.length=ts.length)∧(∀r∈af,r.length=6)∧(af.drop (k+m - 1)=rows.drop (k+m - 1))∧(zAm S wb (kdR none (ts.take (k+m))) (af.take i))∧(i=(kdR none (ts.take (k+m))).length)∧nn_=ts.length - k - m) (n:=ts.length - k - 1) ?_ ?_)))))))
      ·exact ⟨1,k,rows,zBA.out ⟨rfl,rfl,rfl,rfl,rfl,trivial⟩,E,ab,⟨by omega,by omega⟩,(by omega),bs,a8,rfl,(by rw[ao,ag,a1];simpa using hr.take k),(by rw[ao,ag,a1];simp;omega),rfl⟩
      ·clear E ab;rintro _ _ W6 ⟨m,i,af,⟨j6,rfl⟩,E,ab,hm,cd,a7,am,a6,a3,al,rfl⟩;refine zAK (zAA (qM _ rfl (qM _ rfl (qV (zAM underlying23 rfl) (qV (zBH rfl rfl) (zAB (qC rfl (fun bc=>?_) (fun bc=>?_))))))))
       ·obtain ⟨j,hj⟩:∃j,j=k+m:=⟨_,rfl⟩;obtain ⟨x,hx⟩:=zAU (l:=ts) (i:=j) (by omega);obtain ⟨y,hy⟩:=zAU (l:=ts) (i:=j - 1) (by omega);obtain ⟨r,bi,a4⟩:=hr.get hx;obtain ⟨s,bn,bm⟩:=hr.get hy;have ao:=zQY (by omega) hx hy;rw[←hj] at a6 a3 al cd;have cv:af[j]?=some r:=by rw[zKW a6 (by omega)];exact bi
        have ci:af[j - 1]?=some s:=by rw[zKW a6 (Nat.le_refl _)];exact bn
        have a2:af.drop j=rows.drop j:=by have:=congrArg (List.drop 1) a6;rw[List.drop_drop,List.drop_drop,show j - 1+1=j by omega] at this;exact this
        have ai:zBG (W6) x r:=zAe.at x (zAe.chg E (fun y hy hb=>by have:=hS y hy;have ba:base≤y:=hb;omega) x (zAe.ext hE x a4));have aj:zBG (W6) y s:=zAe.at y (zAe.chg E (fun y hy hb=>by have:=hS y hy;have ba:base≤y:=hb;omega) y (zAe.ext hE y bm));have ax:=zFy ab am cv;have bl:=zFy ab am ci;obtain ⟨sa,sc,aa,ac,rfl,_,_,_⟩:=ai.form;obtain ⟨aq,au,ar,an,rfl,_,_,_⟩:=aj.form;refine zAP (zAC (zAK (zAT (zAK ?_))));obtain ⟨b7,ad⟩:∃Fs:List Fact,Fs=[.eq fv,.eq (.slice (some ⟨g,k*6,none⟩) (ts.length - k) (c - k)),.eq (I6 (m:Int)),.eq (.pointer (some ⟨g,k*6+m*6,none⟩)),.eq (.agg (R6 x sa sc aa ac)),.eq (.slice (some ⟨g,k*6,none⟩) (ts.length - k) (c - k)),.eq (I6 (m:Int)),.eq (I6 ((m:Int) - 1)),.eq (.pointer (some ⟨g,k*6+(m - 1)*6,none⟩)),.eq (.agg (R6 y aq au ar an)),.eq (.bool (zBZ x y)),.eq (.bool (!(zBZ x y)))]:=⟨_,rfl⟩;refine zEA [38,39,40,41,42,43,44,45,46,47,48,49] [[],[],[],[1,2],[3],[],[],[6],[5,7],[8],[0,4,9],[10]] b7 ad mixed (by kernel_rfl) (by kernel_rfl) ?_ ?_
        ·intro wd X0;refine DagSteps.cons (fun s' w' X U H=>Or.inl ⟨?_,?_⟩) ?_
         ·exact zAD rfl
         ·exact zAJ (zAi (U 1 rfl)) (Ext.refl _) rfl
         refine DagSteps.cons (fun s' w' X U H=>Or.inl ⟨?_,?_⟩) ?_
         ·exact zAD rfl
         ·exact zAJ (zAi (U 6 rfl)) (Ext.refl _) rfl
         refine DagSteps.cons (fun s' w' X U H=>Or.inl ⟨?_,?_⟩) ?_
         ·exact zAD rfl
         ·exact zAJ (zAi (U 7 rfl)) (Ext.refl _) rfl
         refine DagSteps.cons (fun s' w' X U H=>Or.inl ⟨?_,?_⟩) ?_
         ·exact zAD rfl
         ·have co:s' 39=(.slice (some ⟨g,k*6,none⟩) (ts.length - k) (c - k)):=H 1 rfl 39 (.eq (.slice (some ⟨g,k*6,none⟩) (ts.length - k) (c - k))) rfl (by rw[ad];rfl);have b8:s' 40=(.int .i64 ((m:Nat):Int)):=H 2 rfl 40 (.eq (.int .i64 ((m:Nat):Int))) rfl (by rw[ad];rfl);exact zAJ (zAH (i:=m) co b8 rfl underlying23 zAO (by omega) (by omega)) (Ext.refl _) rfl
         refine DagSteps.cons (fun s' w' X U H=>Or.inl ⟨?_,?_⟩) ?_
         ·exact zAD rfl
         ·have cb:s' 41=(.pointer (some ⟨g,k*6+m*6,none⟩)):=H 3 rfl 41 (.eq (.pointer (some ⟨g,k*6+m*6,none⟩))) rfl (by rw[ad];rfl);exact zAJ (zAG cb zAc zAO rfl (by rw[show k*6+m*6=j*6 by omega];exact ax.ext (X0.trans X))) (Ext.refl _) rfl
         refine DagSteps.cons (fun s' w' X U H=>Or.inl ⟨?_,?_⟩) ?_
         ·exact zAD rfl
         ·exact zAJ (zAi (U 6 rfl)) (Ext.refl _) rfl
         refine DagSteps.cons (fun s' w' X U H=>Or.inl ⟨?_,?_⟩) ?_
         ·exact zAD rfl
         ·exact zAJ (zAi (U 7 rfl)) (Ext.refl _) rfl
         refine DagSteps.cons (fun s' w' X U H=>Or.inl ⟨?_,?_⟩) ?_
         ·exact zAD rfl
         ·have cj:s' 44=(.int .i64 ((m:Nat):Int)):=H 6 rfl 44 (.eq (.int .i64 ((m:Nat):Int))) rfl (by rw[ad];rfl);exact zAJ (zDS cj rfl (zBV (by omega))) (Ext.refl _) rfl
         refine DagSteps.cons (fun s' w' X U H=>Or.inl ⟨?_,?_⟩) ?_
         ·exact zAD rfl
         ·have b3:s' 43=(.slice (some ⟨g,k*6,none⟩) (ts.length - k) (c - k)):=H 5 rfl 43 (.eq (.slice (some ⟨g,k*6,none⟩) (ts.length - k) (c - k))) rfl (by rw[ad];rfl);have b5:s' 45=(.int .i64 (((m:Nat):Int) - 1)):=H 7 rfl 45 (.eq (.int .i64 (((m:Nat):Int) - 1))) rfl (by rw[ad];rfl);exact zAJ (zAH (i:=m - 1) b3 b5 (by omega) underlying23 zAO (by omega) (by omega)) (Ext.refl _) rfl
         refine DagSteps.cons (fun s' w' X U H=>Or.inl ⟨?_,?_⟩) ?_
         ·exact zAD rfl
         ·have ce:s' 46=(.pointer (some ⟨g,k*6+(m - 1)*6,none⟩)):=H 8 rfl 46 (.eq (.pointer (some ⟨g,k*6+(m - 1)*6,none⟩))) rfl (by rw[ad];rfl);exact zAJ (zAG ce zAc zAO rfl (by rw[show k*6+(m - 1)*6=(j - 1)*6 by omega];exact bl.ext (X0.trans X))) (Ext.refl _) rfl
         refine DagSteps.cons (fun s' w' X U H=>Or.inl ⟨?_,?_⟩) ?_
         ·exact zAD rfl
         ·have cp:s' 42=(.agg #[(.int .i64 x.kind),(.slice sa x.set.length sc),(.slice aa x.args.length ac),(.int .i64 x.mn),(.int .i64 x.mx),(.bool x.neg)]):=H 4 rfl 42 (.eq (.agg #[(.int .i64 x.kind),(.slice sa x.set.length sc),(.slice aa x.args.length ac),(.int .i64 x.mn),(.int .i64 x.mx),(.bool x.neg)])) rfl (by rw[ad];rfl);have cs:s' 47=(.agg #[(.int .i64 y.kind),(.slice aq y.set.length au),(.slice ar y.args.length an),(.int .i64 y.mn),(.int .i64 y.mx),(.bool y.neg)]):=H 9 rfl 47 (.eq (.agg #[(.int .i64 y.kind),(.slice aq y.set.length au),(.slice ar y.args.length an),(.int .i64 y.mn),(.int .i64 y.mx),(.bool y.neg)])) rfl (by rw[ad];rfl);have b9:s' 38=fv:=H 0 rfl 38 (.eq fv) rfl (by rw[ad];rfl);exact zJu b9 (zHG cp cs) (hf _ x y _ _ (zBG.ext (X0.trans X) x ai) (zBG.ext (X0.trans X) y aj))
         refine DagSteps.cons (fun s' w' X U H=>Or.inl ⟨?_,?_⟩) ?_
         ·exact zAD rfl
         ·have cr:s' 48=(.bool (zBZ x y)):=H 10 rfl 48 (.eq (.bool (zBZ x y))) rfl (by rw[ad];rfl);exact zAJ (zCf cr) (Ext.refl _) rfl
         exact DagSteps.nil
        ·intro s' w8 X8 U H;obtain ⟨j8,rfl⟩:=zBA.out (σ:=s') (l:=[(0,(.slice (some ⟨g,0,none⟩) ts.length c)),(1,fv),(5,(.int .i64 ((i:Nat):Int))),(6,(.slice (some ⟨g,k*6,none⟩) (ts.length - k) (c - k))),(7,(.int .i64 ((m:Nat):Int))),(49,(.bool (!(zBZ x y))))]) ⟨U 0 rfl,U 1 rfl,U 5 rfl,U 6 rfl,U 7 rfl,(show s' 49=(.bool (!(zBZ x y))) from H 11 49 (.eq (.bool (!(zBZ x y)))) rfl (by rw[ad];rfl)),trivial⟩;clear U H;replace ab:=X8.keep ab;replace ax:=ax.ext X8;replace E:=E.ext X8;refine zAC (zAt rfl (fun ak=>?_) (fun ak=>?_))
         ·have bb:=ak;replace ak:=by simpa using ak
          have a5:zBZ x y=false:=by simpa using ak
          refine zAA (qM _ rfl (qM _ rfl (qM _ rfl (qM _ rfl (qV (zAH (b:=g) (o:=k*6) (len:=ts.length - k) (cap:=c - k) (i:=m) (o':=k*6+m*6) rfl rfl rfl underlying23 zAO (by omega) (by omega)) (qV (zAG rfl zAc zAO rfl (by rw[show k*6+m*6=j*6 by omega];exact ax)) (qV (zAH (b:=g) (o:=0) (len:=ts.length) (cap:=c) (i:=i) (o':=0+i*6) rfl rfl rfl underlying23 zAO (by omega) (by omega)) (zAY (b:=g) (o:=0+i*6) (n:=6) (c':=((af.set i [.int .i64 x.kind,.slice sa x.set.length sc,.slice aa x.args.length ac,.int .i64 x.mn,.int .i64 x.mx,.bool x.neg]).flatten++rest).toArray) (vs:=(R6 x sa sc aa ac)) rfl rfl (by simp[Value.oneCell']) zAO (rfl) ab (by have:=zCE am;simp only[List.size_toArray,List.length_append];omega) (by rw[Nat.zero_add];exact congrArg List.toArray (zKD (k:=6) (v:=[.int .i64 x.kind,.slice sa x.set.length sc,.slice aa x.args.length ac,.int .i64 x.mn,.int .i64 x.mx,.bool x.neg]) (rows:=af) (i:=i) (rest:=rest) rfl am (by omega))) ?_))))))));intro w10 bp;replace E:=bp.step E (by first|exact Or.inl (by omega)|exact Or.inr rfl|exact Or.inr (by assumption)|exact Or.inr (by simp)|exact Or.inr (by omega)|exact Or.inr (by dsimp only;omega));replace ab:=bp.blk;refine zAB (zAN (qM _ rfl (qV (zAy rfl rfl (zBV (by omega))) (qA _ rfl (zAB (zAS (zAC (zAN (qM _ rfl (qV (zAy (k:=.i64) (a:=(m:Int)) (b:=1) (c:=(m:Int)+1) rfl rfl (zBV (by omega))) (qA (I6 ((m:Int)+1)) rfl (zAB (zAC ?_)))))))))))));exact ⟨ts.length - k - (m+1),by omega,m+1,i+1,af.set i [.int .i64 x.kind,.slice sa x.set.length sc,.slice aa x.args.length ac,.int .i64 x.mn,.int .i64 x.mx,.bool x.neg],zBA.out ⟨rfl,rfl,rfl,rfl,rfl,trivial⟩,E,ab,⟨by omega,by omega⟩,(by omega),(by simpa using a7),(fun r hr=>by rcases List.mem_or_eq_of_mem_set hr with h|h;exact am r h;rw[h];rfl),(by rw[show k+(m+1) - 1=j by omega,List.drop_set_of_lt (by omega)];exact a2),(by rw[show k+(m+1)=j+1 by omega,ao,a5,List.take_add_one,List.take_set_of_le (Nat.le_refl _),List.getElem?_set_self (by omega)];exact zAm.append (zAm.single a4) a3),(by rw[show k+(m+1)=j+1 by omega,ao,a5,List.length_append,←al];rfl),rfl⟩
         ·have bb:=ak;replace ak:=by simpa using ak
          have bu:zBZ x y=true:=by simpa using ak
          refine zAP (zAS (zAC (zAN (qM _ rfl (qV (zAy (k:=.i64) (a:=(m:Int)) (b:=1) (c:=(m:Int)+1) rfl rfl (zBV (by omega))) (qA (I6 ((m:Int)+1)) rfl (zAB (zAC ?_))))))));exact ⟨ts.length - k - (m+1),by omega,m+1,i,af,zBA.out ⟨rfl,rfl,rfl,rfl,rfl,trivial⟩,E,ab,⟨by omega,by omega⟩,(by omega),a7,am,(by rw[show k+(m+1) - 1=j by omega];exact a2),(by rw[show k+(m+1)=j+1 by omega,ao,bu];simpa using a3),(by rw[show k+(m+1)=j+1 by omega,ao,bu];simpa using al),rfl⟩
       ·have cf:k+m=ts.length:=by omega
        rw[cf,List.take_length] at a3 al;have cq:i≤ts.length:=by rw[al];exact zQa _ _
        refine zAp (zAX (zAX (zAj (zAC (zAA (qM (.slice (some ⟨g,0,none⟩) ts.length c) rfl (qM (I6 (i:Int)) rfl ?_)))))));obtain ⟨sk,bo⟩:∃a':Option Addr,(if c=i then (some ⟨g,0,none⟩) else Option.map (fun q:Addr=>q.add (i*6)) (some ⟨g,0,none⟩))=a':=⟨_,rfl⟩;refine qV (zDq (a:=(some ⟨g,0,none⟩)) (len:=ts.length) (cap:=c) (lo:=i) (l:=(i:Int)) (n':=(ts.length - i)) (c':=(c - i)) underlying23 zAO rfl rfl (by omega) (by omega) bo (by omega) (by omega)) ?_;have bh:sk=some ⟨g,i*6,none⟩:=by rw[←bo,if_neg (by omega)];simp[Addr.add];omega
        subst bh;obtain ⟨cz,bg⟩:∃cz,cz=((af.flatten++rest).toArray.toList.take (i*6)++(Builtin.zeroCells (Value.cells (.agg #[(.int .i64 0),(.slice none 0 0),(.slice none 0 0),(.int .i64 0),(.int .i64 0),(.bool false)])) (ts.length - i)).toList++(af.flatten++rest).toArray.toList.drop (i*6+(ts.length - i)*6)).toArray:=⟨_,rfl⟩;refine zPq (b:=g) (o:=i*6) (m:=(ts.length - i)) (cc:=(c - i)) (c':=cz) underlying23 zAu rfl (by omega) ab zMy (by show i*6+(ts.length - i)*6≤_;simp only[List.size_toArray,List.length_append,zCE am,a7];omega) (bg.symm) ?_;intro w11 bt;replace E:=bt.step E (by first|exact Or.inl (by omega)|exact Or.inr rfl|exact Or.inr (by assumption)|exact Or.inr (by simp)|exact Or.inr (by omega)|exact Or.inr (by dsimp only;omega));replace ab:=bt.blk;refine zAB (zAA (qM (.slice (some ⟨g,0,none⟩) ts.length c) rfl (qM (I6 (i:Int)) rfl ?_)));obtain ⟨sm,ag⟩:∃a':Option Addr,(if c=0 then (some ⟨g,0,none⟩) else Option.map (fun q:Addr=>q.add (0*6)) (some ⟨g,0,none⟩))=a':=⟨_,rfl⟩;refine qV (zIH (hi:=i) underlying23 zAO rfl rfl (by omega) (by omega) ag) (qA _ rfl (zAB (zAR (zAZ (zAI (zAI (zAZ (zAI (zAW results185 (v:=(.slice sm i c)) rfl ?_)))))))));have a9:sm=some ⟨g,0,none⟩:=by rw[←ag];split<;>simp[Addr.add]
        subst a9;have b4:(af.take i).flatten.length=i*6:=by rw[zCE (fun r hr=>am r (List.mem_of_mem_take hr))];simp;omega
        have bw:(af.flatten++rest).take (i*6)=(af.take i).flatten:=by
         have:af.flatten=(af.take i).flatten++(af.drop i).flatten:=by rw[←List.flatten_append,List.take_append_drop]
         rw[this,List.append_assoc,List.take_append_of_le_length (by omega),List.take_of_length_le (by omega)]
        have hz:(Builtin.zeroCells (Value.cells (.agg #[(.int .i64 0),(.slice none 0 0),(.slice none 0 0),(.int .i64 0),(.int .i64 0),(.bool false)])) (ts.length - i)).toList.length=(ts.length - i)*6:=by simp[Builtin.zeroCells,Value.cells]
        have bk:(af.flatten++rest).length=c*6:=by rw[List.length_append,zCE am,a7];omega
        refine ⟨some ⟨g,0,none⟩,c,af.take i,by rw[←al],⟨by rw[b4,←al],.inr ⟨g,c,cz,by rw[←al],ck,ab,by omega,ap,?_,?_⟩⟩,a3,E⟩
        ·rw[bg];simp only[List.size_toArray,List.length_append,List.length_take,List.length_drop,hz];simp only[List.length_append] at bk;omega
        ·rw[bg,←al];show List.take (i*6) (List.take (i*6) (af.flatten++rest)++_++_)=_;rw[bw,List.append_assoc,List.take_append_of_le_length (by omega),List.take_of_length_le (by omega)]
     ·have be:=ag;have a5:zBZ x y=false:=by simpa using ag
      refine zAP (zAS (zAC (zAN (qM (I6 (k:Int)) rfl (qV (zAy rfl rfl (zBV (by omega))) (qA _ rfl (zAB (zAC ?_))))))));exact ⟨ts.length - (k+1),by omega,k+1,zBA.out ⟨rfl,rfl,rfl,trivial⟩,E,ab,⟨by omega,by omega⟩,(by rw[ao,a5,a1,List.take_add_one,hx];rfl),rfl⟩
   ·have cm:k=ts.length:=by omega
    rw[cm,List.take_length] at a1;refine zAp (zAX (zAX (zAj (zAC (zAA (qM _ rfl (qA _ rfl (zAB (zAR (zAW results185 (v:=(.slice (some ⟨g,0,none⟩) ts.length c)) rfl ?_))))))))));rw[a1];exact ⟨_,c,rows,rfl,zSK ah ab ay ap az,hr,E⟩
end Go.Proofs
namespace Go.Proofs
open Go Go.Eng Go.Sort
set_option maxRecDepth 100000
theorem zPd {us D:List Re} (hp:us.Perm D) (hs:us.Pairwise fun x y=>zCm x y≤0) (hn:∀x∈D,zEn x=true):us=zER D:=by
 have aa:us.Perm (zER D):=hp.trans (List.mergeSort_perm D leR).symm;refine List.Perm.eq_of_pairwise (le:=fun x y=>zCm x y≤0) (fun a b ha hb h1 h2=>?_) hs (zFt D) aa;have h3:=zBs a b;have h4:=zBs b a;exact (zHr (hn a (hp.mem_iff.1 ha)) (hn b (zFW.1 hb))).1 qO
theorem zSm {p:Re→Bool} {l:List Re}:(0≤idx p l→∃i x,idx p l=((i:Nat):Int)∧l[i]?=some x∧l.find? p=some x)∧(¬0≤idx p l→l.find? p=none):=by
  unfold idx;cases h:l.findIdx? p with
  | none=>
    refine ⟨fun h1=>by simp at h1,fun _=>?_⟩;rw[List.find?_eq_none];intro x hx;have:=(List.findIdx?_eq_none_iff.1 h) x hx;simp[this]
  | some i=>
    refine ⟨fun _=>?_,fun h1=>by simp at h1⟩;obtain ⟨hi,h1,h2⟩:=List.findIdx?_eq_some_iff_getElem.1 h;refine ⟨i,l[i],rfl,List.getElem?_eq_getElem hi,?_⟩;rw[List.find?_eq_some_iff_getElem];exact ⟨h1,i,hi,rfl,fun j hj=>by simpa using h2 j hj⟩
theorem zOE (w0:World) (S:Nat→Prop) (k:Int) (v sf gf:Value) (ts:List Re) (strong weak:Re→Bool) (zt:Re) (zv:List Value) (h:zCU S w0 v ts) (hz:zAe S w0 zt zv) (hS:∀x,S x→x<w0.heap.size) (hne:∀x∈ts,x.kind=k→x.args≠[]) (hsz:Re.sizes ts≤1000000) (hnn:∀x∈zBY k ts,zEn x=true)
  (hs:∀(w:World) (x:Re) (vs:List Value),x∈ts→zBG w x vs→zCD prog sf #[.agg vs.toArray] w fun r w'=>r=.bool (strong x)∧Ext w w')
  (hw:∀(w:World) (x:Re) (vs:List Value),x∈zBY k ts→zBG w x vs→zCD prog gf #[.agg vs.toArray] w fun r w'=>r=.bool (weak x)∧Ext w w') :
  Ret prog 161 #[.int .i64 k,v,sf,gf,.agg zv.toArray] w0 fun r w=>(∃vs,r=.agg vs.toArray∧zAe (fun b=>S b∨w0.heap.size≤b) w (zJG k ts strong weak zt) vs)∧Ext w0 w:=by
 have h0:=h;have bm:=hz;obtain ⟨aw,ap,ax,ao,rfl,_,_,_⟩:=hz.form;obtain ⟨bw,bg,rfl,bv,_⟩:=h;have hls:=zDD ts;have ba:=zKQ k ts ts.length;rw[List.take_length] at ba;have am:=h0;obtain ⟨aq,al⟩:=zSm (p:=strong) (l:=ts);obtain ⟨q,hq⟩:∃q:Int,q=idx strong ts:=⟨_,rfl⟩;rw[←hq] at aq al;obtain ⟨D,hD⟩:∃D,D=zFq weak (zBY k ts):=⟨_,rfl⟩;have hDl:D.length≤(zBY k ts).length:=by rw[hD];exact List.length_filter_le _ _
 have br:∀x∈D,zEn x=true:=fun x hx=>hnn x (zGE.1 (by rw[←hD];exact hx)).1;obtain ⟨G,hG⟩:∃G,G=zGu (zER D):=⟨_,rfl⟩;have a4:zJG k ts strong weak zt=match ts.find? strong with|some x=>x|none=>zCL k zt G:=by rw[hG,hD];rfl
 rw[a4];obtain ⟨b3,bq,bk⟩:=zFU k zt G;refine qR func161 rfl ntmps161 rfl (fun E=>(zAA (zBL (v:=(.agg (R6 zt aw ap ax ao))) (c:=(R6 zt aw ap ax ao)) qD rfl rfl ?_)));intro bz wz Nz;have Fz:=Nz.ge E;replace E:=E.ext Nz.ext;have Bz:=Nz.blk;refine zBJ (c:=#[(I6 0),(.slice none 0 0),(.slice none 0 0),(I6 0),(I6 0),(.bool false)]) qD zAu rfl ?_;intro bo wo No;have Fo:=No.ge E;have Oo_bz:=No.lt Bz;replace Bz:=No.keep Bz;replace E:=E.ext No.ext;have Bo:=No.blk;refine zAB (zAK (zAA (qM _ rfl (qM _ rfl ?_))));obtain ⟨ae,ah⟩:∃ae,ae=wo.heap.size:=⟨_,rfl⟩;have hob:bo<ae∧bz<ae:=⟨by rw[ah];exact Bo.lt,by rw[ah];exact Bz.lt⟩;have hwb:w0.heap.size≤ae:=qO
 have E2:Chg zAo wo wo:=Chg.refl _ _;refine qE rfl (zAV func82 zXf zXk rfl) ((zGP _ _ sf ts strong (zKC (h0.ext E)) (fun w x vs _ hm hx=>hs w x vs hm hx)).mono (R':=fun r w=>r=.int .i64 q∧Ext wo w) (fun r w h9=>⟨by rw[h9.1,hq],h9.2⟩)) ?_;rintro _ w9 ⟨rfl,X9⟩;replace Bz:=X9.keep Bz;replace Bo:=X9.keep Bo;replace E:=E.ext X9;refine qA _ rfl (zAB (zAA (qM _ rfl (qV (zFG rfl rfl) (zAB (qC rfl (fun bd=>?_) (fun bd=>?_)))))))
 ·obtain ⟨i,x,hi,hx,hf⟩:=aq bd;have bh:=zAa hx;have b0:zCU S (w9) (.slice bw ts.length bg) ts:=am.ext E;obtain ⟨lb,lo,rfl,a9⟩:=b0.cells qO;obtain ⟨xs,a2,ak⟩:=a9 i x hx;have ai:=ak;obtain ⟨sa,sc,aa,ac,rfl,_,_,_⟩:=ak.form;refine zAA (qM _ rfl (qM _ rfl (qV (zAH (b:=lb) (o:=lo) (len:=ts.length) (cap:=bg) (i:=i) (o':=lo+i*6) rfl rfl qO underlying23 zAO qO qO) ?_)));have ad:Chg (fun y=>y=bo) (w9) (w9):=Chg.refl _ _;refine qV (zAG rfl zAc zAO rfl (a2)) (zAY (b:=bo) (o:=0) (c':=(R6 x sa sc aa ac)) rfl rfl qS zAO rfl Bo qL rfl ?_);intro w2 S2;replace ad:=S2.chg;replace Bz:=S2.keep qO Bz;replace E:=S2.step E qQ;replace Bo:=S2.blk;refine zAB (zAR (zAI (zAr results161 (vs:=[(.int .i64 x.kind),(.slice sa x.set.length sc),(.slice aa x.args.length ac),(.int .i64 x.mn),(.int .i64 x.mx),(.bool x.neg)]) (b:=bo) rfl zAc zAO rfl (Bo.cells rfl) ?_)));exact ⟨⟨_,rfl,by rw[hf];exact zAe.mono (fun y hy=>.inl hy) x (zAe.chg ad (fun y hy h=>by have h1:=hS y hy;have h2:y=bo:=h;omega) x ai)⟩,E⟩
 ·rw[al bd];obtain ⟨ab,aj⟩:∃ab,ab=w9.heap.size:=⟨_,rfl⟩;have a3:bo<ab∧bz<ab∧w0.heap.size≤ab:=by have:=X9.size;omega
  refine zAP (zAC (zAA (qM _ rfl (qM _ rfl (qE rfl (zAV func167 zWh zXR rfl) (zTq _ S k _ ts (am.ext E) hne hsz) ?_)))));rintro _ wf ⟨la,lc,a8,rfl,au,b2,Xf⟩;replace Bz:=Xf.keep Bz;replace Bo:=Xf.keep Bo;replace E:=E.ext Xf;rw[←aj] at au;have E3:Ext w9 wf:=Xf;have a6:∀x,S x→x<ab:=fun x hx=>by have:=hS x hx;omega
  refine qM _ rfl (qE rfl (zAV func166 zWi zXS rfl) ((zXC w9 _ ab S _ _ (zBY k ts) a8 weak E3 au b2 a6 qO hw).mono (R':=fun r w=>∃la lc rows',r=.slice la D.length lc∧w.ownsRow ab TRe 6 r D.length rows'.flatten∧zAm S w9 D rows'∧Chg (fun x=>ab≤x) wf w) (fun r w h9=>by rw[hD];exact h9)) ?_);rintro _ wd ⟨bp,bt,ar,rfl,af,a7,Cd⟩;replace Bz:=Cd.keep qO Bz;replace Bo:=Cd.keep qO Bo;replace E:=E.step Cd (by intro x hx hm;omega);replace E3:=E3.step Cd (by intro x hx hm;omega);refine qA _ rfl (zAB (zAA (qM _ rfl (qE rfl (zAV func183 zYW zZc rfl) ((zUQ w9 _ S ab _ D ar E3 af a7 a6 qO).mono (R':=fun r w=>r=.tuple #[]∧(∃qs,w.ownsRow ab TRe 6 (.slice bp D.length bt) (zER D).length qs.flatten∧zAm S w9 (zER D) qs)∧Chg (fun x=>ab≤x) wd w) (fun r w h9=>by obtain ⟨h1,⟨us,qs,hp,bx,h3,h4⟩,h5⟩:=h9;have h6:=zPd hp bx br;subst h6;exact ⟨h1,⟨qs,h3,h4⟩,h5.mono fun x _ hx=>(af.lt x hx).1⟩)) ?_))));rintro _ ws ⟨rfl,⟨qs,ag,a5⟩,Cs⟩;replace Bz:=Cs.keep qO Bz;replace Bo:=Cs.keep qO Bo;replace E:=E.step Cs (by intro x hx hm;omega);replace E3:=E3.step Cs (by intro x hx hm;omega);have be:(zER D).length=D.length:=List.length_mergeSort D;rw[←be] at ag;rw[←be];refine zAB (zAA (qM _ rfl (qE rfl (zAV func185 zYV zZb rfl) ((zVY w9 _ ab S _ _ (zER D) qs E3 ag a5 a6 qO (fun w x y xs ys hx hy=>zCD.mk (first:=#[]) (cap:=#[]) func25 zYO zZU rfl (zNM _ x y w xs ys (Nat.le_refl _) hx hy))).mono (R':=fun r w=>∃la lc rows',r=.slice la G.length lc∧w.ownsRow ab TRe 6 r G.length rows'.flatten∧zAm S w9 G rows'∧Chg (fun x=>ab≤x) ws w) (fun r w h9=>by rw[hG];exact h9)) ?_)));rintro _ wc ⟨az,an,bf,rfl,ay,bc,Cc⟩;replace Bz:=Cc.keep qO Bz;replace Bo:=Cc.keep qO Bo;replace E:=E.step Cc (by intro x hx hm;omega);replace E3:=E3.step Cc (by intro x hx hm;omega);obtain ⟨b1,av⟩:=zDs ay (bc.ext E3) rfl;refine qA _ rfl (zAB (zAK (zAA (qM _ rfl (qV (zAM underlying23 rfl) (zAB (zAT (zAA (qV (zAk rfl rfl) (qA _ rfl (zAB (qC rfl (fun bi=>?_) (fun bi=>?_)))))))))))))
  ·have ad:Chg (fun y=>y=bo) (wc) (wc):=Chg.refl _ _;have bs:=zAe.ext E zt bm;refine zAA (qV (zAG (vs:=[(I6 zt.kind),(.slice aw zt.set.length ap),(.slice ax zt.args.length ao),(I6 zt.mn),(I6 zt.mx),(.bool zt.neg)]) rfl zAc zAO rfl (Bz.cells rfl)) (zAY (b:=bo) (o:=0) (c':=(R6 zt aw ap ax ao)) rfl rfl qS zAO rfl Bo qL rfl ?_));intro w4 S4;replace ad:=S4.chg;replace Bz:=S4.keep qO Bz;replace E:=S4.step E qQ;replace Bo:=S4.blk;refine zAB (zAR (zAZ (zAI (zAr results161 (vs:=[(.int .i64 zt.kind),(.slice aw zt.set.length ap),(.slice ax zt.args.length ao),(.int .i64 zt.mn),(.int .i64 zt.mx),(.bool zt.neg)]) (b:=bo) rfl zAc zAO rfl (Bo.cells rfl) ?_))));exact ⟨⟨_,rfl,by show zAe _ _ (zCL k zt G) _;rw[b3 qO];exact zAe.mono (fun y hy=>.inl hy) zt (zAe.chg ad (fun y hy h=>by have h1:=hS y hy;have h2:y=bo:=h;omega) zt bs)⟩,E⟩
  ·refine zAA (qV (zAk rfl rfl) (qA _ rfl (zAB (qC rfl (fun bj=>?_) (fun bj=>?_)))))
   ·obtain ⟨x,hx⟩:=zAU (l:=G) (i:=0) qO;obtain ⟨lb,bn,bl,bb,a9⟩:=av.resolve_left (fun h=>by rw[h] at hx;simp at hx);subst bb;obtain ⟨xs,a2,ak⟩:=a9 0 x hx;have ai:=ak;obtain ⟨sa,sc,aa,ac,rfl,_,_,_⟩:=ak.form;have ad:Chg (fun y=>y=bo) (wc) (wc):=Chg.refl _ _;refine zAA (qM _ rfl (qV (zAH (b:=lb) (o:=0) (len:=G.length) (cap:=an) (i:=0) (o':=0) rfl rfl rfl underlying23 zAO qO qO) (qV (zAG rfl zAc zAO rfl (a2)) (zAY (b:=bo) (o:=0) (c':=(R6 x sa sc aa ac)) rfl rfl qS zAO rfl Bo qL rfl ?_))));intro w6 S6;replace ad:=S6.chg;replace Bz:=S6.keep qO Bz;replace E:=S6.step E qQ;replace Bo:=S6.blk;refine zAB (zAR (zAZ (zAI (zAr results161 (vs:=[(.int .i64 x.kind),(.slice sa x.set.length sc),(.slice aa x.args.length ac),(.int .i64 x.mn),(.int .i64 x.mx),(.bool x.neg)]) (b:=bo) rfl zAc zAO rfl (Bo.cells rfl) ?_))));exact ⟨⟨_,rfl,by show zAe _ _ (zCL k zt G) _;rw[bq x qO hx];exact zAe.mono (fun y hy=>.inl hy) x (zAe.chg ad (fun y hy h=>by have h1:=hS y hy;have h2:y=bo:=h;omega) x ai)⟩,E⟩
   ·have ad:Chg (fun y=>y=bo) (wc) (wc):=Chg.refl _ _;refine zAP (zAS (zAC (zAA (qM _ rfl (qM _ rfl (qV (zBd (ps:=[(0,(I6 k)),(2,(.slice az G.length an))]) (v:=(.agg #[(I6 k),(.slice none 0 0),(.slice az G.length an),(I6 0),(I6 0),(.bool false)])) rfl qK) (zAY (b:=bo) (o:=0) (c':=#[(I6 k),(.slice none 0 0),(.slice az G.length an),(I6 0),(I6 0),(.bool false)]) rfl rfl qS zAO rfl Bo qL rfl ?_)))))));intro w7 S7;replace ad:=S7.chg;replace Bz:=S7.keep qO Bz;replace E:=S7.step E qQ;replace Bo:=S7.blk;refine zAB (zAR (zAr results161 (vs:=[(.int .i64 k),(.slice none 0 0),(.slice az G.length an),(.int .i64 0),(.int .i64 0),(.bool false)]) (b:=bo) rfl zAc zAO rfl (Bo.cells rfl) (⟨⟨_,rfl,?_⟩,E⟩)));show zAe _ _ (zCL k zt G) _;rw[bk qO];refine zAe.of (set:=[]) (zDK.nil _ _ _ _ _) b1 ?_;rcases av with h|⟨ob,bu,a3,a1,a0⟩
    ·exact .inl h
    ·refine .inr ⟨ob,0,.inr qO,a1,zDB fun i t ht=>?_⟩;obtain ⟨vs,h6,h7⟩:=a0 i t ht;exact ⟨vs,h6.chg ad (fun h=>by have h':ob=bo:=h;omega),zAe.mono (fun y hy=>.inl hy) t (zAe.chg ad (fun y hy h=>by have h1:=hS y hy;have h2:y=bo:=h;omega) t h7)⟩
end Go.Proofs
