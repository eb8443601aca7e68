/- Contracts and plain lemmas, part 4. -/
import Derived.Test.YtdbomjjhpidajaaGreatDoorZl3
open Go.Proofs.Tryz
set_option maxHeartbeats 16000000
set_option linter.unusedVariables false
namespace Go.Proofs
open Go Go.Eng Go.Sort
set_option maxRecDepth 100000
def kcL (k:Plc):List Value:=[.int .i64 k.1,.string k.2]
theorem zUt (b:Bool) (w:World) (k:Plc):(Instr.checkKey b 10000 205 (zQJ k)).run prog w=.ok () w:=by kernel_rfl
theorem zQH:KeyOk prog 205 zQJ:=zQF (by rw[underlying205]) zUt (fun w a b=>zXP underlying205 qK underlying3 underlying203 qD qD w a b) zRU
theorem zUh (w0:World) (first:Plc) (c most:Nat) (sv av:Value) (stp:Plc→Nat→Option Plc) (acc:Plc→Int) (hc:1≤c∧c≤16) (hm:1≤most∧most≤20000) (hac:∀k,Rch c stp first k→-1≤acc k∧acc k<2147483648)
  (hs:∀w k x,Ext w0 w→Rch c stp first k→x<c→zCG prog sv #[.agg #[.int .i64 k.1,.string k.2],.int .i64 ((x:Nat):Int)] w fun r w'=>(∃q,r=.tuple #[.agg #[.int .i64 q.1,.string q.2],.bool (stp k x).isSome]∧∀b,stp k x=some b→q=b)∧Ext w w')
  (ha:∀w k,Ext w0 w→Rch c stp first k→zCG prog av #[.agg #[.int .i64 k.1,.string k.2]] w fun r w'=>r=.int .i64 (acc k)∧Ext w w') :
  Ret prog 179 #[.agg #[.int .i64 first.1,.string first.2],.int .i64 ((c:Nat):Int),sv,av,.int .i64 ((most:Nat):Int)] w0 fun r w=>zJa c most stp acc first w0.heap.size r w∧Ext w0 w:=by
 have cu:∀k,(kcL k).length=2:=fun _=>rfl;refine qR func179 rfl ntmps179 rfl (fun E=>(zAA (zBQ (v:=(.agg #[(I6 first.1),(.string first.2)])) (c:=#[(I6 first.1),(.string first.2)]) qD rfl rfl ?_)));intro bf wf Nf;have Ff:=Nf.ge E;replace E:=E.ext Nf.ext;have Bf:=Nf.blk;refine zBH (c:=#[(I6 0),(.slice none 0 0),(.slice none 0 0)]) qD zBf rfl ?_;intro br wr Nr;have Fr:=Nr.ge E;have Or_bf:=Nr.lt Bf;replace Bf:=Nr.keep Bf;replace E:=E.ext Nr.ext;have Br:=Nr.blk;refine qA (.bool false) rfl (zAB (zAA (qV (zAK (vs:=[(I6 first.1),(.string first.2)]) rfl zFh zCz rfl (Bf.cells rfl)) (zAc (ps:=[(0,(.agg #[(I6 first.1),(.string first.2)]))]) (c:=#[(I6 first.1),(.string first.2)]) qD rfl underlying224 zCz zIr qD qD qK ?_))));intro bs ws Ns;have Fs:=Ns.ge E;have Os_bf:=Ns.lt Bf;have Os_br:=Ns.lt Br;replace Bf:=Ns.keep Bf;replace Br:=Ns.keep Br;replace E:=E.ext Ns.ext;have Bs:=Ns.blk;refine qA (.slice (some ⟨bs,0,none⟩) 1 1) rfl (zAB (zAA (zEW zQJ zEz qD ?_)));intro bm wm Nm;have Fm:=Nm.ge E;have Om_bf:=Nm.lt Bf;have Om_br:=Nm.lt Br;have Om_bs:=Nm.lt Bs;replace Bf:=Nm.keep Bf;replace Br:=Nm.keep Br;replace Bs:=Nm.keep Bs;replace E:=E.ext Nm.ext;intro Mm;refine qV (zAK (vs:=[(I6 first.1),(.string first.2)]) rfl zFh zCz rfl (Bf.cells rfl)) (zHO (k:=(first.1,first.2)) (v:=0) underlying225 (zQH) Mm rfl rfl rfl ?_);intro w1 S1 H1;replace Bf:=S1.keep qO Bf;replace Br:=S1.keep qO Br;replace Bs:=S1.keep qO Bs;replace E:=S1.step E qQ;replace Mm:=H1;refine qM (.map (some bm)) rfl (qA (.map (some bm)) rfl (zAB (zAA (zBH (c:=#[(I6 0),(.slice none 0 0),(.slice none 0 0)]) qD zBf rfl ?_))));intro bd wd Nd;have Fd:=Nd.ge E;have Od_bf:=Nd.lt Bf;have Od_br:=Nd.lt Br;have Od_bs:=Nd.lt Bs;have Od_bm:=Nd.ltM Mm;replace Bf:=Nd.keep Bf;replace Br:=Nd.keep Br;replace Bs:=Nd.keep Bs;replace Mm:=Nd.keepM Mm;replace E:=E.ext Nd.ext;have Bd:=Nd.blk;refine zAB (zAH (zAA (qA (I6 0) rfl (zAB (zAS ?_)))));obtain ⟨n1,c4⟩:∃n1,n1=bs:=⟨_,rfl⟩;obtain ⟨n2,ar⟩:∃n2,n2=(wd).heap.size:=⟨_,rfl⟩;have eb:br<n2∧bs<n2∧bm<n2∧bd<n2:=⟨by rw[ar];exact Br.lt,by rw[ar];exact Bs.lt,by rw[ar];exact Mm.lt,by rw[ar];exact Bd.lt⟩;have cl:w0.heap.size≤n1∧w0.heap.size≤n2:=qO
 have dk:(wd).ownsRow n1 205 2 (.slice (some ⟨bs,0,none⟩) 1 1) 1 ([first].map kcL).flatten:=zNJ (base:=n1) Bs qO;refine zAp (fun nn_ σ W2=>∃(i:Nat) (ab:List (List Int)) (ks:List Plc) (ac:List Int) (vs:List Value) (sa ea ag:Option Addr) (ae sn ec af:Nat),(∃jj_,σ=zCT jj_ [(1,(I6 (c:Int))),(2,sv),(3,av),(4,(I6 (most:Int))),(10,(P6 br 0)),(13,(.map (some bm))),(14,(P6 bd 0)),(15,(I6 (i:Int))),(12,(.slice sa sn ae))])∧Chg zAh w0 W2∧Blk W2 br #[(I6 0),(.slice none 0 0),(.slice none 0 0)] 34∧zCC W2 bm zQJ zEz (zBN ks 0)∧Blk W2 bd (#[Value.int .i64 0,.slice ea i ec,.slice ag i af]) 34∧(ExpP c stp first ks ab [])∧(ab.length=i)∧(ks.length≤most)∧(sn=ks.length)∧(i≤sn)∧(ac=(ks.take i).map acc)∧(W2.ownsRow n1 205 2 (.slice sa sn ae) sn (ks.map kcL).flatten)∧(OutSt W2 n2 (.slice ea i ec) (.slice ag i af) vs ac ab)∧(∀b,(Value.slice sa sn ae).ownBlock=some b→¬zGv (.slice ea i ec) (.slice ag i af) vs b∧b≠bm∧b≠bd)∧(n2≤W2.heap.size)∧nn_=most - i) (n:=most - 0) ?_ ?_
 ·exact ⟨0,[],[first],[],[],some ⟨bs,0,none⟩,none,none,1,1,0,0,zAz.out ⟨rfl,rfl,rfl,rfl,rfl,rfl,rfl,rfl,rfl,trivial⟩,E,Br,Mm,Bd,ExpP.start _ _ _,rfl,hm.1,rfl,qO,rfl,dk,OutSt.start _ _,(fun b hb=>⟨(fun h=>by rcases h with h|h|⟨i,v,h,_⟩;cases h;cases h;simp at h),(by have c9:bs=b:=Option.some.inj hb;omega),(by have c9:bs=b:=Option.some.inj hb;omega)⟩),qO,rfl⟩
 ·clear E Br Mm Bd;rintro _ _ W2 ⟨i,ab,ks,ac,vs,sa,ea,ag,ae,sn,ec,af,⟨j2,rfl⟩,E,Br,Mm,Bd,hC,b1,a5,ba,dr,a2,hS,hO,ah,ak,rfl⟩;refine zAH (zAA (qM (I6 (i:Int)) rfl (qM (.slice sa sn ae) rfl (qV (zAJ (ad:=sa) (n:=sn) (cap:=ae) underlying224 rfl) (qV (zBF (k:=.i64) (a:=(i:Int)) (b:=(sn:Int)) rfl rfl) (zAB (qC rfl (fun dn=>?_) (fun dn=>?_))))))))
  ·obtain ⟨k,am⟩:=zAN (l:=ks) (i:=i) qO;have c3:=hC.rch k (List.mem_of_getElem? am);obtain ⟨sb,rfl,d0,hsc⟩:=zBe hS qO;obtain ⟨z0,hz0⟩:∃z0,z0=(W2).heap.size:=⟨_,rfl⟩;have d6:n2≤z0:=qO
   have b2:∀b,zGv (.slice ea i ec) (.slice ag i af) vs b→b<z0:=fun b hb=>by have:=(hO.lt hb).2;omega
   have d1:∀b,(Value.slice (some ⟨sb,0,none⟩) sn ae).ownBlock=some b→b<z0:=fun b hb=>by have:=(hS.lt b hb).2;omega
   refine zAO (zAC (zAH (zAS (zAA (qM (I6 (c:Int)) rfl (zEx (n:=c) (z:=(I6 0)) (bytes:=8) qD underlying22 zAy zJU zDI rfl rfl rfl qO qO ?_))))));intro bq wq Nq;have Fq:=Nq.ge E;have Oq_br:=Nq.lt Br;have Oq_bm:=Nq.ltM Mm;have Oq_bd:=Nq.lt Bd;replace Br:=Nq.keep Br;replace Mm:=Nq.keepM Mm;replace Bd:=Nq.keep Bd;replace hS:=zAj hS Nq.ext;replace hO:=hO.ext Nq.ext;replace ak:=Nat.le_trans ak Nq.ext.size;replace E:=E.ext Nq.ext;have Bq:=Nq.blk;refine qA (.slice (some ⟨bq,0,none⟩) c c) rfl (zAB (zAH (zAA (qM (I6 (c:Int)) rfl (qM (I6 0) rfl (zAB (zAS ?_)))))));have hqz:z0≤bq:=by have:=Nq.eq;omega
   rw[show List.replicate c (Value.int .i64 0)=(List.replicate c (0:Int)).map (Value.int .i64) by simp] at Bq;refine zAp (fun nn_ σ W4=>∃(x:Nat) (R:List Int) (ks:List Plc) (sa:Option Addr) (ae sn:Nat),(∃jj_,σ=zCT jj_ [(1,(I6 (c:Int))),(2,sv),(3,av),(4,(I6 (most:Int))),(10,(P6 br 0)),(13,(.map (some bm))),(14,(P6 bd 0)),(15,(I6 (i:Int))),(16,(.slice (some ⟨bq,0,none⟩) c c)),(35,(I6 (c:Int))),(36,(I6 (x:Int))),(12,(.slice sa sn ae))])∧Chg zAh w0 W4∧Blk W4 br #[(I6 0),(.slice none 0 0),(.slice none 0 0)] 34∧zCC W4 bm zQJ zEz (zBN ks 0)∧Blk W4 bd (#[Value.int .i64 0,.slice ea i ec,.slice ag i af]) 34∧Blk W4 bq ((R.map (Value.int .i64)).toArray) 3∧(x≤c)∧(R.length=c)∧(ExpP c stp first ks ab (R.take x))∧(ks.length≤most)∧(ks[i]?=some k)∧(sn=ks.length)∧((ks.take i).map acc=ac)∧(W4.ownsRow n1 205 2 (.slice sa sn ae) sn (ks.map kcL).flatten)∧(OutSt W4 n2 (.slice ea i ec) (.slice ag i af) vs ac ab)∧(∀b,(Value.slice sa sn ae).ownBlock=some b→¬zGv (.slice ea i ec) (.slice ag i af) vs b∧b≠bm∧b≠bd∧b≠bq)∧(n2≤W4.heap.size)∧nn_=c - x) (n:=c - 0) ?_ ?_
   ·exact ⟨0,List.replicate c 0,ks,some ⟨sb,0,none⟩,ae,sn,zAz.out ⟨rfl,rfl,rfl,rfl,rfl,rfl,rfl,rfl,rfl,rfl,rfl,rfl,trivial⟩,E,Br,Mm,Bd,Bq,Nat.zero_le _,qP,(by simpa using hC),a5,am,ba,a2.symm,hS,hO,(fun b hb=>⟨(ah b hb).1,(ah b hb).2.1,(ah b hb).2.2,fun e=>by have:=d1 b hb;omega⟩),ak,rfl⟩
   ·clear E Br Mm Bd Bq;rintro _ _ W4 ⟨x,R,ks,sa,ae,sn,⟨j4,rfl⟩,E,Br,Mm,Bd,Bq,hx,bi,hC,a5,am,ba,b0,hS,hO,ah,ak,rfl⟩;refine zAA (qV (zBF (k:=.i64) (a:=(x:Int)) (b:=(c:Int)) rfl rfl) (zAB (zAH (qC rfl (fun cf=>?_) (fun cf=>?_)))))
    ·obtain ⟨ai,rfl,_,bc⟩:=zBe hS (by have:=zAE am;omega);have d2:i<sn:=by have:=zAE am;omega
     have cj:zBE (W4) ai (0+i*2) [.int .i64 k.1,.string k.2]:=zDP cu bc am;refine zAO (zAC (zAH (zAS (zAA (qM (I6 (x:Int)) rfl (qA (I6 (x:Int)) rfl (zAB (zAA (qM sv rfl (qM (.slice (some ⟨ai,0,none⟩) sn ae) rfl (qM (I6 (i:Int)) rfl (qV (zAD (b:=ai) (o:=0) (len:=sn) (cap:=ae) (i:=i) (o':=0+i*2) rfl rfl rfl underlying224 zCz qO qO) (qV (zAK (vs:=[(I6 k.1),(.string k.2)]) rfl zFh zCz rfl (cj)) (qM (I6 (x:Int)) rfl (zDD (fv:=sv) (vs:=[(.agg #[(I6 k.1),(.string k.2)]),(I6 (x:Int))]) qD rfl rfl (hs _ k x E c3 qO) ?_)))))))))))))));rintro _ w9 ⟨⟨q,rfl,hq⟩,X9⟩;replace Br:=X9.keep Br;replace Mm:=X9.keepM Mm;replace Bd:=X9.keep Bd;replace Bq:=X9.keep Bq;replace E:=E.ext X9;have hS:=zAj hS X9;have hO:=hO.ext X9;have ak:=Nat.le_trans ak X9.size;obtain ⟨zz,hzz⟩:∃zz,zz=(w9).heap.size:=⟨_,rfl⟩;have cr:∀b,(Value.slice (some ⟨ai,0,none⟩) sn ae).ownBlock=some b→b<zz:=fun b hb=>by have:=(hS.lt b hb).2;omega
     have be:(R.take x).length=x:=by simp;omega
     have a4:ks[ab.length]?=some k:=by rw[b1];exact am
     have dq:=zBt (L:=R) (s:=x) (x:=-1) qO;refine qM (.tuple #[(.agg #[(I6 q.1),(.string q.2)]),(.bool ((stp k x).isSome))]) rfl (qV (zAa (vs:=#[(.agg #[(I6 q.1),(.string q.2)]),(.bool ((stp k x).isSome))]) (v:=(.agg #[(I6 q.1),(.string q.2)])) rfl rfl) (qV (zAa (vs:=#[(.agg #[(I6 q.1),(.string q.2)]),(.bool ((stp k x).isSome))]) (v:=(.bool ((stp k x).isSome))) rfl rfl) (zAd (v:=(.agg #[(I6 q.1),(.string q.2)])) (c:=#[(I6 q.1),(.string q.2)]) (n:=2) qD zIr rfl zCz rfl rfl rfl qS ?_)));intro bz wz Nz;have Fz:=Nz.ge E;have Oz_br:=Nz.lt Br;have Oz_bm:=Nz.ltM Mm;have Oz_bd:=Nz.lt Bd;have Oz_bq:=Nz.lt Bq;replace Br:=Nz.keep Br;replace Mm:=Nz.keepM Mm;replace Bd:=Nz.keep Bd;replace Bq:=Nz.keep Bq;replace hS:=zAj hS Nz.ext;replace hO:=hO.ext Nz.ext;replace ak:=Nat.le_trans ak Nz.ext.size;replace E:=E.ext Nz.ext;have Bz:=Nz.blk;refine qA (.bool ((stp k x).isSome)) rfl (zAB (zAH (zAA (qM (.slice (some ⟨bq,0,none⟩) c c) rfl (qM (I6 (x:Int)) rfl (qV (zAD (b:=bq) (o:=0) (len:=c) (cap:=c) (i:=x) (o':=0+x) rfl rfl rfl underlying22 zAy qO qO) (zBC (b:=bq) (o:=0+x) (c':=((R.set x (-1)).map (Value.int .i64)).toArray) (v:=(I6 (-1))) rfl rfl rfl zAy Bq (by simp;omega) (zCX _) ?_)))))));intro w6 S6;replace hS:=zAq hS S6.chg fun b hb h=>(ah b hb).2.2.2 h;replace hO:=hO.chg S6.chg fun b hb h=>by have:=b2 b hb;have h':b=bq:=h;omega
     replace ak:=Nat.le_trans ak S6.chg.size;replace Br:=S6.keep qO Br;replace Mm:=S6.keepM qO Mm;replace Bd:=S6.keep qO Bd;replace Bz:=S6.keep qO Bz;replace E:=S6.step E qQ;replace Bq:=S6.blk;refine zAB (zAA (qM (.bool ((stp k x).isSome)) rfl (qV (zCa (b:=(stp k x).isSome) rfl) (zAB (zBD (b:=!((stp k x).isSome)) rfl (fun au=>?_) (fun au=>?_))))))
     ·have cd:=au;replace au:=by simpa using au
      have ck:stp k x=none:=by simpa using au
      have dd:zIo stp ks k (R.take x).length (-1):=by unfold zIo;rw[be,ck]
      refine zAn (zAT (zAg (zAC (zAF (qV (zAv (k:=.i64) (a:=(x:Int)) (b:=1) (c:=(x:Int)+1) rfl rfl (zBb qO)) (qM (I6 ((x:Int)+1)) rfl (zAB (zAC ?_))))))));exact ⟨c - (x+1),qO,x+1,R.set x (-1),ks,some ⟨ai,0,none⟩,ae,sn,zAz.out ⟨rfl,rfl,rfl,rfl,rfl,rfl,rfl,rfl,rfl,rfl,rfl,rfl,trivial⟩,E,Br,Mm,Bd,Bq,qO,(by simp[bi]),(by rw[dq];exact hC.add a4 dd),a5,am,ba,b0,hS,hO,ah,ak,rfl⟩
     ·have cd:=au;replace au:=by simpa using au
      obtain ⟨q',ce⟩:=Option.isSome_iff_exists.1 (show (stp k x).isSome=true by simpa using au);have c7:=hq q' ce;subst c7;refine zAO (zAC (zAA (qM (.map (some bm)) rfl (qV (zAK (vs:=[(I6 q.1),(.string q.2)]) rfl zFh zCz rfl (Bz.cells rfl)) (zBo (v:=(.tuple #[(I6 ((zBr (zBN ks 0) (q.1,q.2)).getD 0)),(.bool ((zBr (zBN ks 0) (q.1,q.2)).isSome))])) rfl rfl qD (zEY (k:=(q.1,q.2)) (z:=0) underlying225 (zQH) zDI Mm rfl rfl) (qM (.tuple #[(I6 ((zBr (zBN ks 0) (q.1,q.2)).getD 0)),(.bool ((zBr (zBN ks 0) (q.1,q.2)).isSome))]) rfl (qV (zAa (vs:=#[(I6 ((zBr (zBN ks 0) (q.1,q.2)).getD 0)),(.bool ((zBr (zBN ks 0) (q.1,q.2)).isSome))]) (v:=(I6 ((zBr (zBN ks 0) (q.1,q.2)).getD 0))) rfl rfl) (qV (zAa (vs:=#[(I6 ((zBr (zBN ks 0) (q.1,q.2)).getD 0)),(.bool ((zBr (zBN ks 0) (q.1,q.2)).isSome))]) (v:=(.bool ((zBr (zBN ks 0) (q.1,q.2)).isSome))) rfl rfl) (qA (I6 ((zBr (zBN ks 0) (q.1,q.2)).getD 0)) rfl (qA (.bool ((zBr (zBN ks 0) (q.1,q.2)).isSome)) rfl (zAB (zGU (fun σ W8=>∃(ax:List Plc) (j:Nat) (bu:Option Addr) (bx bb:Nat),(∃jj_,σ=zCT jj_ [(1,(I6 (c:Int))),(2,sv),(3,av),(4,(I6 (most:Int))),(10,(P6 br 0)),(13,(.map (some bm))),(14,(P6 bd 0)),(15,(I6 (i:Int))),(16,(.slice (some ⟨bq,0,none⟩) c c)),(17,(I6 (x:Int))),(35,(I6 (c:Int))),(36,(I6 (x:Int))),(12,(.slice bu bb bx)),(20,(I6 (j:Int)))])∧Chg zAh w0 W8∧Blk W8 br #[(I6 0),(.slice none 0 0),(.slice none 0 0)] 34∧zCC W8 bm zQJ zEz (zBN ax 0)∧Blk W8 bd (#[Value.int .i64 0,.slice ea i ec,.slice ag i af]) 34∧Blk W8 bq (((R.set x (-1)).map (Value.int .i64)).toArray) 3∧Blk W8 bz #[(I6 q.1),(.string q.2)] 205∧(ExpP c stp first ax ab (R.take x++[(j:Int)]))∧(ax.length≤most)∧(ax[i]?=some k)∧(bb=ax.length)∧((ax.take i).map acc=ac)∧(W8.ownsRow n1 205 2 (.slice bu bb bx) bb (ax.map kcL).flatten)∧(OutSt W8 n2 (.slice ea i ec) (.slice ag i af) vs ac ab)∧(∀b,(Value.slice bu bb bx).ownBlock=some b→¬zGv (.slice ea i ec) (.slice ag i af) vs b∧b≠bm∧b≠bd∧b≠bq)∧(n2≤W8.heap.size)) ?_ ?_))))))))))))
      ·skip
       refine zAA (qM (.bool ((zBr (zBN ks 0) (q.1,q.2)).isSome)) rfl (qV (zCa (b:=(zBr (zBN ks 0) (q.1,q.2)).isSome) rfl) (zAB (zBD (b:=!((zBr (zBN ks 0) (q.1,q.2)).isSome)) rfl (fun aj=>?_) (fun aj=>?_)))))
       ·have bv:=aj;replace aj:=by simpa using aj
        have d7:zBr (zBN ks 0) q=none:=by simpa using aj
        obtain ⟨b3,b4⟩:=zGe d7;have cm:=hC.new a4 qO (by rw[be];exact ce) b3;refine zAA (qM (.slice (some ⟨ai,0,none⟩) sn ae) rfl (qV (zAJ (ad:=some ⟨ai,0,none⟩) (n:=sn) (cap:=ae) underlying224 rfl) (qA (I6 (sn:Int)) rfl (zAB (zAH (zAA (qM (I6 (sn:Int)) rfl (qM (I6 (most:Int)) rfl (qV (zAs (k:=.i64) (a:=(sn:Int)) (b:=(most:Int)) rfl rfl) (zAB (qC rfl (fun bw=>?_) (fun bw=>?_))))))))))))
        ·refine zAA (qV (zBA (ps:=[]) (v:=(.agg #[(I6 0),(.slice none 0 0),(.slice none 0 0)])) rfl qK) (zAb (b:=br) (o:=0) (c':=#[(I6 0),(.slice none 0 0),(.slice none 0 0)]) rfl rfl qS zAe rfl Br qL rfl ?_));intro w11 bh;replace Mm:=bh.keepM qO Mm;replace Bd:=bh.keep qO Bd;replace Bq:=bh.keep qO Bq;replace Bz:=bh.keep qO Bz;replace E:=bh.step E qQ;replace Br:=bh.blk;refine qA (.bool false) rfl (zAB (zAV (zAU (zAU (zAi (zAU (zAU (zAi (zAU (zAi (zAU (zAU (zAi (zAU (zAu results179 (vs:=[(.int .i64 0),(.slice none 0 0),(.slice none 0 0)]) (b:=br) (v':=(.bool false)) rfl zAx zAe rfl (Br.cells rfl) rfl ?_)))))))))))))));exact ⟨.inr ⟨fun hF=>by have h9:=hF _ cm.nd cm.rch;rw[List.length_append,List.length_singleton] at h9;omega,rfl⟩,E⟩
        ·refine zAO (zAC (zAA (qM (.map (some bm)) rfl (qV (zAK (vs:=[(I6 q.1),(.string q.2)]) rfl zFh zCz rfl (Bz.cells rfl)) (qM (I6 (sn:Int)) rfl (zDJ (k:=(q.1,q.2)) (v:=(sn:Int)) underlying225 (zQH) Mm rfl rfl rfl ?_))))));intro w12 az dw;replace hS:=zAq hS az.chg fun b hb h=>(ah b hb).2.1 h;replace hO:=hO.chg az.chg fun b hb h=>by have:=(hO.lt hb).1;have h':b=bm:=h;omega
         replace ak:=Nat.le_trans ak az.chg.size;replace Br:=az.keep qO Br;replace Bd:=az.keep qO Bd;replace Bq:=az.keep qO Bq;replace Bz:=az.keep qO Bz;replace E:=az.step E qQ;replace Mm:=dw;refine zAB (zAF (qM (.slice (some ⟨ai,0,none⟩) sn ae) rfl (qV (zAK (vs:=[(I6 q.1),(.string q.2)]) rfl zFh zCz rfl (Bz.cells rfl)) (zAc (ps:=[(0,(.agg #[(I6 q.1),(.string q.2)]))]) (c:=#[(I6 q.1),(.string q.2)]) qD rfl underlying224 zCz zIr qD qD qK ?_))));intro b13 dc al;have F13:=al.ge E;have O13_br:=al.lt Br;have O13_bm:=al.ltM Mm;have O13_bd:=al.lt Bd;have O13_bq:=al.lt Bq;have O13_bz:=al.lt Bz;replace Br:=al.keep Br;replace Mm:=al.keepM Mm;replace Bd:=al.keep Bd;replace Bq:=al.keep Bq;replace Bz:=al.keep Bz;replace hS:=zAj hS al.ext;replace hO:=hO.ext al.ext;replace ak:=Nat.le_trans ak al.ext.size;replace E:=E.ext al.ext;have d3:=al.blk;have ed:bq<(dc).heap.size:=Bq.lt;refine zBp (base:=n1) (n:=sn) (m:=1) (xs:=(ks.map kcL).flatten) (news:=[(I6 q.1),(.string q.2)]) (size:=2) (bytes:=24) (v:=(.slice (some ⟨ai,0,none⟩) sn ae)) qD underlying224 zCz zWX zIr rfl qD rfl hS rfl (rfl) (d3.cells rfl) qS (by unfold maxLen;omega) qO (qO) ?_;intro v7 di cy a3 dv;replace Br:=a3.keep (fun h=>by have:=(hS.lt _ h).1;omega) Br;replace Mm:=a3.keepM (fun h=>(ah _ h).2.1 rfl) Mm;replace Bd:=a3.keep (fun h=>(ah _ h).2.2.1 rfl) Bd;replace Bq:=a3.keep (fun h=>(ah _ h).2.2.2 rfl) Bq;replace Bz:=a3.keep (fun h=>(by have:=cr _ h;have:=Nz.eq;omega)) Bz;replace E:=E.step a3 (fun x hx h=>absurd (hS.lt x h).1 qO);obtain ⟨ct,c1,rfl⟩:=zBO cy;replace Mm:zCC (di) bm zQJ zEz (zHQ (zBN ks 0) q ((sn:Nat):Int)):=Mm;rw[ba,b4] at Mm;refine qA (.slice ct (sn+1) c1) rfl (zAB (zAC ?_));exact ⟨ks++[q],sn,ct,c1,sn+1,zAz.out ⟨rfl,rfl,rfl,rfl,rfl,rfl,rfl,rfl,rfl,rfl,rfl,rfl,rfl,rfl,trivial⟩,E,Br,Mm,Bd,Bq,Bz,(by rw[ba];exact cm),(by rw[List.length_append,List.length_singleton];omega),(by rw[List.getElem?_append_left (zAE am)];exact am),(by simp;omega),(by rw[List.take_append_of_le_length (by have:=zAE am;omega)];exact b0),(by rw[List.map_append,List.flatten_append];exact cy),hO.chg a3 (fun b hb h=>(ah b h).1 hb),(fun b hb=>by rcases dv b hb with h9|h9;exact ah b h9;exact ⟨fun ho=>by have:=(hO.lt ho).2;omega,qO,qO,qO⟩),Nat.le_trans ak a3.size⟩
       ·have bv:=aj;replace aj:=by simpa using aj
        have ds:(zBr (zBN ks 0) q).isSome=true:=by simpa using aj
        obtain ⟨v9,c0⟩:=Option.isSome_iff_exists.1 ds;obtain ⟨j9,rfl,c8⟩:=zHz c0;rw[show (zBr (zBN ks 0) (q.1,q.2)).getD 0=((j9:Nat):Int) from by show (zBr (zBN ks 0) q).getD 0=_;rw[c0];rfl];refine zAO (zAC ?_);exact ⟨ks,j9,some ⟨ai,0,none⟩,ae,sn,zAz.out ⟨rfl,rfl,rfl,rfl,rfl,rfl,rfl,rfl,rfl,rfl,rfl,rfl,rfl,rfl,trivial⟩,E,Br,Mm,Bd,Bq,Bz,hC.add a4 (by unfold zIo;rw[be,ce];exact ⟨j9,rfl,c8⟩),a5,am,ba,b0,hS,hO,ah,ak⟩
      ·clear E Br Mm Bd Bq Bz;rintro _ W8 ⟨ax,j,bu,bx,bb,⟨j8,rfl⟩,E,Br,Mm,Bd,Bq,Bz,ef,cq,ch,cg,cb,b9,b6,bk,a8⟩;have b5:=zBt (L:=R.set x (-1)) (s:=x) (x:=((j:Nat):Int)) (by simp;omega);refine zAF (qM (.slice (some ⟨bq,0,none⟩) c c) rfl (qM (I6 (x:Int)) rfl (qM (I6 (j:Int)) rfl (qV (zAD (b:=bq) (o:=0) (len:=c) (cap:=c) (i:=x) (o':=0+x) rfl rfl rfl underlying22 zAy qO qO) (zBC (b:=bq) (o:=0+x) (c':=(((R.set x (-1)).set x (j:Int)).map (Value.int .i64)).toArray) (v:=(I6 (j:Int))) rfl rfl rfl zAy Bq (by simp;omega) (zCX _) ?_)))));intro w14 aw;replace b9:=zAq b9 aw.chg fun b hb h=>(bk b hb).2.2.2 h;replace b6:=b6.chg aw.chg fun b hb h=>by have:=b2 b hb;have h':b=bq:=h;omega
       replace a8:=Nat.le_trans a8 aw.chg.size;replace Br:=aw.keep qO Br;replace Mm:=aw.keepM qO Mm;replace Bd:=aw.keep qO Bd;replace Bz:=aw.keep qO Bz;replace E:=aw.step E qQ;replace Bq:=aw.blk;refine zAB (zAR (zAC (zAF (qV (zAv (k:=.i64) (a:=(x:Int)) (b:=1) (c:=(x:Int)+1) rfl rfl (zBb qO)) (qM (I6 ((x:Int)+1)) rfl (zAB (zAC ?_)))))));exact ⟨c - (x+1),qO,x+1,(R.set x (-1)).set x ((j:Nat):Int),ax,bu,bx,bb,zAz.out ⟨rfl,rfl,rfl,rfl,rfl,rfl,rfl,rfl,rfl,rfl,rfl,rfl,trivial⟩,E,Br,Mm,Bd,Bq,qO,(by simp[bi]),(by rw[b5,List.take_set_of_le (Nat.le_refl x)];exact ef),cq,ch,cg,cb,b9,b6,bk,a8,rfl⟩
    ·have dx:x=c:=qO
     rw[dx,show R.take c=R by rw[←bi,List.take_length]] at hC;obtain ⟨n4,cw⟩:∃n4,n4=(W4).heap.size:=⟨_,rfl⟩;have d2:=zAE am;obtain ⟨ai,rfl,_,bc⟩:=zBe hS qO;have cj:zBE (W4) ai (0+i*2) [.int .i64 k.1,.string k.2]:=zDP cu bc am;have bt:ac.length=i:=by rw[←b0,List.length_map,List.length_take];omega
     have an:(W4).ownsRow n2 TDI 1 (.slice ea i ec) i (ac.map (Value.int .i64)):=by have h9:=hO.e;rwa [bt] at h9
     have ap:(W4).ownsRow n2 zDg 1 (.slice ag i af) i vs:=hO.n.on (by rw[List.length_map];omega);have df:=a5;have c6:=Bq.lt;have dg:=zFD (base:=bq) Bq (Nat.le_refl _) bi;refine zAn (zAT (zAT (zAg (zAC ?_))));obtain ⟨ci,aa⟩:∃Fs:List zEF,Fs=[(fun _ v _=>v=(P6 bd 2)),(fun _ v _=>v=(.slice ag i af)),(fun _ v _=>v=(.slice (some ⟨bq,0,none⟩) c c)),(fun _=>zDx zDg #[.slice (some ⟨bq,0,none⟩) c c] n4),(fun _=>zDH n2 zDg 1 (i+1) (vs++[Value.slice (some ⟨bq,0,none⟩) c c]) (.slice ag i af) n4),(fun _ v _=>v=(P6 bd 1)),(fun _ v _=>v=(.slice ea i ec)),(fun _ v _=>v=av),(fun _ v _=>v=(.slice (some ⟨ai,0,none⟩) sn ae)),(fun _ v _=>v=(I6 (i:Int))),(fun _ v _=>v=(.pointer (some ⟨ai,0+i*2,none⟩))),(fun _ v _=>v=(.agg #[(I6 k.1),(.string k.2)])),(fun _ v _=>v=(I6 (acc k))),(fun _=>zDx TDI #[.int .i64 (acc k)] n4),(fun s v w=>zDH n2 TDI 1 (i+1) (ac.map (Value.int .i64)++[Value.int .i64 (acc k)]) (.slice ea i ec) n4 v w∧∀b,(s 84).ownBlock=some b→v.ownBlock≠some b),(fun _ v _=>v=(P6 bd 2))]:=⟨_,rfl⟩;refine zGt (two 4 14 (fun b=>(Value.slice ag i af).ownBlock=some b) (fun b=>(Value.slice ea i ec).ownBlock=some b)) 16 [80,81,82,83,84,85,86,87,88,89,90,91,92,93,94,95] [[],[0],[],[2],[1,3],[],[5],[],[],[],[8,9],[10],[4,7,11],[12],[6,12,13],[0,1,2,3,4,5,6]] [[],[0],[],[2],[1,0,3,2],[],[5],[],[],[],[8,9],[10,8,9],[4,1,0,3,2,7,11,10,8,9],[12,4,1,0,3,2,7,11,10,8,9],[6,5,12,4,1,0,3,2,7,11,10,8,9,13],[0,1,2,3,4,5,6]] ci aa qK mixed qK qK qK ?_ ?_
     ·intro wd X0;refine DagStepsX.cons (zBI.eq) (fun _ _ _ _ _ h=>h) (fun s' w' X U H=>?_) ?_
      ·exact zAX (zAZ (b:=bd) (o:=0) (o':=2) (U 14 rfl) underlying34 rfl zBu rfl) (Chg.refl _ _) rfl
      refine DagStepsX.cons (zBI.eq) (fun _ _ _ _ _ h=>h) (fun s' w' X U H=>?_) ?_
      ·have du:=H 0 rfl 80 _ rfl (by rw[aa];rfl);exact zAX (zAI (v:=(.slice ag i af)) du zBi ((Chg.keep X (fun h=>(fun h=>h.elim (fun h=>by have:=(ap.lt _ h).1;omega) (fun h=>by have:=(an.lt _ h).1;omega)) (zEK.or h)) (X0.keep Bd)).cell rfl)) (Chg.refl _ _) rfl
      refine DagStepsX.cons (zBI.eq) (fun _ _ _ _ _ h=>h) (fun s' w' X U H=>?_) ?_
      ·exact zAX (zAl (v:=(.slice (some ⟨bq,0,none⟩) c c)) (U 16 rfl)) (Chg.refl _ _) rfl
      refine DagStepsX.cons (zCV (fun y h=>by have:=(ap.lt y h).2;omega) (fun y h=>by have:=(an.lt y h).2;omega)) (zIY.const) (fun s' w' X U H=>?_) ?_
      ·have da:=H 2 rfl 82 _ rfl (by rw[aa];rfl);exact zCD (hs:=n4) underlying32 zBL zEg da qD qD qK (by have:=X0.size;have:=X.size;omega)
      refine DagStepsX.cons (zGT (fun k hk hm=>hk.elim (fun h=>hO.en k hm h) (fun h=>by have:=(an.lt k hm).2;omega))) (zIY.const) (fun s' w' X U H=>?_) ?_
      ·have c5:=H 1 rfl 81 _ rfl (by rw[aa];rfl);obtain ⟨b83,dl,ee,g83⟩:=(show ((fun _=>zDx zDg #[.slice (some ⟨bq,0,none⟩) c c] n4):zEF) s' (s' 83) w' from H 3 rfl 83 ((fun _=>zDx zDg #[.slice (some ⟨bq,0,none⟩) c c] n4)) rfl (by rw[aa];rfl));exact zBj (hs:=n4) underlying32 zBL zMk zEg rfl qD c5 (zAj (zAj ap X0) (X.mono (fun y _ h=>zEK.none rfl rfl h))) dl rfl (ee.cells rfl) qS (by unfold maxLen;omega) qO (by have:=X0.size;have:=X.size;omega) (fun y h=>h) (by have:=X0.size;have:=X.size;omega)
      refine DagStepsX.cons (zBI.eq) (fun _ _ _ _ _ h=>h) (fun s' w' X U H=>?_) ?_
      ·exact zAX (zAZ (b:=bd) (o:=0) (o':=1) (U 14 rfl) underlying34 rfl zBL rfl) (Chg.refl _ _) rfl
      refine DagStepsX.cons (zBI.eq) (fun _ _ _ _ _ h=>h) (fun s' w' X U H=>?_) ?_
      ·have d8:=H 5 rfl 85 _ rfl (by rw[aa];rfl);exact zAX (zAI (v:=(.slice ea i ec)) d8 zBP ((Chg.keep X (fun h=>(fun h=>h.elim (fun h=>by have:=(ap.lt _ h).1;omega) (fun h=>by have:=(an.lt _ h).1;omega)) (zEK.or h)) (X0.keep Bd)).cell rfl)) (Chg.refl _ _) rfl
      refine DagStepsX.cons (zBI.eq) (fun _ _ _ _ _ h=>h) (fun s' w' X U H=>?_) ?_
      ·exact zAX (zAl (v:=av) (U 3 rfl)) (Chg.refl _ _) rfl
      refine DagStepsX.cons (zBI.eq) (fun _ _ _ _ _ h=>h) (fun s' w' X U H=>?_) ?_
      ·exact zAX (zAl (v:=(.slice (some ⟨ai,0,none⟩) sn ae)) (U 12 rfl)) (Chg.refl _ _) rfl
      refine DagStepsX.cons (zBI.eq) (fun _ _ _ _ _ h=>h) (fun s' w' X U H=>?_) ?_
      ·exact zAX (zAl (v:=(I6 (i:Int))) (U 15 rfl)) (Chg.refl _ _) rfl
      refine DagStepsX.cons (zBI.eq) (fun _ _ _ _ _ h=>h) (fun s' w' X U H=>?_) ?_
      ·have dj:=H 8 rfl 88 _ rfl (by rw[aa];rfl);have d5:=H 9 rfl 89 _ rfl (by rw[aa];rfl);exact zAX (zAD (b:=ai) (o:=0) (len:=sn) (cap:=ae) (i:=i) (o':=0+i*2) dj d5 rfl underlying224 zCz qO qO) (Chg.refl _ _) rfl
      refine DagStepsX.cons (zBI.eq) (fun _ _ _ _ _ h=>h) (fun s' w' X U H=>?_) ?_
      ·have d4:=H 10 rfl 90 _ rfl (by rw[aa];rfl);exact zAX (zAK (vs:=[(I6 k.1),(.string k.2)]) d4 zFh zCz rfl (fun j v hv=>Chg.cell X (fun h=>(zEK.or h).elim (fun h=>(ah _ rfl).1 (.inr (.inl h))) (fun h=>(ah _ rfl).1 (.inl h))) (X0.cell (cj j v hv)))) (Chg.refl _ _) rfl
      refine DagStepsX.cons (zBI.eq) (fun _ _ _ _ _ h=>h) (fun s' w' X U H=>?_) ?_
      ·have dy:=H 7 rfl 87 _ rfl (by rw[aa];rfl);have dz:=H 11 rfl 91 _ rfl (by rw[aa];rfl);exact zFq (fv:=av) (vs:=[.agg #[.int .i64 k.1,.string k.2]]) dy (zOv dz) ((ha w' k ((E.ext X0).step X (fun y hy h=>(zEK.or h).elim (fun h=>by have:=(ap.lt y h).1;omega) (fun h=>by have:=(an.lt y h).1;omega))) c3).mono (fun v w h=>⟨h.1,Ext.chg h.2⟩))
      refine DagStepsX.cons (zCV (fun y h=>by have:=(ap.lt y h).2;omega) (fun y h=>by have:=(an.lt y h).2;omega)) (zIY.const) (fun s' w' X U H=>?_) ?_
      ·have dh:=H 12 rfl 92 _ rfl (by rw[aa];rfl);exact zCD (hs:=n4) underlying22 zAy zDI dh qD qD qK (by have:=X0.size;have:=X.size;omega)
      refine DagStepsX.cons (zGS rfl) (fun s1 s2 h v w h2=>⟨h2.1,by have:=h 4 84 rfl rfl;rw[this];exact h2.2⟩) (fun s' w' X U H=>?_) ?_
      ·have dp:=H 6 rfl 86 _ rfl (by rw[aa];rfl);obtain ⟨b93,eh,db,g93⟩:=(show ((fun _=>zDx TDI #[.int .i64 (acc k)] n4):zEF) s' (s' 93) w' from H 13 rfl 93 ((fun _=>zDx TDI #[.int .i64 (acc k)] n4)) rfl (by rw[aa];rfl));exact zGr (H 4 rfl 84 _ rfl (by rw[aa];rfl)) (zBj (hs:=w'.heap.size) underlying22 zAy zJU zDI rfl qD dp (zAq (zAj an X0) (X.mono (fun y _ h=>zEK.fst rfl h)) (fun k hk hm=>hO.en k hk hm)) eh rfl (db.cells rfl) qS (by unfold maxLen;omega) qO (by have:=X0.size;have:=X.size;omega) (fun y h=>h) (Nat.le_refl _)) (by have:=X0.size;have:=X.size;omega) (fun k h1 h2=>h1.elim (fun h=>hO.en k h2 h) (fun h=>by have:=(an.lt k h2).2;omega))
      refine DagStepsX.cons (zBI.eq) (fun _ _ _ _ _ h=>h) (fun s' w' X U H=>?_) ?_
      ·exact zAX (zAZ (b:=bd) (o:=0) (o':=2) (U 14 rfl) underlying34 rfl zBu rfl) (Chg.refl _ _) rfl
      exact DagStepsX.nil
     ·intro s' dm cz X0 a1 U H;replace a1:=a1.mono (M':=fun y=>(fun b=>(Value.slice ag i af).ownBlock=some b) y∨(fun b=>(Value.slice ea i ec).ownBlock=some b) y) (fun y _ h=>by obtain ⟨j,h⟩:=h;rcases zEw h with h|h;exact .inl h.2;exact .inr h.2);obtain ⟨⟨a9,a6,cx⟩,c2,b7⟩:=(show ((fun _=>zDH n2 zDg 1 (i+1) (vs++[Value.slice (some ⟨bq,0,none⟩) c c]) (.slice ag i af) n4):zEF) s' (s' 84) cz from H 4 84 ((fun _=>zDH n2 zDg 1 (i+1) (vs++[Value.slice (some ⟨bq,0,none⟩) c c]) (.slice ag i af) n4)) rfl (by rw[aa];rfl));obtain ⟨⟨⟨bg,bj,cs⟩,cv,b8⟩,cc⟩:=(show ((fun s v w=>zDH n2 TDI 1 (i+1) (ac.map (Value.int .i64)++[Value.int .i64 (acc k)]) (.slice ea i ec) n4 v w∧∀b,(s 84).ownBlock=some b→v.ownBlock≠some b):zEF) s' (s' 94) cz from H 14 94 ((fun s v w=>zDH n2 TDI 1 (i+1) (ac.map (Value.int .i64)++[Value.int .i64 (acc k)]) (.slice ea i ec) n4 v w∧∀b,(s 84).ownBlock=some b→v.ownBlock≠some b)) rfl (by rw[aa];rfl));have de:s' 95=(.pointer (some ⟨bd,2,none⟩)):=H 15 95 ((fun _ v _=>v=(.pointer (some ⟨bd,2,none⟩)))) rfl (by rw[aa];rfl);obtain ⟨j15,rfl⟩:=zAz.out (σ:=s') (l:=[(1,(.int .i64 ((c:Nat):Int))),(2,sv),(3,av),(4,(.int .i64 ((most:Nat):Int))),(10,(.pointer (some ⟨br,0,none⟩))),(12,(.slice (some ⟨ai,0,none⟩) sn ae)),(13,(.map (some bm))),(14,(.pointer (some ⟨bd,0,none⟩))),(15,(.int .i64 ((i:Nat):Int))),(84,(.slice a9 (i+1) a6)),(94,(.slice bg (i+1) bj)),(95,(.pointer (some ⟨bd,2,none⟩)))]) ⟨U 1 rfl,U 2 rfl,U 3 rfl,U 4 rfl,U 10 rfl,U 12 rfl,U 13 rfl,U 14 rfl,U 15 rfl,cx,cs,de,trivial⟩;clear U H;replace Br:=Chg.keep a1 (fun h=>h.elim (fun h=>by have:=(ap.lt _ h).1;omega) (fun h=>by have:=(an.lt _ h).1;omega)) (X0.keep Br);replace Mm:=Chg.keepM a1 (fun h=>h.elim (fun h=>by have:=(ap.lt _ h).1;omega) (fun h=>by have:=(an.lt _ h).1;omega)) (X0.keepM Mm);replace Bd:=Chg.keep a1 (fun h=>h.elim (fun h=>by have:=(ap.lt _ h).1;omega) (fun h=>by have:=(an.lt _ h).1;omega)) (X0.keep Bd);replace Bq:=Chg.keep a1 (fun h=>h.elim (fun h=>by have:=b2 _ (.inr (.inl h));omega) (fun h=>by have:=b2 _ (.inl h);omega)) (X0.keep Bq);have co:=Chg.trans (Ext.chg X0) a1;replace E:=(E.ext X0).step a1 (fun y hy h=>h.elim (fun h=>by have:=(ap.lt y h).1;omega) (fun h=>by have:=(an.lt y h).1;omega));rw[cx] at c2 b7 cc;rw[cs] at cv b8 cc;have a7:=hO.push (y:=acc k) (N':=.slice a9 (i+1) a6) (E':=.slice bg (i+1) bj) dg bi.symm qO (fun b hb=>by have:=b2 b hb;omega) co (by rw[b1];exact c2) (fun k hk=>by rw[←cw];exact b7 k hk) (by rw[bt,List.map_append];exact cv) (fun k hk=>by rw[←cw];exact b8 k hk) cc;have bo:=zAq hS co (fun b hb h=>h.elim (fun h=>(ah b hb).1 (.inr (.inl h))) (fun h=>(ah b hb).1 (.inl h)));have ao:=Nat.le_trans ak co.size;have cp:∀b,(Value.slice (some ⟨ai,0,none⟩) sn ae).ownBlock=some b→¬zGv (.slice bg (i+1) bj) (.slice a9 (i+1) a6) (vs++[.slice (some ⟨bq,0,none⟩) c c]) b∧b≠bm∧b≠bd:=fun b hb=>⟨fun ho=>zHS ⟨(ah b hb).1,(ah b hb).2.2.2⟩ (by have:=(hS.lt b hb).2;omega) b7 b8 ho,(ah b hb).2.1,(ah b hb).2.2.1⟩;refine zBC (b:=bd) (o:=2) (c':=#[(I6 0),(.slice ea i ec),(.slice a9 (i+1) a6)]) (v:=(.slice a9 (i+1) a6)) rfl rfl rfl zBu Bd qP rfl ?_;intro w16 a0;replace a7:=a7.chg a0.chg fun b hb h=>by have:=(a7.lt hb).1;have h':b=bd:=h;omega
      replace bo:=zAq bo a0.chg fun b hb h=>(ah b hb).2.2.1 h;replace ao:=Nat.le_trans ao a0.chg.size;replace Br:=a0.keep qO Br;replace Mm:=a0.keepM qO Mm;replace Bq:=a0.keep qO Bq;replace E:=a0.step E qQ;replace Bd:=a0.blk;refine qF bd 0 1 rfl underlying34 rfl zBL rfl (zBC (b:=bd) (o:=1) (c':=#[(I6 0),(.slice bg (i+1) bj),(.slice a9 (i+1) a6)]) (v:=(.slice bg (i+1) bj)) rfl rfl rfl zBL Bd qP rfl ?_);intro w17 ay;replace a7:=a7.chg ay.chg fun b hb h=>by have:=(a7.lt hb).1;have h':b=bd:=h;omega
      replace bo:=zAq bo ay.chg fun b hb h=>(ah b hb).2.2.1 h;replace ao:=Nat.le_trans ao ay.chg.size;replace Br:=ay.keep qO Br;replace Mm:=ay.keepM qO Mm;replace Bq:=ay.keep qO Bq;replace E:=ay.step E qQ;replace Bd:=ay.blk;refine zAB (zAR (zAC (zAF (qM (I6 (i:Int)) rfl (qV (zAv (k:=.i64) (a:=(i:Int)) (b:=1) (c:=(i:Int)+1) rfl rfl (zBb qO)) (qA (I6 ((i:Int)+1)) rfl (zAB (zAC ?_))))))));exact ⟨most - (i+1),qO,i+1,ab++[R],ks,ac++[acc k],vs++[.slice (some ⟨bq,0,none⟩) c c],some ⟨ai,0,none⟩,bg,a9,ae,sn,bj,a6,zAz.out ⟨rfl,rfl,rfl,rfl,rfl,rfl,rfl,rfl,rfl,trivial⟩,E,Br,Mm,Bd,hC.rowed bi,(by simp[b1]),a5,ba,qO,(by rw[zDq am,List.map_append,b0];rfl),bo,a7,cp,ao,rfl⟩
  ·have dt:i=ks.length:=qO
   have cn:ab.length=ks.length:=qO
   obtain ⟨ca,d9⟩:=hC.done (acc:=acc) cn (fun k hk=>(hac k (hC.rch k hk)).1);have aq:ac=ks.map acc:=by rw[a2,dt,List.take_length]
   refine zAn (zAT (zAT (zAg (zAC (zAA (qV (zAK (vs:=[(I6 0),(.slice ea i ec),(.slice ag i af)]) rfl zAx zAe rfl (Bd.cells rfl)) (zAb (b:=br) (o:=0) (c':=#[(I6 0),(.slice ea i ec),(.slice ag i af)]) rfl rfl qS zAe rfl Br qL rfl ?_)))))));intro w18 bn;replace hO:=hO.chg bn.chg fun b hb h=>by have:=(hO.lt hb).1;have h':b=br:=h;omega
   replace Mm:=bn.keepM qO Mm;replace Bd:=bn.keep qO Bd;replace E:=bn.step E qQ;replace Br:=bn.blk;refine qA (.bool true) rfl (zAB (zAV (zAu results179 (vs:=[(.int .i64 0),(.slice ea i ec),(.slice ag i af)]) (b:=br) (v':=(.bool true)) rfl zAx zAe rfl (Br.cells rfl) rfl (⟨.inl ⟨(hC.all cn).mono a5,⟨0,ac,ab⟩,_,fun mx eg=>⟨?_,?_,rfl,?_,?_⟩,rfl,?_⟩,E⟩))))
   ·rw[aq];show OkD ab.length c _;rw[cn];exact ca
   ·show ab.length≤mx;have:=eg ks hC.nd hC.rch;omega
   ·rw[aq];exact d9
   ·intro x hx;have hx:x∈ac:=hx;rw[aq] at hx;obtain ⟨u,hu,rfl⟩:=List.mem_map.1 hx;exact (hac u (hC.rch u hu)).2
   ·have bp:ac.length=i:=by rw[aq,List.length_map];omega
    exact ⟨ea,ec,ag,af,vs,by show Value.agg #[_,_,_]=.agg #[_,.slice ea ac.length ec,.slice ag ab.length af];rw[bp,b1],by show OutSt _ _ (.slice ea ac.length ec) (.slice ag ab.length af) vs ac ab;rw[bp,b1];exact hO.low cl.2⟩
end Go.Proofs
namespace Go.Eng
open Go
section
variable {Ms : Nat → Nat → Prop} {Rs : Nat → World → World → Prop} {cl : List (List Nat)} {i : Nat} {ws ds : List Nat}
theorem zCE.eq {u:Value}:zCE Ms Rs cl i ws (fun _ _ v _=>v=u):=fun _ _ _ _ _ _ _ _ _ _ _ _ _ h=>h
theorem zCE.chg {F:Fct} {U:Nat→Prop} (hF:∀v w w',Chg U w w'→F v w→F v w') (hM:∀p y,p≠i→ws.contains p=false→Ms p y→U y):zCE Ms Rs cl i ws (fun _ _=>F):=
 fun p h1 h2 _ _ v w w' _ _ _ x _ h=>hF v w w' (x.mono fun y _ hy=>hM p y h1 h2 hy) h
theorem zCE.till {F:Fct} {U:Nat→Prop} {c:Nat} (hF:∀v w w',Chg U w w'→F v w→F v w') (hM:∀p y,p≠i→ws.contains p=false→p≠c→(cl.getD p []).contains c=false→Ms p y→U y):zCE Ms Rs cl i ws (fun S _ v w=>S c=false→F v w):=
 fun p h1 h2 S _ v w w' _ _ hq x _ h hc=>by
  have hpc:p≠c:=fun e=>by subst e;rw[zEc] at hc;cases hc
  rw[zGg (Ne.symm hpc)] at hc;have hq2:(cl.getD p []).contains c=false:=by cases e:(cl.getD p []).contains c;rfl;have:=hq c e;rw[this] at hc;cases hc
  exact hF v w w' (x.mono fun y _ hy=>hM p y h1 h2 hpc hq2 hy) (h hc)
end
def RsL:List (Nat×(World→World→Prop))→Nat→World→World→Prop
  | [],_,_,_=>True
  | p::r,j,w,w'=>(j=p.1→p.2 w w')∧RsL r j w w'
def zVH (T:TypeId) (w w':World):Prop:=∀b c t,Blk w b c t→t≠T→Blk w' b c t
theorem zWS {T:TypeId} {w w':World} {g:Nat} {c:Array Value} (hG:Blk w g c T) (C:Chg (fun y=>y=g) w w'):zVH T w w':=fun b c' t hb ht=>
 Chg.keep C (fun h=>by
  have h':b=g:=h;subst h';unfold Blk at hb hG;rw[hG] at hb;simp at hb;exact ht hb.2.symm) hb
section
variable {M : Nat → Prop} {ch : List PanicEntry} {X : World → Prop} {P : Program} {N : Nat} {o : Oper} {R : Fct} {σ : Env} {w : World} {c i : Nat} {T : World → World → Prop}
theorem gX0 (h:zCj M P N o R σ w):zIc M ch X P N o (fun v w2=>R v w2∧RsL [] i w w2) σ w:=(zCj.x h).weak fun _ _ _ h=>⟨h,trivial⟩
theorem gX0x (h:zIc M ch X P N o R σ w):zIc M ch X P N o (fun v w2=>R v w2∧RsL [] i w w2) σ w:=h.weak fun _ _ _ h=>⟨h,trivial⟩
theorem gX1 (hi:Nat.beq i c=false) (h:zCj M P N o R σ w):zIc M ch X P N o (fun v w2=>R v w2∧RsL [(c,T)] i w w2) σ w:=(zCj.x h).weak fun _ _ _ h=>⟨h,⟨fun e=>absurd (show i=c from e) (fun e2=>by subst e2;rw[Nat.beq_refl] at hi;cases hi),trivial⟩⟩
theorem gXc (h:zCj M P N o (fun v w2=>R v w2∧T w w2) σ w):zIc M ch X P N o (fun v w2=>R v w2∧RsL [(c,T)] c w w2) σ w:=(zCj.x h).weak fun _ _ _ h=>⟨h.1,⟨fun _=>h.2,trivial⟩⟩
end
theorem zCE.till1 {cl:List (List Nat)} {Ms:Nat→Nat→Prop} {i c c0:Nat} {ws:List Nat} {F:Fct} {U:Nat→Prop} {T:World→World→Prop} (hT:∀v w w',T w w'→F v w→F v w') (hF:∀v w w',Chg U w w'→F v w→F v w') (hM:∀p y,p≠i→p≠c→ws.contains p=false→p≠c0→(cl.getD p []).contains c0=false→Ms p y→U y):zCE Ms (RsL [(c,T)]) cl i ws (fun S _ v w=>S c0=false→F v w):=
 fun p h1 h2 S _ v w w' _ _ hq x r h hc=>by
  have hpc:p≠c0:=fun e=>by subst e;rw[zEc] at hc;cases hc
  rw[zGg (Ne.symm hpc)] at hc;have hq2:(cl.getD p []).contains c0=false:=by cases e:(cl.getD p []).contains c0;rfl;have:=hq c0 e;rw[this] at hc;cases hc
  by_cases hp:p=c
  ·exact hT v w w' (r.1 hp) (h hc)
  ·exact hF v w w' (x.mono fun y _ hy=>hM p y h1 hp h2 hpc hq2 hy) (h hc)
section
variable {Ms : Nat → Nat → Prop} {Rs : Nat → World → World → Prop} {cl : List (List Nat)} {i : Nat} {ws : List Nat}
theorem zCE.tup {st:Nat} {rest:List Value} {G:Fct} {U:Nat→Prop} (hG:∀v w w',Chg U w w'→G v w→G v w') (hM:∀p y,p≠i→ws.contains p=false→p≠st→Ms p y→U y):zCE Ms Rs cl i ws (zKj st rest G):=
 fun p h1 h2 S _ v w w' _ _ _ x _ h=>by
  obtain ⟨u,h3,h4⟩:=h;refine ⟨u,h3,fun hc=>?_⟩;have hpc:p≠st:=fun e=>by subst e;rw[zEc] at hc;cases hc
  rw[zGg (Ne.symm hpc)] at hc;exact hG u w w' (x.mono fun y _ hy=>hM p y h1 h2 hpc hy) (h4 hc)
theorem zCE.put {sa n:Nat} {T:TypeId} {G:Fct} (hG:∀v w w',Ext w w'→G v w→G v w') (hM:∀p y,p≠i→ws.contains p=false→Ms p y→False):zCE Ms Rs cl i ws (zOt sa n T G):=
 fun p h1 h2 _ _ v w w' _ _ _ x _ h=>by
  obtain ⟨b,vs,h3,h4,h5,h6⟩:=h;have hx:Ext w w':=x.mono fun y _ hy=>(hM p y h1 h2 hy).elim;exact ⟨b,vs,h3,h4,Ext.keep hx h5,hG _ _ _ hx h6⟩
end
theorem zWb {t T:TypeId} {cs:Array Value} {n:Nat} (ht:t≠T):∀v w w',zVH T w w'→alF t cs n v w→alF t cs n v w':=by
 rintro v w w' h ⟨b,e,B,g⟩;exact ⟨b,e,h b cs t B ht,g⟩
end Go.Eng
namespace Go.Proofs
open Go Go.Eng Go.Sort
set_option maxRecDepth 100000
theorem zRC (w0:World) (n b:Nat) (s:Int) (M:Nat→Bool) (hn:n≤100000) (hB:Blk w0 b (zJA n M) 5) (hs:0≤s∧s<n):Ret prog 178 #[.slice (some ⟨b,0,none⟩) ((n+7) / 8) ((n+7) / 8),.int .i64 s] w0 fun v w=>v=.tuple #[]∧Chg (fun y=>y=b) w0 w∧Blk w b (zJA n fun q=>M q || decide (((q:Nat):Int)=s)) 5:=by
 obtain ⟨t,rfl⟩:=Int.eq_ofNat_of_zero_le hs.1;have e:(fun q=>M q || decide (((q:Nat):Int)=((t:Nat):Int)))=fun q=>M q || decide (q=t):=funext fun q=>by
  congr 1;exact decide_eq_decide.2 qO
 rw[e];exact zTY w0 n b t M hn hB qO
theorem zUk {a b:Dfa} {s:Int} {M:Nat→Bool} (h:0≤atD a s):(fun q=>M q || decide (((q:Nat):Int)=b.start))=zIJ a b s M:=funext fun q=>by
 unfold zIJ;rw[decide_eq_true h,Bool.true_and]
theorem zWQ {a b:Dfa} {s:Int} {M:Nat→Bool} (h:¬0≤atD a s):M=zIJ a b s M:=funext fun q=>by
 unfold zIJ;rw[decide_eq_false h,Bool.false_and,Bool.or_false]
theorem zTX (w0:World) (n m c:Nat) (a b:Dfa) (av bv:List Value) (ba bb g:Nat) (s:Int) (M:Nat→Bool) (oka:OkD n c a) (okb:OkD m c b) (ha:zBk w0 a av) (hb:zBk w0 b bv) (hBa:Blk w0 ba av.toArray 34) (hBb:Blk w0 bb bv.toArray 34) (hG:Blk w0 g (zJA m M) 5) (hs:s<n) (hm:m≤20000) (hg:g≠ba∧g≠bb) :
  Ret prog 177 #[.int .i64 s,.slice (some ⟨g,0,none⟩) ((m+7) / 8) ((m+7) / 8),.pointer (some ⟨ba,0,none⟩),.pointer (some ⟨bb,0,none⟩)] w0 fun v w=>v=.agg #[.int .i64 s,.string (zDs m (zIJ a b s M))]∧Chg (fun y=>y=g) w0 w:=by
 have hal:=oka.al;have hst:=okb.st;have hgl:=hG.lt;have ag:=hBa.lt;have ae:=hBb.lt;have ah:=ha;obtain ⟨aa,ac,na,nc,rfl,_,_⟩:=ah;have af:=hb;obtain ⟨aa2,ac2,na2,nc2,rfl,_,_⟩:=af;refine zDc func177 rfl ntmps177 (leT rfl) ?_;have E:Chg (fun y=>y=g) w0 w0:=Chg.refl _ _;refine zAA (zBH (c:=#[(I6 0),(.string ByteArray.empty)]) qD zIr rfl ?_);intro bo wo No;have Fo:=No.ge E;have Oo_ba:=No.lt hBa;have Oo_bb:=No.lt hBb;have Oo_g:=No.lt hG;replace hBa:=No.keep hBa;replace hBb:=No.keep hBb;replace hG:=No.keep hG;replace E:=E.ext No.ext;have Bo:=No.blk;refine zAB (zAH (zAA (qV (zAK (vs:=[(I6 a.start),(.slice aa a.accept.length ac),(.slice na a.next.length nc)]) rfl zAx zAe rfl (hBa.cells rfl)) (qM _ rfl (qE rfl (zAQ func133 kQ kQ rfl) (zQl _ a _ s (ha.ext No.ext) qO) ?_)))));rintro _ w9 ⟨rfl,X9⟩;replace hBa:=X9.keep hBa;replace hBb:=X9.keep hBb;replace hG:=X9.keep hG;replace Bo:=X9.keep Bo;replace E:=E.ext X9;refine qV (zDK rfl rfl) (zAB (qC rfl (fun h0=>?_) (fun h0=>?_)))
 ·refine zAF (qM _ rfl (qF bb 0 0 rfl underlying34 rfl zAy rfl (qV (zAI rfl zAo (hBb.cell rfl)) (qE rfl (zAQ func178 kQ kQ rfl) (zRC _ m g b.start M qO hG qO) ?_))));rintro _ w19 ⟨rfl,ad,ab⟩;replace hBa:=ad.keep qO hBa;replace hBb:=ad.keep qO hBb;replace Bo:=ad.keep qO Bo;replace E:=E.step ad (by intro x hx hm;omega);rw[zUk h0] at ab;refine zAB (zAC (zAA (qM _ rfl (qM _ rfl (qV (zCf (l:=zIj m (zIJ a b s M)) underlying69 underlying5 underlying203 rfl ab (zDn m _)) (qV (zBA (ps:=[(0,(I6 s)),(1,(.string (zDs m (zIJ a b s M))))]) (v:=(.agg #[(I6 s),(.string (zDs m (zIJ a b s M)))])) rfl qK) (zAb (b:=bo) (o:=0) (c':=#[(I6 s),(.string (zDs m (zIJ a b s M)))]) rfl rfl qS zCz rfl Bo qL rfl ?_)))))));intro w2 S2;replace hBa:=S2.keep qO hBa;replace hBb:=S2.keep qO hBb;replace E:=S2.step E qQ;replace Bo:=S2.blk;refine zAB (zAV (zBm results177 (vs:=[(.int .i64 s),(.string (zDs m (zIJ a b s M)))]) (b:=bo) rfl zFh zCz rfl (Bo.cells rfl) ?_));exact ⟨rfl,E⟩
 ·have ab:=hG;rw[zWQ (a:=a) (b:=b) (M:=M) h0] at ab;refine zAO (zAC (zAA (qM _ rfl (qM _ rfl (qV (zCf (l:=zIj m (zIJ a b s M)) underlying69 underlying5 underlying203 rfl ab (zDn m _)) (qV (zBA (ps:=[(0,(I6 s)),(1,(.string (zDs m (zIJ a b s M))))]) (v:=(.agg #[(I6 s),(.string (zDs m (zIJ a b s M)))])) rfl qK) (zAb (b:=bo) (o:=0) (c':=#[(I6 s),(.string (zDs m (zIJ a b s M)))]) rfl rfl qS zCz rfl Bo qL rfl ?_)))))));intro w3 S3;replace hBa:=S3.keep qO hBa;replace hBb:=S3.keep qO hBb;replace hG:=S3.keep qO hG;replace E:=S3.step E qQ;replace Bo:=S3.blk;refine zAB (zAV (zBm results177 (vs:=[(.int .i64 s),(.string (zDs m (zIJ a b s M)))]) (b:=bo) rfl zFh zCz rfl (Bo.cells rfl) ?_));exact ⟨rfl,E⟩
theorem zRM (a b:Dfa) (m:Nat) (p:Int×ByteArray) (x:Nat):(zGY a b m p x).isSome=(decide (0≤toD a p.1 x) || zEI b m p.2 x)∧∀q,zGY a b m p x=some q→(toD a p.1 x,zDs m (zIJ a b (toD a p.1 x) (zIe b m p.2 x)))=q:=by
 unfold zGY;by_cases h:0≤toD a p.1 x∨zEI b m p.2 x=true
 ·rw[if_pos h];refine ⟨?_,fun q e=>Option.some.inj e⟩;rcases h with h|h
  ·simp[h]
  ·simp[h]
 ·rw[if_neg h];refine ⟨?_,fun q e=>by cases e⟩;have h1:¬0≤toD a p.1 x:=fun h9=>h (.inl h9);have h2:zEI b m p.2 x=false:=by cases e:zEI b m p.2 x;rfl;exact absurd (.inr e) h
  rw[decide_eq_false h1,h2];rfl
theorem zWV (w0:World) (n m c:Nat) (a b:Dfa) (av bv:List Value) (ba bb be x:Nat) (p:Int×ByteArray) (oka:OkD n c a) (okb:OkD m c b) (ha:zBk w0 a av) (hb:zBk w0 b bv) (hBa:Blk w0 ba av.toArray 34) (hBb:Blk w0 bb bv.toArray 34) (hBe:Blk w0 be #[.func (.func 177) #[] #[.pointer (some ⟨ba,0,none⟩),.pointer (some ⟨bb,0,none⟩)]] 207) (hm:m≤20000) (hp:p.1<n) (hk:p.2.size=(m+7) / 8) (hx:x<c) (hc:c≤16) :
  Ret prog 181 #[.agg #[.int .i64 p.1,.string p.2],.int .i64 ((x:Nat):Int),.pointer (some ⟨ba,0,none⟩),.pointer (some ⟨bb,0,none⟩),.pointer (some ⟨be,0,none⟩)] w0 fun v w=>(∃q:Int×ByteArray,v=.tuple #[.agg #[.int .i64 q.1,.string q.2],.bool (zGY a b m p x).isSome]∧∀r,zGY a b m p x=some r→q=r)∧Ext w0 w:=by
 have ao:=ha;obtain ⟨aa,ac,na,nc,rfl,_,_⟩:=ao;have aj:=hb;obtain ⟨ap,an,am,ak,rfl,_,_⟩:=aj;have al:=hBa.lt;have ah:=hBb.lt;obtain ⟨h1,h2⟩:=zRM a b m p x;obtain ⟨s,hs⟩:∃s,s=toD a p.1 x:=⟨_,rfl⟩;rw[←hs] at h1 h2;have ai:s<n:=by rw[hs];exact oka.to.2
 refine qR func181 rfl ntmps181 rfl (fun E=>(zAA (zBQ (v:=(.agg #[(I6 p.1),(.string p.2)])) (c:=#[(I6 p.1),(.string p.2)]) qD rfl rfl ?_)));intro bq wq Nq;have Fq:=Nq.ge E;have Oq_ba:=Nq.lt hBa;have Oq_bb:=Nq.lt hBb;have Oq_be:=Nq.lt hBe;replace hBa:=Nq.keep hBa;replace hBb:=Nq.keep hBb;replace hBe:=Nq.keep hBe;replace E:=E.ext Nq.ext;have Bq:=Nq.blk;refine zBH (c:=#[(I6 0),(.string ByteArray.empty)]) qD zIr rfl ?_;intro br wr Nr;have Fr:=Nr.ge E;have Or_ba:=Nr.lt hBa;have Or_bb:=Nr.lt hBb;have Or_be:=Nr.lt hBe;have Or_bq:=Nr.lt Bq;replace hBa:=Nr.keep hBa;replace hBb:=Nr.keep hBb;replace hBe:=Nr.keep hBe;replace Bq:=Nr.keep Bq;replace E:=E.ext Nr.ext;have Br:=Nr.blk;refine qA _ rfl (zAB (zAA (qV (zAK (vs:=[(I6 a.start),(.slice aa a.accept.length ac),(.slice na a.next.length nc)]) rfl zAx zAe rfl (hBa.cells rfl)) (qF bq 0 0 rfl underlying205 rfl zAy rfl (qV (zAI rfl zAo (Bq.cell rfl)) (qM _ rfl (qE rfl (zAQ func131 kQ kQ rfl) ((zQi _ n c a _ p.1 (x:Int) oka (ha.ext E) hp qO).mono (R':=fun v w=>v=.int .i64 s∧Ext _ w) (fun v w h=>⟨by rw[hs];exact h.1,h.2⟩)) ?_)))))));rintro _ w9 ⟨rfl,X9⟩;replace hBa:=X9.keep hBa;replace hBb:=X9.keep hBb;replace hBe:=X9.keep hBe;replace Bq:=X9.keep Bq;replace Br:=X9.keep Br;replace E:=E.ext X9;have hw9:=E.size;refine qA _ rfl (zAB (zAA (qV (zAK (vs:=[(I6 b.start),(.slice ap b.accept.length an),(.slice am b.next.length ak)]) rfl zAx zAe rfl (hBb.cells rfl)) (qF bq 0 1 rfl underlying205 rfl zTC rfl (qV (zAI rfl zQb (Bq.cell rfl)) (qM _ rfl (qE rfl (zAQ func182 kQ kQ rfl) (zMC _ m c x b _ p.2 okb (hb.ext E) hm hk hx hc) ?_)))))));rintro _ w19 ⟨⟨g,rfl,hG,hg0⟩,ad⟩;replace hBa:=ad.keep hBa;replace hBb:=ad.keep hBb;replace hBe:=ad.keep hBe;replace Bq:=ad.keep Bq;replace Br:=ad.keep Br;replace E:=E.ext ad;have hqr:bq<w9.heap.size∧br<w9.heap.size:=⟨by have:=Nq.eq;have:=Nq.size;have:=Nr.ext.size;have:=X9.size;omega,by have:=Nr.eq;have:=Nr.size;have:=X9.size;omega⟩;refine qM _ rfl (qV (zAa rfl rfl) (qV (zAa rfl rfl) (qA _ rfl (qA _ rfl (zAB (zAA (qV (zAI rfl zQa (hBe.cell rfl)) (qM _ rfl (qM _ rfl (qE rfl (zDL rfl func177 kQ kQ rfl rfl) (zTX _ n m c a b _ _ ba bb g s (zIe b m p.2 x) oka okb (ha.ext E) (hb.ext E) hBa hBb hG ai hm ⟨qO,qO⟩) ?_))))))))));rintro _ w29 ⟨rfl,ab⟩;replace hBa:=ab.keep qO hBa;replace hBb:=ab.keep qO hBb;replace hBe:=ab.keep qO hBe;replace Bq:=ab.keep qO Bq;replace Br:=ab.keep qO Br;replace E:=E.step ab (by intro x hx hm;omega);refine qM _ rfl ?_;obtain ⟨e1,af⟩:∃e,(decide ((0:Int)≤s))=e:=⟨_,rfl⟩;refine qV ((zDK rfl rfl).trans (by rw[af];try rfl)) (qM _ rfl ?_);obtain ⟨e2,ag⟩:∃e,(zEI b m p.2 x)=e:=⟨_,rfl⟩;refine qG (.bool e1) (nU e1 (.bool e2)) (by cases e1<;>first|exact gA|exact gB|exact .inl ⟨rfl,zAl (cbk ag)⟩) ?_;obtain ⟨e3,ae⟩:∃e,(e1 || e2)=e:=⟨_,rfl⟩;refine qV (zAr (v:=.bool e3) rfl (by rw[←ae];cases e1<;>rfl)) (zAb (b:=br) (o:=0) (c':=#[(I6 s),(.string (zDs m (zIJ a b s (zIe b m p.2 x))))]) rfl rfl qS zCz rfl Br qL rfl ?_);intro w4 S4;replace hBa:=S4.keep qO hBa;replace hBb:=S4.keep qO hBb;replace hBe:=S4.keep qO hBe;replace Bq:=S4.keep qO Bq;replace E:=S4.step E qQ;replace Br:=S4.blk;refine qA _ rfl (zAB ?_);subst ae;subst ag;subst af;refine zAV (zAu results181 (vs:=[(.int .i64 s),(.string (zDs m (zIJ a b s (zIe b m p.2 x))))]) (b:=br) (v':=(.bool ((decide ((0:Int)≤s)) || (zEI b m p.2 x)))) rfl zFh zCz rfl (Br.cells rfl) rfl ?_);exact ⟨⟨(s,zDs m (zIJ a b s (zIe b m p.2 x))),by rw[h1],h2⟩,E⟩
theorem zWU (w0:World) (m c:Nat) (b:Dfa) (bv:List Value) (bb:Nat) (p:Int×ByteArray) (okb:OkD m c b) (hb:zBk w0 b bv) (hBb:Blk w0 bb bv.toArray 34) (hm:m≤20000) (hk:p.2.size=(m+7) / 8) :
  Ret prog 183 #[.agg #[.int .i64 p.1,.string p.2],.pointer (some ⟨bb,0,none⟩)] w0 fun v w=>v=.int .i64 (zKd b m p)∧Ext w0 w:=by
 have ae:=hb;obtain ⟨ad,ab,ac,af,rfl,_,_⟩:=ae;refine qR func183 rfl ntmps183 rfl (fun E=>(zAA (zBQ (v:=(.agg #[(I6 p.1),(.string p.2)])) (c:=#[(I6 p.1),(.string p.2)]) qD rfl rfl ?_)));intro bq wq Nq;replace hBb:=Nq.keep hBb;replace E:=E.ext Nq.ext;have Bq:=Nq.blk;refine qA _ rfl (zAB (zAA (qV (zAK (vs:=[(I6 b.start),(.slice ad b.accept.length ab),(.slice ac b.next.length af)]) rfl zAx zAe rfl (hBb.cells rfl)) (qF bq 0 1 rfl underlying205 rfl zTC rfl (qV (zAI rfl zQb (Bq.cell rfl)) (qE rfl (zAQ func184 kQ kQ rfl) (zIT _ m c b _ p.2 okb (hb.ext E) hm hk) ?_))))));rintro _ w9 ⟨rfl,X9⟩;replace hBb:=X9.keep hBb;replace Bq:=X9.keep Bq;replace E:=E.ext X9;refine qE rfl (zAQ func88 kQ kQ rfl) (zGM (zLs b m p.2) _) ?_;rintro _ w19 ⟨rfl,aa⟩;replace hBb:=aa.keep hBb;replace Bq:=aa.keep Bq;replace E:=E.ext aa;refine qA _ rfl (zAB (zAV (zAY results183 (v:=(.int .i64 (if zLs b m p.2=true then 0 else -1))) rfl ?_)));exact ⟨rfl,E⟩
end Go.Proofs
namespace Go.Proofs
open Go Go.Eng Go.Sort
set_option maxRecDepth 100000
theorem zSe {w:World} {b o:Nat} {v:Value} (h:w.cell? ⟨b,o,none⟩=some v):b<w.heap.size:=by
 apply Classical.byContradiction;intro hb;unfold World.cell? at h;rw[Array.getElem?_eq_none (by simpa using hb)] at h;cases h
def zPv (m n9:Nat):Fct:=fun v w=>∃g,v=.slice (some ⟨g,0,none⟩) ((m+7) / 8) ((m+7) / 8)∧Blk w g (zJA m fun _=>false) 5∧n9≤g
theorem zPu {m n9:Nat}:∀v w w',Ext w w'→zPv m n9 v w→zPv m n9 v w':=by
 rintro v w w' x ⟨g,h1,h2,h3⟩;exact ⟨g,h1,x.keep h2,h3⟩
theorem zUi {α:Type} {c most:Nat} {stp:α→Nat→Option α} {acc:α→Int} {a0:α} {base:Nat} {r:Value} {w:World} (h:zJa c most stp acc a0 base r w) (hF:¬zIb c stp a0 most):r=.tuple #[.agg #[.int .i64 0,.slice none 0 0,.slice none 0 0],.bool false]:=by
 rcases h with ⟨h1,_⟩|⟨_,h1⟩
 ·exact absurd h1 hF
 ·exact h1
def zOm (c:Nat) (f:List Nat→Int) (base:Nat) (r:Value) (w:World):Prop:=∃C ca cc ma mc,zDf c f C∧C.next.length≤20000∧(∀x∈C.accept,x<2147483648)∧r=.tuple #[.agg #[.int .i64 C.start,.slice ca C.accept.length cc,.slice ma C.next.length mc],.bool true]∧zCi base w C [.int .i64 C.start,.slice ca C.accept.length cc,.slice ma C.next.length mc]
theorem expU {α:Type} {c most:Nat} {stp:α→Nat→Option α} {acc:α→Int} {a0:α} {base b0:Nat} {r:Value} {w:World} (h:zJa c most stp acc a0 base r w) (hF:zIb c stp a0 most) (hb:b0≤base):∃u,r=.tuple #[u,.bool true]∧expG c most stp acc a0 b0 u w:=by
 rcases h with ⟨_,D,v,h1,h2,ea,ec,na,nc,vs,h3,h4⟩|⟨h1,_⟩
 ·exact ⟨v,h2,D,ea,ec,na,nc,vs,h3,h1 most hF,h4.low hb⟩
 ·exact absurd hF h1
def zVN (r:Value):Prop:=r=.tuple #[.agg #[.int .i64 0,.slice none 0 0,.slice none 0 0],.bool false]
open Classical in
noncomputable def catB (a b:Dfa) (w:List Nat):Int:=if zWp (beh a a.start) (beh b b.start) w then 0 else -1
def zEt {α:Type} (ok:Bool) (c most:Nat) (stp:α→Nat→Option α) (acc:α→Int) (a0:α) (base:Nat):Fct:=fun v w=>∃D ea ec na nc vs,v=.agg #[.int .i64 D.start,.slice ea D.accept.length ec,.slice na D.next.length nc]∧(ok=true→ExpOf c most stp acc a0 D∧OutSt w base (.slice ea D.accept.length ec) (.slice na D.next.length nc) vs D.accept D.next)
section
variable {α : Type} {ok : Bool} {c most : Nat} {stp : α → Nat → Option α} {acc : α → Int} {a0 : α} {base : Nat}
theorem zCp:∀v w w',Ext w w'→zEt ok c most stp acc a0 base v w→zEt ok c most stp acc a0 base v w':=by
 rintro v w w' x ⟨D,ea,ec,na,nc,vs,h3,h2⟩;exact ⟨D,ea,ec,na,nc,vs,h3,fun h=>⟨(h2 h).1,(h2 h).2.ext x⟩⟩
theorem zII:∀u w,zEt ok c most stp acc a0 base u w→∃vs:Array Value,u=.agg vs∧vs.size=3∧∀v∈vs.toList,v.oneCell'=true:=by
 rintro u w ⟨D,ea,ec,na,nc,vs,h3,h2⟩;exact ⟨_,h3,rfl,by simp[Value.oneCell']⟩
theorem zIH {b:Nat} {cs:Array Value}:∀u w w',Blk w b cs 34→Chg (fun y=>y=b) w w'→zEt ok c most stp acc a0 base u w→zEt ok c most stp acc a0 base u w':=by
 rintro u w w' hB x ⟨D,ea,ec,na,nc,vs,h3,h2⟩;exact ⟨D,ea,ec,na,nc,vs,h3,fun aa=>⟨(h2 aa).1,(h2 aa).2.chg x (fun y hy h=>OutSt.typ (h2 aa).2 hB qD qD (by have h':y=b:=h;rw[←h'];exact hy))⟩⟩
theorem zMe {b0:Nat} {r:Value} {w:World} (h:zJa c most stp acc a0 base r w) (hk:ok=true↔zIb c stp a0 most) (hb:b0≤base):∃u,r=.tuple #[u,.bool ok]∧zEt ok c most stp acc a0 b0 u w:=by
  cases ok with
  | true=>
    obtain ⟨u,h1,D,ea,ec,na,nc,vs,h3,h4,h5⟩:=expU h (hk.1 rfl) hb;exact ⟨u,h1,D,ea,ec,na,nc,vs,h3,fun _=>⟨h4,h5⟩⟩
  | false=>exact ⟨_,zUi h fun h2=>(by cases hk.2 h2),⟨0,[],[]⟩,none,0,none,0,[],rfl,fun h=>by cases h⟩
end
theorem zNk (p:Prop):∃ok:Bool,(ok=true↔p):=by
 by_cases h:p
 ·exact ⟨true,by simp[h]⟩
 ·exact ⟨false,by simp[h]⟩
theorem zWT (w0:World) (n m c:Nat) (a b:Dfa) (av bv:List Value) (oka:OkD n c a) (okb:OkD m c b) (ha:zBk w0 a av) (hb:zBk w0 b bv) (hc:1≤c∧c≤16) (hn:n≤20000) (hm:m≤20000) :
  Ret prog 154 #[.agg av.toArray,.agg bv.toArray] w0 fun r w=>((zIb c (zGY a b m) (zHi a b m) 20000∧zOm c (catB a b) w0.heap.size r w)∨(¬zIb c (zGY a b m) (zHi a b m) 20000∧zVN r))∧Ext w0 w:=by
 have cl:=ha;have bk:=hb;have hal:=oka.al;have hbl:=okb.al;have hnl:=oka.nl;have b2:=okb.nl;have hst:=oka.st;obtain ⟨aa,ac,na,nc,rfl,cj,a6⟩:=cl;obtain ⟨bd,be,ap,am,rfl,_,_⟩:=bk;obtain ⟨nb,no,rfl,cb⟩:=zBs (n:=a.next.length) a6 qO;obtain ⟨row,aq⟩:=zAN (l:=a.next) (i:=0) qO;have bg:=(oka.row row (List.mem_of_getElem? aq)).1;obtain ⟨ra,rc,ae,bi⟩:=cb 0 row aq;rw[bg] at ae bi;have bm:=zSe ae;subst b2;obtain ⟨ok,hk⟩:=zNk (zIb c (zGY a b b.next.length) (zHi a b b.next.length) 20000);refine qR func154 rfl ntmps154 rfl (fun E=>(zAA (zBQ (v:=(.agg #[(I6 a.start),(.slice aa a.accept.length ac),(.slice (some ⟨nb,no,none⟩) a.next.length nc)])) (c:=#[(I6 a.start),(.slice aa a.accept.length ac),(.slice (some ⟨nb,no,none⟩) a.next.length nc)]) qD rfl rfl ?_)));intro bp wp Np;have Fp:=Np.ge E;replace E:=E.ext Np.ext;have Bp:=Np.blk;refine zBQ (v:=(.agg #[(I6 b.start),(.slice bd b.accept.length be),(.slice ap b.next.length am)])) (c:=#[(I6 b.start),(.slice bd b.accept.length be),(.slice ap b.next.length am)]) qD rfl rfl ?_;intro bq wq Nq;have Fq:=Nq.ge E;have Oq_bp:=Nq.lt Bp;replace Bp:=Nq.keep Bp;replace E:=E.ext Nq.ext;have Bq:=Nq.blk;refine zBH (c:=#[(I6 0),(.slice none 0 0),(.slice none 0 0)]) qD zBf rfl ?_;intro br wr Nr;have Fr:=Nr.ge E;have Or_bp:=Nr.lt Bp;have Or_bq:=Nr.lt Bq;replace Bp:=Nr.keep Bp;replace Bq:=Nr.keep Bq;replace E:=E.ext Nr.ext;have Br:=Nr.blk;refine qA (.bool false) rfl (zAB (zAA (qV (zBV (vs:=[]) (us:=[(P6 bp 0),(P6 bq 0)]) rfl rfl) (zAd (v:=(.func (.func 177) #[] #[(P6 bp 0),(P6 bq 0)])) (c:=#[(.func (.func 177) #[] #[(P6 bp 0),(P6 bq 0)])]) (n:=1) qD zVQ rfl zVf rfl rfl rfl qS ?_))));intro bf wf Nf;have Ff:=Nf.ge E;have Of_bp:=Nf.lt Bp;have Of_bq:=Nf.lt Bq;have Of_br:=Nf.lt Br;replace Bp:=Nf.keep Bp;replace Bq:=Nf.keep Bq;replace Br:=Nf.keep Br;replace E:=E.ext Nf.ext;have Bf:=Nf.blk;refine zAB ?_;obtain ⟨n9,ar⟩:∃n9,n9=(wf).heap.size:=⟨_,rfl⟩;have hpq:bp<n9∧bq<n9∧bf<n9∧nb<n9:=⟨by rw[ar];exact Bp.lt,by rw[ar];exact Bq.lt,by rw[ar];exact Bf.lt,by rw[ar];have:=E.size;omega⟩;have bz:w0.heap.size≤wf.heap.size:=E.size;have aw:bp<wf.heap.size:=Bp.lt;have a1:bq<wf.heap.size:=Bq.lt;have au:br<wf.heap.size:=Br.lt;have ay:bf<wf.heap.size:=Bf.lt;refine zAH ?_;obtain ⟨cd,ab⟩:∃Fs:List zDE,Fs=[(eF (.func (.func 177) #[] #[(P6 bp 0),(P6 bq 0)])),(eF (P6 bp 0)),(eF (I6 a.start)),(eF (P6 bq 2)),(eF (.slice ap b.next.length am)),(eF (I6 (b.next.length:Int))),(fun S _ v w=>S 7=false→(zPv b.next.length n9) v w),(eF (.agg #[(I6 a.start),(.string ((zHi a b b.next.length).2))])),(eF (P6 bp 2)),(eF (.slice (some ⟨nb,no,none⟩) a.next.length nc)),(eF (.pointer (some ⟨nb,no+0,none⟩))),(eF (.slice ra c rc)),(eF (I6 (c:Int))),(eF (.func (.func 181) #[] #[(P6 bp 0),(P6 bq 0),(P6 bf 0)])),(eF (.func (.func 183) #[] #[(P6 bq 0)])),(fun S s v w=>zKj 20 [(.bool ok)] (zEt ok c 20000 (zGY a b b.next.length) (zKd b b.next.length) (zHi a b b.next.length) n9) S s v w),(fun S s v w=>zKj 20 [(.bool ok)] (zEt ok c 20000 (zGY a b b.next.length) (zKd b b.next.length) (zHi a b b.next.length) n9) S s v w),(fun S _ v w=>S 20=false→(zEt ok c 20000 (zGY a b b.next.length) (zKd b b.next.length) (zHi a b b.next.length) n9) v w),(eF (.bool ok)),(fun S _ v w=>S 20=false→((alF 34 #[(I6 0),(.slice none 0 0),(.slice none 0 0)] wf.heap.size)) v w),(fun S s v w=>zOt 7 wf.heap.size 34 (zEt ok c 20000 (zGY a b b.next.length) (zKd b b.next.length) (zHi a b b.next.length) n9) S s v w),(eF undef)]:=⟨_,rfl⟩;refine zMl (MsL [(7,(fun y=>n9≤y)),(20,(fun y=>wf.heap.size≤y))]) (RsL [(7,zVH 5)]) ([]) ((fun _=>False)) [true,true,true,true,true,true,true,true,true,true,true,true,true,true,true,true,true,true,true,true,true,false] [21] [11,12,13,14,15,16,17,18,19,20,21,22,23,24,25,26,10,27,28,7,54,55] [[],[],[1],[],[3],[4],[5],[0,2,6],[],[8],[9],[10],[11],[],[],[7,12,13,14],[15],[16],[16],[],[0,1,2,3,4,5,6,7,8,9,10,11,12,13,14,15,16,17,19],[]] [[],[],[1],[],[3],[4,3],[5,4,3],[0,2,1,6,5,4,3],[],[8],[9,8],[10,9,8],[11,10,9,8],[],[],[7,0,2,1,6,5,4,3,12,11,10,9,8,13,14],[15,7,0,2,1,6,5,4,3,12,11,10,9,8,13,14],[16,15,7,0,2,1,6,5,4,3,12,11,10,9,8,13,14],[16,15,7,0,2,1,6,5,4,3,12,11,10,9,8,13,14],[],[0,1,2,3,4,5,6,7,8,9,10,11,12,13,14,15,16,17,19],[]] cd ab qK mixed qK qK qK qK ?_ ((fun _ _ _ _ _ h=>h.elim)) ?_
 ·intro wd X0;refine DagStepsG.cons (zCE.eq) (zCr.const) (fun S s' w' hi hN X U V H=>Or.inl ⟨zAL rfl,?_⟩) ?_
  ·replace X:=xN2 (hN 7 rfl) (hN 20 rfl) X;exact gX1 qD (zAW (zAI (v:=(.func (.func 177) #[] #[(.pointer (some ⟨bp,0,none⟩)),(.pointer (some ⟨bq,0,none⟩))])) (U 6 rfl) zQa (((X0.trans X).keep Bf).cell rfl)) rfl)
  refine DagStepsG.cons (zCE.eq) (zCr.const) (fun S s' w' hi hN X U V H=>Or.inl ⟨zAL rfl,?_⟩) ?_
  ·replace X:=xN2 (hN 7 rfl) (hN 20 rfl) X;exact gX1 qD (zAW (zAZ (b:=bp) (o:=0) (o':=0) (U 2 rfl) underlying34 rfl zAy rfl) rfl)
  refine DagStepsG.cons (zCE.eq) (zCr.const) (fun S s' w' hi hN X U V H=>Or.inl ⟨zAL rfl,?_⟩) ?_
  ·replace X:=xN2 (hN 7 rfl) (hN 20 rfl) X;have b3:=(H 1 rfl).2 12 _ rfl (by rw[ab];rfl);exact gX1 qD (zAW (zAI (v:=(.int .i64 a.start)) b3 zAo (((X0.trans X).keep Bp).cell rfl)) rfl)
  refine DagStepsG.cons (zCE.eq) (zCr.const) (fun S s' w' hi hN X U V H=>Or.inl ⟨zAL rfl,?_⟩) ?_
  ·replace X:=xN2 (hN 7 rfl) (hN 20 rfl) X;exact gX1 qD (zAW (zAZ (b:=bq) (o:=0) (o':=2) (U 3 rfl) underlying34 rfl zBu rfl) rfl)
  refine DagStepsG.cons (zCE.eq) (zCr.const) (fun S s' w' hi hN X U V H=>Or.inl ⟨zAL rfl,?_⟩) ?_
  ·replace X:=xN2 (hN 7 rfl) (hN 20 rfl) X;have b6:=(H 3 rfl).2 14 _ rfl (by rw[ab];rfl);exact gX1 qD (zAW (zAI (v:=(.slice ap b.next.length am)) b6 zBi (((X0.trans X).keep Bq).cell rfl)) rfl)
  refine DagStepsG.cons (zCE.eq) (zCr.const) (fun S s' w' hi hN X U V H=>Or.inl ⟨zAL rfl,?_⟩) ?_
  ·replace X:=xN2 (hN 7 rfl) (hN 20 rfl) X;have bs:=(H 4 rfl).2 15 _ rfl (by rw[ab];rfl);exact gX1 qD (zAW (zAJ (ad:=ap) (n:=b.next.length) (cap:=am) underlying32 bs) rfl)
  refine DagStepsG.cons (zCE.till (U:=zAh) (zPu) (fun p y hp hw af hq h=>by
     rcases zBg h with ⟨rfl,h0⟩|h0
     ·exact absurd rfl af
     rcases zBg h0 with ⟨rfl,h1⟩|h1
     ·exact Bool.noConfusion (show true=false from hq)
     exact h1.elim)) (zCr.const) (fun S s' w' hi hN X U V H=>Or.inl ⟨zAL rfl,?_⟩) ?_
  ·replace X:=xN2 (hN 7 rfl) (hN 20 rfl) X;have bo:=(H 5 rfl).2 16 _ rfl (by rw[ab];rfl);exact gX1 qD (zCF (zAQ (vs:=[(.int .i64 ((b.next.length:Nat):Int))]) func180 kQ kQ (zOv bo)) ((zJu _ b.next.length qO).mono (fun v w h=>⟨fun _=>(by obtain ⟨g,h1,h2,h3⟩:=h.1;exact ⟨g,h1,h2,by have:=X0.size;have:=X.size;omega⟩),h.2⟩)))
  refine DagStepsG.cons (zCE.eq) (zCr.const) (fun S s' w' hi hN X U V H=>Or.inl ⟨zAL rfl,?_⟩) ?_
  ·replace X:=xN2 hi (hN 20 rfl) X;have bx:=(H 2 rfl).2 13 _ rfl (by rw[ab];rfl);obtain ⟨ax,b5,bc,b7⟩:=(show (zPv b.next.length n9) (s' 17) w' from ((H 6 rfl).2 17 (fun S _ v w=>S 7=false→(zPv b.next.length n9) v w) rfl (by rw[ab];rfl)) hi);have b8:=(H 0 rfl).2 11 _ rfl (by rw[ab];rfl);exact gXc (zCt (zDL (first:=#[]) (cap:=#[(.pointer (some ⟨bp,0,none⟩)),(.pointer (some ⟨bq,0,none⟩))]) (vs:=[(.int .i64 a.start),(.slice (some ⟨ax,0,none⟩) ((b.next.length+7) / 8) ((b.next.length+7) / 8))]) (ws:=#[(.int .i64 a.start),(.slice (some ⟨ax,0,none⟩) ((b.next.length+7) / 8) ((b.next.length+7) / 8)),(.pointer (some ⟨bp,0,none⟩)),(.pointer (some ⟨bq,0,none⟩))]) b8 func177 kQ kQ (zOu bx b5) rfl) ((zTX _ n b.next.length c a b _ _ bp bq ax a.start (fun _=>false) oka okb (ha.ext (Ext.trans E (X0.trans X))) (hb.ext (Ext.trans E (X0.trans X))) ((X0.trans X).keep Bp) ((X0.trans X).keep Bq) bc qO hm ⟨qO,qO⟩).mono (fun v w h=>⟨⟨h.1,zWS bc h.2⟩,h.2.mono (fun y _ h=>by have h':y=ax:=h;rw[h'];exact Or.inl ⟨rfl,b7⟩)⟩)))
  refine DagStepsG.cons (zCE.eq) (zCr.const) (fun S s' w' hi hN X U V H=>Or.inl ⟨zAL rfl,?_⟩) ?_
  ·replace X:=xM2 (hN 20 rfl) X;exact gX1 qD (zAW (zAZ (b:=bp) (o:=0) (o':=2) (U 2 rfl) underlying34 rfl zBu rfl) rfl)
  refine DagStepsG.cons (zCE.eq) (zCr.const) (fun S s' w' hi hN X U V H=>Or.inl ⟨zAL rfl,?_⟩) ?_
  ·replace X:=xM2 (hN 20 rfl) X;have bt:=(H 8 rfl).2 19 _ rfl (by rw[ab];rfl);exact gX1 qD (zAW (zAI (v:=(.slice (some ⟨nb,no,none⟩) a.next.length nc)) bt zBi ((Chg.keep X kH (X0.keep Bp)).cell rfl)) rfl)
  refine DagStepsG.cons (zCE.eq) (zCr.const) (fun S s' w' hi hN X U V H=>Or.inl ⟨zAL rfl,?_⟩) ?_
  ·replace X:=xM2 (hN 20 rfl) X;have bw:=(H 9 rfl).2 20 _ rfl (by rw[ab];rfl);exact gX1 qD (zAW (zAD (b:=nb) (o:=no) (len:=a.next.length) (cap:=nc) (i:=0) (o':=no+0) bw rfl rfl underlying32 zBL qO qO) rfl)
  refine DagStepsG.cons (zCE.eq) (zCr.const) (fun S s' w' hi hN X U V H=>Or.inl ⟨zAL rfl,?_⟩) ?_
  ·replace X:=xM2 (hN 20 rfl) X;have ck:=(H 10 rfl).2 21 _ rfl (by rw[ab];rfl);exact gX1 qD (zAW (zAI (v:=(.slice ra c rc)) ck zBP (Chg.cell X kH (X0.cell (E.cell (fun f=>f) ae)))) rfl)
  refine DagStepsG.cons (zCE.eq) (zCr.const) (fun S s' w' hi hN X U V H=>Or.inl ⟨zAL rfl,?_⟩) ?_
  ·replace X:=xM2 (hN 20 rfl) X;have cg:=(H 11 rfl).2 22 _ rfl (by rw[ab];rfl);exact gX1 qD (zAW (zAJ (ad:=ra) (n:=c) (cap:=rc) underlying22 cg) rfl)
  refine DagStepsG.cons (zCE.eq) (zCr.const) (fun S s' w' hi hN X U V H=>Or.inl ⟨zAL rfl,?_⟩) ?_
  ·replace X:=xM2 (hN 20 rfl) X;exact gX1 qD (zAW (zBV (vs:=[]) (us:=[(.pointer (some ⟨bp,0,none⟩)),(.pointer (some ⟨bq,0,none⟩)),(.pointer (some ⟨bf,0,none⟩))]) rfl (zVK (U 2 rfl) (U 3 rfl) (U 6 rfl))) rfl)
  refine DagStepsG.cons (zCE.eq) (zCr.const) (fun S s' w' hi hN X U V H=>Or.inl ⟨zAL rfl,?_⟩) ?_
  ·replace X:=xM2 (hN 20 rfl) X;exact gX1 qD (zAW (zBV (vs:=[]) (us:=[(.pointer (some ⟨bq,0,none⟩))]) rfl (zOv (U 3 rfl))) rfl)
  refine DagStepsG.cons (zCE.tup (U:=zAh) (zCp) (fun p y hp hw af h=>by
     rcases zBg h with ⟨rfl,h0⟩|h0
     ·exact Bool.noConfusion (show true=false from hw)
     rcases zBg h0 with ⟨rfl,h1⟩|h1
     ·exact absurd rfl af
     exact h1.elim)) (zCr.const) (fun S s' w' hi hN X U V H=>Or.inl ⟨zAL rfl,?_⟩) ?_
  ·replace X:=xM2 (hN 20 rfl) X;have ce:=(H 7 rfl).2 18 _ rfl (by rw[ab];rfl);have bj:=(H 12 rfl).2 23 _ rfl (by rw[ab];rfl);have cm:=(H 13 rfl).2 24 _ rfl (by rw[ab];rfl);have ch:=(H 14 rfl).2 25 _ rfl (by rw[ab];rfl);exact gX1 qD (zCR (zCF (zAQ (vs:=[(.agg #[(.int .i64 a.start),(.string ((zHi a b b.next.length).2))]),(.int .i64 ((c:Nat):Int)),(.func (.func 181) #[] #[(.pointer (some ⟨bp,0,none⟩)),(.pointer (some ⟨bq,0,none⟩)),(.pointer (some ⟨bf,0,none⟩))]),(.func (.func 183) #[] #[(.pointer (some ⟨bq,0,none⟩))]),(.int .i64 20000)]) func179 kQ kQ (zXI ce bj cm ch rfl)) (R:=fun v w=>∃u,v=.tuple (u::[(.bool ok)]).toArray∧(zEt ok c 20000 (zGY a b b.next.length) (zKd b b.next.length) (zHi a b b.next.length) n9) u w) ((zUh _ (zHi a b b.next.length) c 20000 _ _ (zGY a b b.next.length) (zKd b b.next.length) hc qD (fun k _=>zSu b _ k) (fun w k x hE hr hx=>zCG.mk (first:=#[]) (cap:=#[.pointer (some ⟨bp,0,none⟩),.pointer (some ⟨bq,0,none⟩),.pointer (some ⟨bf,0,none⟩)]) func181 kQ kQ rfl (zWV w n b.next.length c a b _ _ bp bq bf x k oka okb (ha.ext (Ext.trans ((E.ext X0).step X (fun y hy h=>by first|omega|(dsimp only at h;omega))) hE)) (hb.ext (Ext.trans ((E.ext X0).step X (fun y hy h=>by first|omega|(dsimp only at h;omega))) hE)) (hE.keep (Chg.keep X kH (X0.keep Bp))) (hE.keep (Chg.keep X kH (X0.keep Bq))) (hE.keep (Chg.keep X kH (X0.keep Bf))) hm (zMJ oka okb hr).1.2 (by rw[(zMJ oka okb hr).2,zCl]) hx hc.2)) (fun w k hE hr=>zCG.mk (first:=#[]) (cap:=#[.pointer (some ⟨bq,0,none⟩)]) func183 kQ kQ rfl (zWU w b.next.length c b _ bq k okb (hb.ext (Ext.trans ((E.ext X0).step X (fun y hy h=>by first|omega|(dsimp only at h;omega))) hE)) (hE.keep (Chg.keep X kH (X0.keep Bq))) hm (by rw[(zMJ oka okb hr).2,zCl])))).mono (fun v w h=>⟨zMe h.1 hk (by have:=X0.size;have:=X.size;omega),h.2⟩))) (fun v w h=>by obtain ⟨u,h1,h2⟩:=h;exact ⟨u,h1,fun _=>h2⟩))
  refine DagStepsG.cons (zCE.tup (U:=zAh) (zCp) (fun p y hp hw af h=>by
     rcases zBg h with ⟨rfl,h0⟩|h0
     ·exact Bool.noConfusion (show true=false from hw)
     rcases zBg h0 with ⟨rfl,h1⟩|h1
     ·exact absurd rfl af
     exact h1.elim)) (zCr.const) (fun S s' w' hi hN X U V H=>Or.inl ⟨zAL rfl,?_⟩) ?_
  ·replace X:=xM2 (hN 20 rfl) X;exact gX1 qD (zAW (zAl (v:=s' 26) rfl) (by obtain ⟨u,h1,h2⟩:=(H 15 rfl).2 26 (fun S s v w=>zKj 20 [(.bool ok)] (zEt ok c 20000 (zGY a b b.next.length) (zKd b b.next.length) (zHi a b b.next.length) n9) S s v w) rfl (by rw[ab];rfl);exact ⟨u,h1,fun _=>h2 (hN 20 rfl)⟩))
  refine DagStepsG.cons (zCE.till (U:=zAh) (zCp) (fun p y hp hw af hq h=>by
     rcases zBg h with ⟨rfl,h0⟩|h0
     ·exact Bool.noConfusion (show true=false from hw)
     rcases zBg h0 with ⟨rfl,h1⟩|h1
     ·exact absurd rfl af
     exact h1.elim)) (zCr.const) (fun S s' w' hi hN X U V H=>Or.inl ⟨zAL rfl,?_⟩) ?_
  ·replace X:=xM2 (hN 20 rfl) X;obtain ⟨u9,e9,g9⟩:=(H 16 rfl).2 10 (fun S s v w=>zKj 20 [(.bool ok)] (zEt ok c 20000 (zGY a b b.next.length) (zKd b b.next.length) (zHi a b b.next.length) n9) S s v w) rfl (by rw[ab];rfl);exact gX1 qD (zAW (zAa (vs:=(u9::[(.bool ok)]).toArray) (v:=u9) e9 rfl) (fun _=>g9 (hN 20 rfl)))
  refine DagStepsG.cons (zCE.eq) (zCr.const) (fun S s' w' hi hN X U V H=>Or.inl ⟨zAL rfl,?_⟩) ?_
  ·replace X:=X.mono (M':=(fun y=>(fun y=>n9≤y) y∨((fun y=>wf.heap.size≤y) y))) (fun y _ h=>by
     obtain ⟨j,hj,h⟩:=h;rcases zBg h with ⟨rfl,h0⟩|h0
     ·exact (Or.inl h0)
     rcases zBg h0 with ⟨rfl,h1⟩|h1
     ·exact (Or.inr h1)
     exact h1.elim)
   obtain ⟨u9,e9,_⟩:=(H 16 rfl).2 10 (fun S s v w=>zKj 20 [(.bool ok)] (zEt ok c 20000 (zGY a b b.next.length) (zKd b b.next.length) (zHi a b b.next.length) n9) S s v w) rfl (by rw[ab];rfl);exact gX1 qD (zAW (zAa (vs:=(u9::[(.bool ok)]).toArray) (v:=(.bool ok)) e9 rfl) rfl)
  refine DagStepsG.cons (zCE.till1 (U:=zAh) (zWb qD) (fun v w w' x h=>zIS _ _ _ v w w' x h) (fun p y hp af hw bu hq h=>by
     rcases zBg h with ⟨rfl,h0⟩|h0
     ·exact absurd rfl af
     rcases zBg h0 with ⟨rfl,h1⟩|h1
     ·exact absurd rfl bu
     exact h1.elim)) (zCr.const) (fun S s' w' hi hN X U V H=>Or.inl ⟨zAL rfl,?_⟩) ?_
  ·replace X:=xM2 (hN 20 rfl) X;exact gX1 qD (zCR (zEE (c:=#[(.int .i64 0),(.slice none 0 0),(.slice none 0 0)]) (hs:=wf.heap.size) zBf rfl (by have:=X0.size;have:=X.size;omega)) (R':=fun v w=>zMb S 19 20=false→(alF 34 #[(.int .i64 0),(.slice none 0 0),(.slice none 0 0)] wf.heap.size) v w) (fun _ _ h _=>h))
  refine DagStepsG.cons (zCE.put (zCp) (fun p y hp hw h=>by
     rcases zBg h with ⟨rfl,h0⟩|h0
     ·exact Bool.noConfusion (show true=false from hw)
     rcases zBg h0 with ⟨rfl,h1⟩|h1
     ·exact absurd rfl hp
     exact h1.elim)) (zCr.put (j:=19) rfl rfl) (fun S s' w' hi hN X U V H=>Or.inl ⟨zAL rfl,?_⟩) ?_
  ·replace X:=xM2 hi X;obtain ⟨b9,e9,B9,l9⟩:=((H 19 rfl).2 7 (fun S _ v w=>S 20=false→((alF 34 #[(.int .i64 0),(.slice none 0 0),(.slice none 0 0)] wf.heap.size)) v w) rfl (by rw[ab];rfl)) hi;have g9:=((H 17 rfl).2 27 (fun S _ v w=>S 20=false→(zEt ok c 20000 (zGY a b b.next.length) (zKd b b.next.length) (zHi a b b.next.length) n9) v w) rfl (by rw[ab];rfl)) hi;exact gX1 qD (zCR (zGw (n:=3) e9 rfl g9 B9 rfl zAe (zII) (zIH) (by first|exact .inl ⟨rfl,l9⟩|exact .inr (.inl ⟨rfl,l9⟩))) (fun v w h=>by obtain ⟨vs,h1,h2⟩:=h;exact ⟨b9,vs,e9,l9,h1,h2⟩))
  refine DagStepsG.tail ?_;exact DagStepsG.nil
 ·intro s' wd1 w1 X0 X1 U H;replace X1:=X1.mono (M':=(fun y=>(fun y=>n9≤y) y∨((fun y=>wf.heap.size≤y) y))) (fun y _ h=>by
    obtain ⟨j,hj,h⟩:=h;rcases zBg h with ⟨rfl,h0⟩|h0
    ·exact (Or.inl h0)
    rcases zBg h0 with ⟨rfl,h1⟩|h1
    ·exact (Or.inr h1)
    exact h1.elim)
  have b1:=H 18 rfl 28 _ rfl (by rw[ab];rfl);obtain ⟨b0,ba,bn,l54,ai,b4⟩:=(show ((fun S s v w=>zOt 7 wf.heap.size 34 (zEt ok c 20000 (zGY a b b.next.length) (zKd b b.next.length) (zHi a b b.next.length) n9) S s v w):zDE) (zNr [true,true,true,true,true,true,true,true,true,true,true,true,true,true,true,true,true,true,true,true,true,false]) s' (s' 54) w1 from H 20 rfl 54 (fun S s v w=>zOt 7 wf.heap.size 34 (zEt ok c 20000 (zGY a b b.next.length) (zKd b b.next.length) (zHi a b b.next.length) n9) S s v w) rfl (by rw[ab];rfl));obtain ⟨an,a8,a2,a4,a7,ba,cf,ci⟩:=b4;cases cf;obtain ⟨j1,rfl⟩:=zAz.out (σ:=s') (l:=[(4,(.pointer (some ⟨br,0,none⟩))),(28,(.bool ok)),(7,(.pointer (some ⟨b0,0,none⟩)))]) ⟨U 4 rfl,b1,bn,trivial⟩;clear U H;replace Bp:=Chg.keep X1 (fun h=>h.elim kH kH) (X0.keep Bp);replace Bq:=Chg.keep X1 (fun h=>h.elim kH kH) (X0.keep Bq);replace Br:=Chg.keep X1 (fun h=>h.elim kH kH) (X0.keep Br);replace Bf:=Chg.keep X1 (fun h=>h.elim kH kH) (X0.keep Bf);replace E:=(E.ext X0).step X1 (fun y hy h=>by first|omega|(dsimp only at h;omega));refine qA _ rfl (zAB (zAC ?_));rcases Bool.eq_false_or_eq_true (ok) with ag|ag
  ·have a5:=ag;obtain ⟨ak,a3⟩:=ci ag;refine zAH (zAA (qM _ rfl (qV (zCa rfl) ?_)));have a9:(!ok)=false:=by rw[ag];rfl
   refine zAB (zAP (cbk a9) (zAO (zAC (zAA (qV (zAK (vs:=[(I6 an.start),(.slice a8 an.accept.length a2),(.slice a4 an.next.length a7)]) rfl zAx zAe rfl (ai.cells rfl)) ?_)))));obtain ⟨az,ah⟩:∃az,az=(w1).heap.size:=⟨_,rfl⟩;have ao:w0.heap.size≤az∧br<az:=⟨by rw[ah];exact E.size,by rw[ah];exact Br.lt⟩;refine qE rfl (zAQ func37 kQ kQ rfl) (zGR _ an.next.length c an _ ak.ok a3.dfa ⟨by have:=ak.most;omega,hc⟩ ak.acc) ?_;rintro _ w99 ⟨⟨C,ca,cc,ma,mc,hC,hCl,bh,rfl,a0⟩,aj⟩;replace Bp:=aj.keep Bp;replace Bq:=aj.keep Bq;replace Br:=aj.keep Br;replace Bf:=aj.keep Bf;replace ai:=aj.keep ai;replace a3:=a3.ext aj;replace E:=E.ext aj;rw[←ah] at a0;refine zAb (b:=br) (o:=0) (c':=#[(I6 C.start),(.slice ca C.accept.length cc),(.slice ma C.next.length mc)]) rfl rfl qS zAe rfl Br qL rfl ?_;intro w3 S3;replace a0:=a0.chg S3.chg fun y h=>by have h':y=br:=h;omega
   replace Bp:=S3.keep qO Bp;replace Bq:=S3.keep qO Bq;replace Bf:=S3.keep qO Bf;replace ai:=S3.keep qO ai;replace E:=S3.step E qQ;replace Br:=S3.blk;refine qA _ rfl (zAB (zAV (zAu results154 (vs:=[(.int .i64 C.start),(.slice ca C.accept.length cc),(.slice ma C.next.length mc)]) (b:=br) (v':=(.bool true)) rfl zAx zAe rfl (Br.cells rfl) rfl ?_)));exact ⟨.inl ⟨hk.1 ag,⟨C,ca,cc,ma,mc,hC.congr (fun w hw=>by rw[ak.start,ak.beh w hw];exact zSm okb w),by have:=ak.most;omega,bh,rfl,a0.low ao.1⟩⟩,E⟩
  ·have a5:=ag;refine zAH (zAA (qM _ rfl (qV (zCa rfl) ?_)));have bb:(!ok)=true:=by rw[ag];rfl
   refine zAB (zAk (cbk bb) (zAA (qV (zBA (ps:=[]) (v:=(.agg #[(I6 0),(.slice none 0 0),(.slice none 0 0)])) rfl qK) (zAb (b:=br) (o:=0) (c':=#[(I6 0),(.slice none 0 0),(.slice none 0 0)]) rfl rfl qS zAe rfl Br qL rfl ?_))));intro w5 S5;replace Bp:=S5.keep qO Bp;replace Bq:=S5.keep qO Bq;replace Bf:=S5.keep qO Bf;replace ai:=S5.keep qO ai;replace E:=S5.step E qQ;replace Br:=S5.blk;refine qA _ rfl (zAB (zAV (zAU (zAu results154 (vs:=[(.int .i64 0),(.slice none 0 0),(.slice none 0 0)]) (b:=br) (v':=(.bool false)) rfl zAx zAe rfl (Br.cells rfl) rfl ?_))));exact ⟨.inr ⟨fun h=>(by rw[hk.2 h] at ag;cases ag),rfl⟩,E⟩
end Go.Proofs
namespace Go.Proofs
open Go Go.Eng Go.Sort
set_option maxRecDepth 100000
theorem zJm (w0 : World) (n m c : Nat) (a b : Dfa) (av bv : List Value) (both : Bool) (oka : OkD n c a) (okb : OkD m c b) (ha : zBk w0 a av) (hb : zBk w0 b bv) (hc : 1 ≤ c ∧ c ≤ 16) (hnM : n ≤ 20000 ∧ m ≤ 20000) (h1 : ∀ x ∈ a.accept, x < 2147483648) (h2 : ∀ x ∈ b.accept, x < 2147483648) :
  Ret prog 86 #[.agg av.toArray, .agg bv.toArray, .bool both] w0 fun r w => ((zIb c (zGX both a b) (a.start, b.start) 20000 ∧ zOm c (fun w => jnP both (beh a a.start w) (beh b b.start w)) w0.heap.size r w) ∨ (¬ zIb c (zGX both a b) (a.start, b.start) 20000 ∧ zVN r)) ∧ Ext w0 w := by
 have ha' := ha
 have hb' := hb
 have hal := oka.al
 have hbl := okb.al
 have hnl := oka.nl
 have hst := oka.st
 obtain ⟨aa, ac, na, nc, rfl, hacc, hnxt⟩ := ha'
 obtain ⟨aa2, ac2, na2, nc2, rfl, _, _⟩ := hb'
 obtain ⟨nb, no, rfl, hnx⟩ := zBs (n := a.next.length) hnxt (by omega)
 obtain ⟨row, hrow⟩ := zAN (l := a.next) (i := 0) (by omega)
 have hrl := (oka.row row (List.mem_of_getElem? hrow)).1
 obtain ⟨ra, rc, hcell, hri⟩ := hnx 0 row hrow
 rw [hrl] at hcell hri
 obtain ⟨ok, hk⟩ := zNk (zIb c (zGX both a b) (a.start, b.start) 20000)
 refine zDc func86 rfl ntmps86 (Nat.le_of_ble_eq_true rfl) ?_
 have E : Chg zAh w0 w0 := Chg.refl _ _
 refine zAA ?_
 refine zBQ (v := (.agg #[(I6 a.start), (.slice aa a.accept.length ac), (.slice (some ⟨nb, no, none⟩) a.next.length nc)])) (c := #[(I6 a.start), (.slice aa a.accept.length ac), (.slice (some ⟨nb, no, none⟩) a.next.length nc)]) (by decide) rfl rfl ?_
 intro bp wp Np
 have Fp := Np.ge E
 replace E := E.ext Np.ext
 have Bp := Np.blk
 refine zBQ (v := (.agg #[(I6 b.start), (.slice aa2 b.accept.length ac2), (.slice na2 b.next.length nc2)])) (c := #[(I6 b.start), (.slice aa2 b.accept.length ac2), (.slice na2 b.next.length nc2)]) (by decide) rfl rfl ?_
 intro bq wq Nq
 have Fq := Nq.ge E
 have Oq_bp := Nq.lt Bp
 replace Bp := Nq.keep Bp
 replace E := E.ext Nq.ext
 have Bq := Nq.blk
 refine zBQ (v := (.bool both)) (c := #[(.bool both)]) (by decide) rfl rfl ?_
 intro bf wf Nf
 have Ff := Nf.ge E
 have Of_bp := Nf.lt Bp
 have Of_bq := Nf.lt Bq
 replace Bp := Nf.keep Bp
 replace Bq := Nf.keep Bq
 replace E := E.ext Nf.ext
 have Bf := Nf.blk
 refine zBH (c := #[(I6 0), (.slice none 0 0), (.slice none 0 0)]) (by decide) zBf rfl ?_
 intro br wr Nr
 have Fr := Nr.ge E
 have Or_bp := Nr.lt Bp
 have Or_bq := Nr.lt Bq
 have Or_bf := Nr.lt Bf
 replace Bp := Nr.keep Bp
 replace Bq := Nr.keep Bq
 replace Bf := Nr.keep Bf
 replace E := E.ext Nr.ext
 have Br := Nr.blk
 refine qA _ rfl ?_
 refine zAB ?_
 obtain ⟨n9, hn9⟩ : ∃ n9, n9 = (wr).heap.size := ⟨_, rfl⟩
 have hz_1 : w0.heap.size ≤ wr.heap.size := E.size
 have lz_1_bp : bp < wr.heap.size := Bp.lt
 have lz_1_bq : bq < wr.heap.size := Bq.lt
 have lz_1_bf : bf < wr.heap.size := Bf.lt
 have lz_1_br : br < wr.heap.size := Br.lt
 refine zAH ?_
 obtain ⟨Fs1, hFs1⟩ : ∃ Fs : List zDE, Fs = [(eF (P6 bp 0)), (eF (I6 a.start)), (eF (P6 bq 0)), (eF (I6 b.start)), (eF (.agg #[(I6 a.start), (I6 b.start)])), (eF (P6 bp 2)), (eF (.slice (some ⟨nb, no, none⟩) a.next.length nc)), (eF (.pointer (some ⟨nb, no + 0, none⟩))), (eF (.slice ra c rc)), (eF (I6 (c : Int))), (eF (.func (.func 130) #[] #[(P6 bp 0), (P6 bq 0), (P6 bf 0)])), (eF (.func (.func 132) #[] #[(P6 bp 0), (P6 bq 0), (P6 bf 0)])), (fun S s v w => zKj 17 [(.bool ok)] (zEt ok c 20000 (zGX both a b) (zJZ both a b) (a.start, b.start) n9) S s v w), (fun S s v w => zKj 17 [(.bool ok)] (zEt ok c 20000 (zGX both a b) (zJZ both a b) (a.start, b.start) n9) S s v w), (fun S _ v w => S 17 = false → (zEt ok c 20000 (zGX both a b) (zJZ both a b) (a.start, b.start) n9) v w), (eF (.bool ok)), (fun S _ v w => S 17 = false → ((alF 34 #[(I6 0), (.slice none 0 0), (.slice none 0 0)] wr.heap.size)) v w), (fun S s v w => zOt 8 wr.heap.size 34 (zEt ok c 20000 (zGX both a b) (zJZ both a b) (a.start, b.start) n9) S s v w), (eF undef)] := ⟨_, rfl⟩
 refine zFM (MsL [(17, (fun y => wr.heap.size ≤ y))]) [true, true, true, true, true, true, true, true, true, true, true, true, true, true, true, true, true, true, false] [18] [11, 12, 13, 14, 15, 16, 17, 18, 19, 20, 21, 22, 23, 10, 24, 25, 8, 48, 49] [[], [0], [], [2], [1, 3], [], [5], [6], [7], [8], [], [], [4, 9, 10, 11], [12], [13], [13], [], [0, 1, 2, 3, 4, 5, 6, 7, 8, 9, 10, 11, 12, 13, 14, 16], []] [[], [0], [], [2], [1, 0, 3, 2], [], [5], [6, 5], [7, 6, 5], [8, 7, 6, 5], [], [], [4, 1, 0, 3, 2, 9, 8, 7, 6, 5, 10, 11], [12, 4, 1, 0, 3, 2, 9, 8, 7, 6, 5, 10, 11], [13, 12, 4, 1, 0, 3, 2, 9, 8, 7, 6, 5, 10, 11], [13, 12, 4, 1, 0, 3, 2, 9, 8, 7, 6, 5, 10, 11], [], [0, 1, 2, 3, 4, 5, 6, 7, 8, 9, 10, 11, 12, 13, 14, 16], []] Fs1 hFs1 (by kernel_rfl) mixed (by kernel_rfl) (by kernel_rfl) (by kernel_rfl) (by kernel_rfl) ?_ ?_
 ·intro wd X0
  refine qZ (fun S s' w' hi hN X U V H => ?_) ?_
  ·replace X := xN1 (hN 17 rfl) X
   exact zAW (zAZ (U 3 rfl) underlying34 rfl zAy rfl) rfl
  refine qZ (fun S s' w' hi hN X U V H => ?_) ?_
  ·replace X := xN1 (hN 17 rfl) X
   have e11 := (H 0 rfl).2 11 _ rfl (by rw [hFs1]; rfl)
   exact zAW (zAI e11 zAo (((X0.trans X).keep Bp).cell rfl)) rfl
  refine qZ (fun S s' w' hi hN X U V H => ?_) ?_
  ·replace X := xN1 (hN 17 rfl) X
   exact zAW (zAZ (U 4 rfl) underlying34 rfl zAy rfl) rfl
  refine qZ (fun S s' w' hi hN X U V H => ?_) ?_
  ·replace X := xN1 (hN 17 rfl) X
   have e13 := (H 2 rfl).2 13 _ rfl (by rw [hFs1]; rfl)
   exact zAW (zAI e13 zAo (((X0.trans X).keep Bq).cell rfl)) rfl
  refine qZ (fun S s' w' hi hN X U V H => ?_) ?_
  ·replace X := xN1 (hN 17 rfl) X
   have e12 := (H 1 rfl).2 12 _ rfl (by rw [hFs1]; rfl)
   have e14 := (H 3 rfl).2 14 _ rfl (by rw [hFs1]; rfl)
   exact zAW (zBA (ps := [(0, (I6 a.start)), (1, (I6 b.start))]) (v := (.agg #[(I6 a.start), (I6 b.start)])) (zXj e12 e14) (by kernel_rfl)) rfl
  refine qZ (fun S s' w' hi hN X U V H => ?_) ?_
  ·replace X := xN1 (hN 17 rfl) X
   exact zAW (zAZ (U 3 rfl) underlying34 rfl zBu rfl) rfl
  refine qZ (fun S s' w' hi hN X U V H => ?_) ?_
  ·replace X := xN1 (hN 17 rfl) X
   have e16 := (H 5 rfl).2 16 _ rfl (by rw [hFs1]; rfl)
   exact zAW (zAI e16 zBi (((X0.trans X).keep Bp).cell rfl)) rfl
  refine qZ (fun S s' w' hi hN X U V H => ?_) ?_
  ·replace X := xN1 (hN 17 rfl) X
   have e17 := (H 6 rfl).2 17 _ rfl (by rw [hFs1]; rfl)
   exact zAW (zAD (i := 0) e17 rfl rfl underlying32 zBL (by omega) (by omega)) rfl
  refine qZ (fun S s' w' hi hN X U V H => ?_) ?_
  ·replace X := xN1 (hN 17 rfl) X
   have e18 := (H 7 rfl).2 18 _ rfl (by rw [hFs1]; rfl)
   exact zAW (zAI e18 zBP ((Ext.trans E (X0.trans X)).cell hcell)) rfl
  refine qZ (fun S s' w' hi hN X U V H => ?_) ?_
  ·replace X := xN1 (hN 17 rfl) X
   have e19 := (H 8 rfl).2 19 _ rfl (by rw [hFs1]; rfl)
   exact zAW (zAJ underlying22 e19) rfl
  refine qZ (fun S s' w' hi hN X U V H => ?_) ?_
  ·replace X := xN1 (hN 17 rfl) X
   exact zAW (zBV rfl (zVK (U 3 rfl) (U 4 rfl) (U 5 rfl))) rfl
  refine qZ (fun S s' w' hi hN X U V H => ?_) ?_
  ·replace X := xN1 (hN 17 rfl) X
   exact zAW (zBV rfl (zVK (U 3 rfl) (U 4 rfl) (U 5 rfl))) rfl
  refine DagStepsS.cons (zCP.tup (U := zAh) (zCp) (fun p y hp hw hpc h => by
     rcases zBg h with ⟨rfl, h0⟩ | h0
     ·exact absurd rfl hpc
     exact h0.elim)) (zCr.const) (fun S s' w' hi hN X U V H => Or.inl ⟨zAL rfl, ?_⟩) ?_
  ·replace X := xN1 (hN 17 rfl) X
   have e15 := (H 4 rfl).2 15 _ rfl (by rw [hFs1]; rfl)
   have e20 := (H 9 rfl).2 20 _ rfl (by rw [hFs1]; rfl)
   have e21 := (H 10 rfl).2 21 _ rfl (by rw [hFs1]; rfl)
   have e22 := (H 11 rfl).2 22 _ rfl (by rw [hFs1]; rfl)
   exact zCR (zCF (zAQ func129 kQ kQ (zXI e15 e20 e21 e22 rfl)) (R := fun v w => ∃ u, v = .tuple (u :: [(.bool ok)]).toArray ∧ (zEt ok c 20000 (zGX both a b) (zJZ both a b) (a.start, b.start) n9) u w) ((zUg _ (a.start, b.start) c 20000 _ _ (zGX both a b) (zJZ both a b) hc (by decide) (fun k _ => zSt oka okb h1 h2 k) (fun w k x hE hr hx => zCG.mk (first := #[]) (cap := #[.pointer (some ⟨bp, 0, none⟩), .pointer (some ⟨bq, 0, none⟩), .pointer (some ⟨bf, 0, none⟩)]) func130 kQ kQ rfl ((zRf w n m c a b _ _ both bp bq bf k x oka okb (ha.ext (Ext.trans E ((X0.trans X).trans hE))) (hb.ext (Ext.trans E ((X0.trans X).trans hE))) (((X0.trans X).trans hE).keep Bp) (((X0.trans X).trans hE).keep Bq) (((X0.trans X).trans hE).keep Bf) ⟨(zGC oka okb hr).1.2, (zGC oka okb hr).2.2⟩ hx).mono fun v w2 h => ⟨⟨(toD a k.1 x, toD b k.2 x), by rw [(zMu both a b k x).1]; exact h.1, (zMu both a b k x).2⟩, h.2⟩)) (fun w k hE hr => zCG.mk (first := #[]) (cap := #[.pointer (some ⟨bp, 0, none⟩), .pointer (some ⟨bq, 0, none⟩), .pointer (some ⟨bf, 0, none⟩)]) func132 kQ kQ rfl (zRe w n m c a b _ _ both bp bq bf k oka okb (ha.ext (Ext.trans E ((X0.trans X).trans hE))) (hb.ext (Ext.trans E ((X0.trans X).trans hE))) (((X0.trans X).trans hE).keep Bp) (((X0.trans X).trans hE).keep Bq) (((X0.trans X).trans hE).keep Bf) ⟨(zGC oka okb hr).1.2, (zGC oka okb hr).2.2⟩))).mono (fun v w h => ⟨zMe h.1 hk (by have := X0.size; have := X.size; omega), h.2⟩))) (fun v w h => by obtain ⟨u, h1, h2⟩ := h; exact ⟨u, h1, fun _ => h2⟩)
  refine DagStepsS.cons (zCP.tup (U := zAh) (zCp) (fun p y hp hw hpc h => by
     rcases zBg h with ⟨rfl, h0⟩ | h0
     ·exact absurd rfl hpc
     exact h0.elim)) (zCr.const) (fun S s' w' hi hN X U V H => Or.inl ⟨zAL rfl, ?_⟩) ?_
  ·replace X := xN1 (hN 17 rfl) X
   exact zAW (zAl rfl) (by obtain ⟨u, h1, h2⟩ := (H 12 rfl).2 23 (fun S s v w => zKj 17 [(.bool ok)] (zEt ok c 20000 (zGX both a b) (zJZ both a b) (a.start, b.start) n9) S s v w) rfl (by rw [hFs1]; rfl); exact ⟨u, h1, fun _ => h2 (hN 17 rfl)⟩)
  refine DagStepsS.cons (zCP.till (U := zAh) (zCp) (fun p y hp hw hpc h => by
     rcases zBg h with ⟨rfl, h0⟩ | h0
     ·exact absurd rfl hpc
     exact h0.elim)) (zCr.const) (fun S s' w' hi hN X U V H => Or.inl ⟨zAL rfl, ?_⟩) ?_
  ·replace X := xN1 (hN 17 rfl) X
   obtain ⟨u9, e9, g9⟩ := (H 13 rfl).2 10 (fun S s v w => zKj 17 [(.bool ok)] (zEt ok c 20000 (zGX both a b) (zJZ both a b) (a.start, b.start) n9) S s v w) rfl (by rw [hFs1]; rfl)
   exact zAW (zAa e9 rfl) (fun _ => g9 (hN 17 rfl))
  refine qZ (fun S s' w' hi hN X U V H => ?_) ?_
  ·replace X := xM1 X
   obtain ⟨u9, e9, _⟩ := (H 13 rfl).2 10 (fun S s v w => zKj 17 [(.bool ok)] (zEt ok c 20000 (zGX both a b) (zJZ both a b) (a.start, b.start) n9) S s v w) rfl (by rw [hFs1]; rfl)
   exact zAW (zAa e9 rfl) rfl
  refine DagStepsS.cons (zCP.till (U := zAh) (fun v w w' x h => zIS _ _ _ v w w' x h) (fun p y hp hw hpc h => by
     rcases zBg h with ⟨rfl, h0⟩ | h0
     ·exact absurd rfl hpc
     exact h0.elim)) (zCr.const) (fun S s' w' hi hN X U V H => Or.inl ⟨zAL rfl, ?_⟩) ?_
  ·replace X := xN1 (hN 17 rfl) X
   exact zCR (zEE (c := #[(I6 0), (.slice none 0 0), (.slice none 0 0)]) (hs := wr.heap.size) zBf rfl (by have := X0.size; have := X.size; omega)) (R' := fun v w => zMb S 16 17 = false → (alF 34 #[(I6 0), (.slice none 0 0), (.slice none 0 0)] wr.heap.size) v w) (fun _ _ h _ => h)
  refine DagStepsS.cons (zCP.put (zCp) (fun p y hp hw h => by
     rcases zBg h with ⟨rfl, h0⟩ | h0
     ·exact absurd rfl hp
     exact h0.elim)) (zCr.put (j := 16) rfl rfl) (fun S s' w' hi hN X U V H => Or.inl ⟨zAL rfl, ?_⟩) ?_
  ·replace X := xN1 hi X
   obtain ⟨b9, e9, B9, l9⟩ := ((H 16 rfl).2 8 (fun S _ v w => S 17 = false → ((alF 34 #[(.int .i64 0), (.slice none 0 0), (.slice none 0 0)] wr.heap.size)) v w) rfl (by rw [hFs1]; rfl)) hi
   have g9 := ((H 14 rfl).2 24 (fun S _ v w => S 17 = false → (zEt ok c 20000 (zGX both a b) (zJZ both a b) (a.start, b.start) n9) v w) rfl (by rw [hFs1]; rfl)) hi
   exact zCR (zGw (n := 3) e9 rfl g9 B9 rfl zAe (zII) (zIH) (by first | exact .inl ⟨rfl, l9⟩ | exact .inr (.inl ⟨rfl, l9⟩))) (fun v w h => by obtain ⟨vs, h1, h2⟩ := h; exact ⟨b9, vs, e9, l9, h1, h2⟩)
  refine DagStepsS.tail ?_
  exact DagStepsS.nil
 ·intro s' wd1 w1 X0 X1 U H
  replace X1 := X1.mono (M' := (fun y => (fun y => wr.heap.size ≤ y) y)) (fun y _ h => by
    obtain ⟨j, hj, h⟩ := h
    rcases zBg h with ⟨rfl, h0⟩ | h0
    ·exact h0
    exact h0.elim)
  have e25 := H 15 rfl 25 _ rfl (by rw [hFs1]; rfl)
  obtain ⟨b48, vs48, e48, l48, B48, g48⟩ := (show ((fun S s v w => zOt 8 wr.heap.size 34 (zEt ok c 20000 (zGX both a b) (zJZ both a b) (a.start, b.start) n9) S s v w) : zDE) (zNr [true, true, true, true, true, true, true, true, true, true, true, true, true, true, true, true, true, true, false]) s' (s' 48) w1 from H 17 rfl 48 (fun S s v w => zOt 8 wr.heap.size 34 (zEt ok c 20000 (zGX both a b) (zJZ both a b) (a.start, b.start) n9) S s v w) rfl (by rw [hFs1]; rfl))
  obtain ⟨D48, ea48, ec48, na48, nc48, vs48, q48, p48⟩ := g48
  cases q48
  obtain ⟨j1, rfl⟩ := zAz.out (σ := s') (l := [(6, (.pointer (some ⟨br, 0, none⟩))), (25, (.bool ok)), (8, (.pointer (some ⟨b48, 0, none⟩)))]) ⟨U 6 rfl, e25, e48, trivial⟩
  clear U H
  replace Bp := Chg.keep X1 kH (X0.keep Bp)
  replace Bq := Chg.keep X1 kH (X0.keep Bq)
  replace Bf := Chg.keep X1 kH (X0.keep Bf)
  replace Br := Chg.keep X1 kH (X0.keep Br)
  replace E := (E.ext X0).step X1 (fun y hy h => by first | omega | (dsimp only at h; omega))
  refine qA _ rfl ?_
  refine zAB (zAC ?_)
  rcases Bool.eq_false_or_eq_true (ok) with hok | hok
  ·have khok := hok
   obtain ⟨hP9, hO9⟩ := p48 hok
   refine zAH (zAA ?_)
   refine qM _ rfl ?_
   refine qV (zCa rfl) ?_
   have hk_2 : (!ok) = false := by rw [hok]; rfl
   refine zAB ?_
   refine zAP (congrArg Value.bool hk_2) ?_
   refine zAO (zAC (zAA ?_))
   refine qV (zAK (vs := [(I6 D48.start), (.slice ea48 D48.accept.length ec48), (.slice na48 D48.next.length nc48)]) rfl zAx zAe rfl (B48.cells rfl)) ?_
   obtain ⟨n10, hn10⟩ : ∃ n10, n10 = (w1).heap.size := ⟨_, rfl⟩
   have hn10b : w0.heap.size ≤ n10 ∧ br < n10 := ⟨by rw [hn10]; exact E.size, by rw [hn10]; exact Br.lt⟩
   refine zEf rfl rfl (by decide) (zAQ func37 kQ kQ rfl) (zGR _ D48.next.length c D48 _ hP9.ok hO9.dfa ⟨by have := hP9.most; omega, hc⟩ hP9.acc) ?_
   rintro _ w99 ⟨⟨C, ca, cc, ma, mc, hC, hCl, hCa, rfl, hCN⟩, X99⟩
   replace Bp := X99.keep Bp
   replace Bq := X99.keep Bq
   replace Bf := X99.keep Bf
   replace Br := X99.keep Br
   replace B48 := X99.keep B48
   replace hO9 := hO9.ext X99
   replace E := E.ext X99
   rw [← hn10] at hCN
   refine zAb (b := br) (o := 0) (c' := #[(I6 C.start), (.slice ca C.accept.length cc), (.slice ma C.next.length mc)]) rfl rfl (by simp [Value.oneCell']) zAe rfl Br (by first | (simp; done) | exact Nat.le_of_ble_eq_true rfl) rfl ?_
   intro w3 S3
   replace hCN := hCN.chg S3.chg fun y h => by have h' : y = br := h; omega
   replace Bp := S3.keep (by omega) Bp
   replace Bq := S3.keep (by omega) Bq
   replace Bf := S3.keep (by omega) Bf
   replace B48 := S3.keep (by omega) B48
   replace E := S3.step E (by first | exact Or.inl (by omega) | exact Or.inr rfl | exact Or.inr (by assumption) | exact Or.inr (by simp) | exact Or.inr (by omega) | exact Or.inr (by dsimp only; omega))
   replace Br := S3.blk
   refine qA _ rfl ?_
   refine zAB (zAV ?_)
   refine zAu results86 (vs := [(.int .i64 C.start), (.slice ca C.accept.length cc), (.slice ma C.next.length mc)]) (b := br) (v' := (.bool true)) rfl zAx zAe rfl (Br.cells rfl) rfl ?_
   exact ⟨.inl ⟨hk.1 hok, ⟨C, ca, cc, ma, mc, hC.congr (fun w hw => by rw [hP9.start, hP9.beh w hw]; exact zJV both a b w (a.start, b.start)), by have := hP9.most; omega, hCa, rfl, hCN.low hn10b.1⟩⟩, E⟩
  ·have khok := hok
   refine zAH (zAA ?_)
   refine qM _ rfl ?_
   refine qV (zCa rfl) ?_
   have hk_4 : (!ok) = true := by rw [hok]; rfl
   refine zAB ?_
   refine zAk (congrArg Value.bool hk_4) ?_
   refine zAA ?_
   refine qV (zBA (ps := []) (v := (.agg #[(I6 0), (.slice none 0 0), (.slice none 0 0)])) rfl (by kernel_rfl)) ?_
   refine zAb (b := br) (o := 0) (c' := #[(I6 0), (.slice none 0 0), (.slice none 0 0)]) rfl rfl (by simp [Value.oneCell']) zAe rfl Br (by first | (simp; done) | exact Nat.le_of_ble_eq_true rfl) rfl ?_
   intro w5 S5
   replace Bp := S5.keep (by omega) Bp
   replace Bq := S5.keep (by omega) Bq
   replace Bf := S5.keep (by omega) Bf
   replace B48 := S5.keep (by omega) B48
   replace E := S5.step E (by first | exact Or.inl (by omega) | exact Or.inr rfl | exact Or.inr (by assumption) | exact Or.inr (by simp) | exact Or.inr (by omega) | exact Or.inr (by dsimp only; omega))
   replace Br := S5.blk
   refine qA _ rfl ?_
   refine zAB (zAV (zAU ?_))
   refine zAu results86 (vs := [(.int .i64 0), (.slice none 0 0), (.slice none 0 0)]) (b := br) (v' := (.bool false)) rfl zAx zAe rfl (Br.cells rfl) rfl ?_
   exact ⟨.inr ⟨fun h => (by rw [hk.2 h] at hok; cases hok), rfl⟩, E⟩
end Go.Proofs
namespace Go.Proofs
open Go Go.Eng Go.Sort
set_option maxRecDepth 100000
section
variable {P : Program} {σ : Env} {w : World} {dst : Option Tmp} {ty : TypeId} {pos : String} {af : Array Edge} {g : Option (Nat × Bool)} {t t' : TypeId} {x y : Operand}
theorem zPg {a b:ByteArray} (hx:ev σ x=.string a) (hy:ev σ y=.string b):(execOp (ev σ) ⟨dst,.binOp .eql t x y t',ty,pos,af,g⟩).run P w=.ok (.value (.bool (decide (a=b)))) w:=by
 have h:(a.toList == b.toList)=decide (a=b):=by
  by_cases e:a=b
  ·rw[decide_eq_true e,(Lib.bytes_beq_iff a b).2 e]
  ·rw[decide_eq_false e,(Lib.bytes_beq_false_iff a b).2 e]
 simp only[execOp,hx,hy,eqGuard,binOp];simp[Op.stringOp,h]
theorem zRb {a b:ByteArray} (hx:ev σ x=.string a) (hy:ev σ y=.string b) (h:a.size+b.size≤9223372036854775807):(execOp (ev σ) ⟨dst,.binOp .add t x y t',ty,pos,af,g⟩).run P w=.ok (.value (.string (a++b))) w:=by
 simp only[execOp,hx,hy,eqGuard,binOp];simp[run_string_add_sum w a b h]
end
theorem zSN {a:Dfa} {n:Nat} {M:Nat→Bool} (h:zLs a n (zDs n M)=true):(fun q=>M q || decide (((q:Nat):Int)=a.start))=zLc a n M:=funext fun q=>by
 unfold zLc;rw[h,Bool.true_and]
theorem zUl {a:Dfa} {n:Nat} {M:Nat→Bool} (h:zLs a n (zDs n M)=false):M=zLc a n M:=funext fun q=>by
 unfold zLc;rw[h,Bool.false_and,Bool.or_false]
theorem zPJ (w0:World) (n c:Nat) (a:Dfa) (av:List Value) (ba g:Nat) (M:Nat→Bool) (oka:OkD n c a) (ha:zBk w0 a av) (hBa:Blk w0 ba av.toArray 34) (hG:Blk w0 g (zJA n M) 5) (hn:n≤20000) (hg:g≠ba) :
  Ret prog 185 #[.slice (some ⟨g,0,none⟩) ((n+7) / 8) ((n+7) / 8),.pointer (some ⟨ba,0,none⟩)] w0 fun v w=>v=.string (zDs n (zLc a n M))∧Chg (fun y=>y=g) w0 w:=by
 have hst:=oka.st;have hgl:=hG.lt;have af:=hBa.lt;have ag:=ha;obtain ⟨aa,ac,na,nc,rfl,_,_⟩:=ag;refine zDc func185 rfl ntmps185 (leT rfl) ?_;have E:Chg (fun y=>y=g) w0 w0:=Chg.refl _ _;refine zAA (qA _ rfl (zAB (zAH (zAA (qV (zAK (vs:=[(I6 a.start),(.slice aa a.accept.length ac),(.slice na a.next.length nc)]) rfl zAx zAe rfl (hBa.cells rfl)) (qM _ rfl (qV (zCf (l:=zIj n M) underlying69 underlying5 underlying203 rfl hG (zDn n _)) (qE rfl (zAQ func184 kQ kQ rfl) (zIT _ n c a _ (zDs n M) oka (ha) hn (zCl n M)) ?_))))))));rintro _ w9 ⟨rfl,X9⟩;replace hBa:=X9.keep hBa;replace hG:=X9.keep hG;replace E:=E.ext X9;refine zAB (zBD rfl (fun h0=>?_) (fun h0=>?_))
 ·have ae:=h0;refine zAF (qM _ rfl (qF ba 0 0 rfl underlying34 rfl zAy rfl (qV (zAI rfl zAo (hBa.cell rfl)) (qE rfl (zAQ func178 kQ kQ rfl) (zRC _ n g a.start M qO hG qO) ?_))));rintro _ w19 ⟨rfl,ad,ab⟩;replace hBa:=ad.keep qO hBa;replace E:=E.step ad (by intro x hx hm;omega);rw[zSN h0] at ab;refine zAB (zAC (zAA (qM _ rfl (qV (zCf (l:=zIj n (zLc a n M)) underlying69 underlying5 underlying203 rfl ab (zDn n _)) (qA _ rfl (zAB (zAV (zAY results185 (v:=(.string (zDs n (zLc a n M)))) rfl ?_))))))));exact ⟨rfl,E⟩
 ·have ae:=h0;have ab:=hG;rw[zUl (a:=a) (n:=n) (M:=M) h0] at ab;refine zAO (zAC (zAA (qM _ rfl (qV (zCf (l:=zIj n (zLc a n M)) underlying69 underlying5 underlying203 rfl ab (zDn n _)) (qA _ rfl (zAB (zAV (zAY results185 (v:=(.string (zDs n (zLc a n M)))) rfl ?_))))))));exact ⟨rfl,E⟩
theorem zMt (a:Dfa) (n:Nat) (bg k k':ByteArray) (x:Nat) (hk:k'=if k=bg then zFm a n else k):(zGW a n bg k x).isSome=zEI a n k' x∧∀q,zGW a n bg k x=some q→zDs n (zLc a n (zIe a n k' x))=q:=by
 unfold zGW;simp only[←hk];by_cases h:zEI a n k' x=true
 ·rw[if_pos h,h];exact ⟨rfl,fun q e=>Option.some.inj e⟩
 ·rw[if_neg h];exact ⟨by simpa using h,fun q e=>by cases e⟩
theorem zTu (w0:World) (n c:Nat) (a:Dfa) (av:List Value) (ba be bb bf gf x:Nat) (k bg:ByteArray) (oka:OkD n c a) (ha:zBk w0 a av) (hBa:Blk w0 ba av.toArray 34) (hBb:Blk w0 bb #[.string bg] 9) (hBf:Blk w0 bf #[.slice (some ⟨gf,0,none⟩) ((n+7) / 8) ((n+7) / 8)] 69) (hGf:Blk w0 gf (zJA n fun q=>decide (((q:Nat):Int)=a.start)) 5) (hBe:Blk w0 be #[.func (.func 185) #[] #[.pointer (some ⟨ba,0,none⟩)]] 215) (hn:n≤20000) (hk:k=bg∨k.size=(n+7) / 8) (hx:x<c) (hc:c≤16) :
  Ret prog 186 #[.string k,.int .i64 ((x:Nat):Int),.pointer (some ⟨bb,0,none⟩),.pointer (some ⟨bf,0,none⟩),.pointer (some ⟨ba,0,none⟩),.pointer (some ⟨be,0,none⟩)] w0 fun v w=>(∃q:ByteArray,v=.tuple #[.string q,.bool (zGW a n bg k x).isSome]∧∀r,zGW a n bg k x=some r→q=r)∧Ext w0 w:=by
 have al:=ha;obtain ⟨aa,ac,na,nc,rfl,_,_⟩:=al;have ae:=hBa.lt;have af:=hBb.lt;have ai:=hBf.lt;have ag:=hGf.lt;have am:=hBe.lt;refine qR func186 rfl ntmps186 rfl (fun E=>(zAA (qA _ rfl (qA _ rfl (zAB (zAH (zAA (qM _ rfl (qV (zAI rfl zQX (hBb.cell rfl)) (zBo (v:=(.bool (decide (k=bg)))) rfl rfl qD (zPg rfl rfl) (zAB (qC rfl (fun h0=>?_) (fun h0=>?_)))))))))))))
 ·refine zAF (qV (zAI rfl zQY (hBf.cell rfl)) (qV (zCf (l:=zIj n fun q=>decide ((q:Int)=a.start)) underlying69 underlying5 underlying9 rfl hGf (zDn n _)) (qA _ rfl (zAB (zAC (zAA (qV (zAK (vs:=[(I6 a.start),(.slice aa a.accept.length ac),(.slice na a.next.length nc)]) rfl zAx zAe rfl (hBa.cells rfl)) (qM _ rfl (qM _ rfl ?_)))))))));obtain ⟨h1,h2⟩:=zMt a n bg k (zFm a n) x (by rw[if_pos h0]);have aj:=E.size;refine qE rfl (zAQ func182 kQ kQ rfl) (zMC _ n c x a _ (zFm a n) oka (ha.ext E) hn (zCl n _) hx hc) ?_;rintro _ ao ⟨⟨g,rfl,hG,ak⟩,ad⟩;replace hBa:=ad.keep hBa;replace hBb:=ad.keep hBb;replace hBf:=ad.keep hBf;replace hGf:=ad.keep hGf;replace hBe:=ad.keep hBe;replace E:=E.ext ad;refine qM _ rfl (qV (zAa rfl rfl) (qV (zAa rfl rfl) (qA _ rfl (qA _ rfl (zAB (zAA (qV (zAI rfl zQZ (hBe.cell rfl)) (qM _ rfl (qE rfl (zDL rfl func185 kQ kQ rfl rfl) (zPJ _ n c a _ ba g (zIe a n (zFm a n) x) oka (ha.ext E) hBa hG hn qO) ?_)))))))));rintro _ ah ⟨rfl,ab⟩;replace hBa:=ab.keep qO hBa;replace hBb:=ab.keep qO hBb;replace hBf:=ab.keep qO hBf;replace hGf:=ab.keep qO hGf;replace hBe:=ab.keep qO hBe;replace E:=E.step ab (by intro x hx hm;omega);refine qM _ rfl (qA _ rfl (qA _ rfl (zAB (zAV (zCO results186 (v:=(.string (zDs n (zLc a n (zIe a n (zFm a n) x))))) (v':=(.bool (zEI a n (zFm a n) x))) rfl rfl ?_)))));exact ⟨⟨zDs n (zLc a n (zIe a n (zFm a n) x)),by rw[h1],h2⟩,E⟩
 ·have an:k.size=(n+7) / 8:=hk.resolve_left h0;obtain ⟨h1,h2⟩:=zMt a n bg k k x (by rw[if_neg h0]);have aj:=E.size;refine zAO (zAC (zAA (qV (zAK (vs:=[(I6 a.start),(.slice aa a.accept.length ac),(.slice na a.next.length nc)]) rfl zAx zAe rfl (hBa.cells rfl)) (qM _ rfl (qM _ rfl (qE rfl (zAQ func182 kQ kQ rfl) (zMC _ n c x a _ k oka (ha.ext E) hn an hx hc) ?_))))));rintro _ ao ⟨⟨g,rfl,hG,ak⟩,ad⟩;replace hBa:=ad.keep hBa;replace hBb:=ad.keep hBb;replace hBf:=ad.keep hBf;replace hGf:=ad.keep hGf;replace hBe:=ad.keep hBe;replace E:=E.ext ad;refine qM _ rfl (qV (zAa rfl rfl) (qV (zAa rfl rfl) (qA _ rfl (qA _ rfl (zAB (zAA (qV (zAI rfl zQZ (hBe.cell rfl)) (qM _ rfl (qE rfl (zDL rfl func185 kQ kQ rfl rfl) (zPJ _ n c a _ ba g (zIe a n k x) oka (ha.ext E) hBa hG hn qO) ?_)))))))));rintro _ ah ⟨rfl,ab⟩;replace hBa:=ab.keep qO hBa;replace hBb:=ab.keep qO hBb;replace hBf:=ab.keep qO hBf;replace hGf:=ab.keep qO hGf;replace hBe:=ab.keep qO hBe;replace E:=E.step ab (by intro x hx hm;omega);refine qM _ rfl (qA _ rfl (qA _ rfl (zAB (zAV (zCO results186 (v:=(.string (zDs n (zLc a n (zIe a n k x))))) (v':=(.bool (zEI a n k x))) rfl rfl ?_)))));exact ⟨⟨zDs n (zLc a n (zIe a n k x)),by rw[h1],h2⟩,E⟩
theorem zTt (w0:World) (n c:Nat) (a:Dfa) (av:List Value) (ba bb:Nat) (k bg:ByteArray) (oka:OkD n c a) (ha:zBk w0 a av) (hBa:Blk w0 ba av.toArray 34) (hBb:Blk w0 bb #[.string bg] 9) (hn:n≤20000) (hk:k=bg∨k.size=(n+7) / 8) :
  Ret prog 187 #[.string k,.pointer (some ⟨bb,0,none⟩),.pointer (some ⟨ba,0,none⟩)] w0 fun v w=>v=.int .i64 (zIk a n bg k)∧Ext w0 w:=by
 have ae:=ha;obtain ⟨aa,ac,na,nc,rfl,_,_⟩:=ae;refine qR func187 rfl ntmps187 rfl (fun E=>(zAA (qA _ rfl (zAB (zAA (qM _ rfl (qV (zAI rfl zQX (hBb.cell rfl)) (zBo (v:=(.bool (decide (k=bg)))) rfl rfl qD (zPg rfl rfl) (qM _ rfl ?_)))))))));rcases Bool.eq_false_or_eq_true (decide (k=bg)) with h0|h0
 ·have ad:=h0;replace ad:=of_decide_eq_true ad;refine zAM rfl rfl qD (v:=.bool true) (cbk h0) (Or.inl rfl) (zAM rfl rfl qD (v:=.bool true) (cbk h0) (Or.inl rfl) (zAM rfl rfl qD (v:=.bool true) (cbk h0) (Or.inl rfl) (qV (zAr (v:=(.bool true)) rfl (by rw[h0];rfl)) (qE rfl (zAQ func88 kQ kQ rfl) (zGM true _) ?_))));rintro _ af ⟨rfl,ab⟩;replace hBa:=ab.keep hBa;replace hBb:=ab.keep hBb;replace E:=E.ext ab;refine qA _ rfl (zAB (zAV (zAY results187 (v:=(.int .i64 (if true=true then 0 else -1))) rfl ?_)));exact ⟨by unfold zIk zKG;rw[h0,Bool.true_or],E⟩
 ·have ad:=h0;replace ad:=of_decide_eq_false ad;refine zAG rfl rfl qD (cbk h0) (qV (zAK (vs:=[(I6 a.start),(.slice aa a.accept.length ac),(.slice na a.next.length nc)]) rfl zAx zAe rfl (hBa.cells rfl)) (zAG rfl rfl qD (cbk h0) (qM _ rfl (zAG rfl rfl qD (cbk h0) (qE rfl (zAQ func184 kQ kQ rfl) (zIT _ n c a _ k oka (ha.ext E) hn (hk.resolve_left ad)) ?_)))));rintro _ w9 ⟨rfl,X9⟩;replace hBa:=X9.keep hBa;replace hBb:=X9.keep hBb;replace E:=E.ext X9;refine qV (zAr (v:=(.bool (zLs a n k))) rfl (by rw[h0];rfl)) (qE rfl (zAQ func88 kQ kQ rfl) (zGM (zLs a n k) _) ?_);rintro _ af ⟨rfl,ab⟩;replace hBa:=ab.keep hBa;replace hBb:=ab.keep hBb;replace E:=E.ext ab;refine qA _ rfl (zAB (zAV (zAY results187 (v:=(.int .i64 (if zLs a n k=true then 0 else -1))) rfl ?_)));exact ⟨by unfold zIk zKG;rw[h0,Bool.false_or],E⟩
open Classical in
noncomputable def starB (a:Dfa) (w:List Nat):Int:=if StarW (beh a a.start) w then 0 else -1
def zDh (a:Dfa) (n:Nat):ByteArray:=(⟨#[98,101,103,105,110]⟩:ByteArray)++zFm a n
theorem zQx (a:Dfa) (n:Nat):(zDh a n).size=5+(n+7) / 8:=by
 unfold zDh zFm;rw[ByteArray.size_append,zCl];rfl
theorem zTs (w0 : World) (n c : Nat) (a : Dfa) (av : List Value) (oka : OkD n c a) (ha : zBk w0 a av) (hc : 1 ≤ c ∧ c ≤ 16) (hn : n ≤ 20000) :
  Ret prog 155 #[.agg av.toArray] w0 fun r w => ((zIb c (zGW a n (zDh a n)) (zDh a n) 20000 ∧ zOm c (starB a) w0.heap.size r w) ∨ (¬ zIb c (zGW a n (zDh a n)) (zDh a n) 20000 ∧ zVN r)) ∧ Ext w0 w := by
 have ha' := ha
 have hal := oka.al
 have hnl := oka.nl
 have hst := oka.st
 have hbg : (zDh a n).size ≠ (n + 7) / 8 := by rw [zQx]; omega
 obtain ⟨aa, ac, na, nc, rfl, hacc, hnxt⟩ := ha'
 obtain ⟨nb, no, rfl, hnx⟩ := zBs (n := a.next.length) hnxt (by omega)
 obtain ⟨row, hrow⟩ := zAN (l := a.next) (i := 0) (by omega)
 have hrl := (oka.row row (List.mem_of_getElem? hrow)).1
 obtain ⟨ra, rc, hcell, hri⟩ := hnx 0 row hrow
 rw [hrl] at hcell hri
 subst hnl
 obtain ⟨ok, hk⟩ := zNk (zIb c (zGW a a.next.length (zDh a a.next.length)) (zDh a a.next.length) 20000)
 refine zDc func155 rfl ntmps155 (Nat.le_of_ble_eq_true rfl) ?_
 have E : Chg zAh w0 w0 := Chg.refl _ _
 refine zAA ?_
 refine zBQ (v := (.agg #[(I6 a.start), (.slice aa a.accept.length ac), (.slice (some ⟨nb, no, none⟩) a.next.length nc)])) (c := #[(I6 a.start), (.slice aa a.accept.length ac), (.slice (some ⟨nb, no, none⟩) a.next.length nc)]) (by decide) rfl rfl ?_
 intro bp wp Np
 have Fp := Np.ge E
 replace E := E.ext Np.ext
 have Bp := Np.blk
 refine zBH (c := #[(I6 0), (.slice none 0 0), (.slice none 0 0)]) (by decide) zBf rfl ?_
 intro br wr Nr
 have Fr := Nr.ge E
 have Or_bp := Nr.lt Bp
 replace Bp := Nr.keep Bp
 replace E := E.ext Nr.ext
 have Br := Nr.blk
 refine qA _ rfl ?_
 refine zAB (zAA ?_)
 refine qV (zBV rfl rfl) ?_
 refine zAd (v := (.func (.func 185) #[] #[(P6 bp 0)])) (c := #[(.func (.func 185) #[] #[(P6 bp 0)])]) (n := 1) (by decide) zVP rfl zVe rfl rfl rfl (by simp [Value.oneCell']) ?_
 intro be we Ne
 have Fe := Ne.ge E
 have Oe_bp := Ne.lt Bp
 have Oe_br := Ne.lt Br
 replace Bp := Ne.keep Bp
 replace Br := Ne.keep Br
 replace E := E.ext Ne.ext
 have Be := Ne.blk
 refine zAB (zAA ?_)
 refine qF bp 0 2 rfl underlying34 rfl zBu rfl ?_
 refine qV (zAI rfl zBi (Bp.cell rfl)) ?_
 refine qV (zAJ underlying32 rfl) ?_
 have hlt : bp < (we).heap.size ∧ br < (we).heap.size ∧ be < (we).heap.size ∧ w0.heap.size ≤ (we).heap.size := ⟨Bp.lt, Br.lt, Be.lt, E.size⟩
 refine zEf rfl rfl (by decide) (zAQ func180 kQ kQ rfl) (zJu _ a.next.length (by omega)) ?_
 rintro _ w9 ⟨⟨g, rfl, hG, hg0⟩, X9⟩
 replace Bp := X9.keep Bp
 replace Br := X9.keep Br
 replace Be := X9.keep Be
 replace E := E.ext X9
 refine zAd (v := (.slice (some ⟨g, 0, none⟩) ((a.next.length + 7) / 8) ((a.next.length + 7) / 8))) (c := #[(.slice (some ⟨g, 0, none⟩) ((a.next.length + 7) / 8) ((a.next.length + 7) / 8))]) (n := 1) (by decide) zWr rfl zXB rfl rfl rfl (by simp [Value.oneCell']) ?_
 intro bf wf Nf
 have Ff := Nf.ge E
 have Of_bp := Nf.lt Bp
 have Of_br := Nf.lt Br
 have Of_be := Nf.lt Be
 have Of_g := Nf.lt hG
 replace Bp := Nf.keep Bp
 replace Br := Nf.keep Br
 replace Be := Nf.keep Be
 replace hG := Nf.keep hG
 replace E := E.ext Nf.ext
 have Bf := Nf.blk
 refine zAB (zAA ?_)
 refine qV (zAI rfl zQY (Bf.cell rfl)) ?_
 refine qF bp 0 0 rfl underlying34 rfl zAy rfl ?_
 refine qV (zAI rfl zAo (Bp.cell rfl)) ?_
 refine zEf rfl rfl (by decide) (zAQ func178 kQ kQ rfl) (zRC _ a.next.length g a.start (fun _ => false) (by omega) hG (by omega)) ?_
 rintro _ w19 ⟨rfl, X19, hG9⟩
 replace Bp := X19.keep (by omega) Bp
 replace Br := X19.keep (by omega) Br
 replace Be := X19.keep (by omega) Be
 replace Bf := X19.keep (by omega) Bf
 replace E := E.step X19 (by intro x hx hm; omega)
 have hG : Blk w19 g (zJA a.next.length fun q => decide (((q : Nat) : Int) = a.start)) 5 := by simpa only [Bool.false_or] using hG9
 refine zAB (zAA ?_)
 refine qV (zAI rfl zQY (Bf.cell rfl)) ?_
 refine qV (zCf (l := zIj a.next.length fun q => decide ((q : Int) = a.start)) underlying69 underlying5 underlying9 rfl hG (zDn _ _)) ?_
 refine zBo (v := (.string (zDh a a.next.length))) rfl rfl (by decide) (zRb rfl rfl (by unfold zFm; rw [zCl]; show 5 + _ ≤ _; omega)) ?_
 refine zAd (v := (.string (zDh a a.next.length))) (c := #[(.string (zDh a a.next.length))]) (n := 1) (by decide) zWg rfl zVI rfl rfl rfl (by simp [Value.oneCell']) ?_
 intro bq wq Nq
 have Fq := Nq.ge E
 have Oq_bp := Nq.lt Bp
 have Oq_br := Nq.lt Br
 have Oq_be := Nq.lt Be
 have Oq_bf := Nq.lt Bf
 have Oq_g := Nq.lt hG
 replace Bp := Nq.keep Bp
 replace Br := Nq.keep Br
 replace Be := Nq.keep Be
 replace Bf := Nq.keep Bf
 replace hG := Nq.keep hG
 replace E := E.ext Nq.ext
 have Bq := Nq.blk
 refine zAB ?_
 obtain ⟨n9, hn9⟩ : ∃ n9, n9 = (wq).heap.size := ⟨_, rfl⟩
 have hz_1 : w0.heap.size ≤ wq.heap.size := E.size
 have lz_1_bp : bp < wq.heap.size := Bp.lt
 have lz_1_br : br < wq.heap.size := Br.lt
 have lz_1_be : be < wq.heap.size := Be.lt
 have lz_1_bf : bf < wq.heap.size := Bf.lt
 have lz_1_g : g < wq.heap.size := hG.lt
 have lz_1_bq : bq < wq.heap.size := Bq.lt
 refine zAH ?_
 obtain ⟨Fs1, hFs1⟩ : ∃ Fs : List zDE, Fs = [(eF (.string (zDh a a.next.length))), (eF (P6 bp 2)), (eF (.slice (some ⟨nb, no, none⟩) a.next.length nc)), (eF (.pointer (some ⟨nb, no + 0, none⟩))), (eF (.slice ra c rc)), (eF (I6 (c : Int))), (eF (.func (.func 186) #[] #[(P6 bq 0), (P6 bf 0), (P6 bp 0), (P6 be 0)])), (eF (.func (.func 187) #[] #[(P6 bq 0), (P6 bp 0)])), (fun S s v w => zKj 13 [(.bool ok)] (zEt ok c 20000 (zGW a a.next.length (zDh a a.next.length)) (zIk a a.next.length (zDh a a.next.length)) (zDh a a.next.length) n9) S s v w), (fun S s v w => zKj 13 [(.bool ok)] (zEt ok c 20000 (zGW a a.next.length (zDh a a.next.length)) (zIk a a.next.length (zDh a a.next.length)) (zDh a a.next.length) n9) S s v w), (fun S _ v w => S 13 = false → (zEt ok c 20000 (zGW a a.next.length (zDh a a.next.length)) (zIk a a.next.length (zDh a a.next.length)) (zDh a a.next.length) n9) v w), (eF (.bool ok)), (fun S _ v w => S 13 = false → ((alF 34 #[(I6 0), (.slice none 0 0), (.slice none 0 0)] wq.heap.size)) v w), (fun S s v w => zOt 7 wq.heap.size 34 (zEt ok c 20000 (zGW a a.next.length (zDh a a.next.length)) (zIk a a.next.length (zDh a a.next.length)) (zDh a a.next.length) n9) S s v w), (eF undef)] := ⟨_, rfl⟩
 refine zFM (MsL [(13, (fun y => wq.heap.size ≤ y))]) [true, true, true, true, true, true, true, true, true, true, true, true, true, true, false] [14] [22, 23, 24, 25, 26, 27, 28, 29, 30, 21, 31, 32, 7, 51, 52] [[], [], [1], [2], [3], [4], [], [], [0, 5, 6, 7], [8], [9], [9], [], [0, 1, 2, 3, 4, 5, 6, 7, 8, 9, 10, 12], []] [[], [], [1], [2, 1], [3, 2, 1], [4, 3, 2, 1], [], [], [0, 5, 4, 3, 2, 1, 6, 7], [8, 0, 5, 4, 3, 2, 1, 6, 7], [9, 8, 0, 5, 4, 3, 2, 1, 6, 7], [9, 8, 0, 5, 4, 3, 2, 1, 6, 7], [], [0, 1, 2, 3, 4, 5, 6, 7, 8, 9, 10, 12], []] Fs1 hFs1 (by kernel_rfl) mixed (by kernel_rfl) (by kernel_rfl) (by kernel_rfl) (by kernel_rfl) ?_ ?_
 ·intro wd X0
  refine qZ (fun S s' w' hi hN X U V H => ?_) ?_
  ·replace X := xN1 (hN 13 rfl) X
   exact zAW (zAI (U 6 rfl) zQX (((X0.trans X).keep Bq).cell rfl)) rfl
  refine qZ (fun S s' w' hi hN X U V H => ?_) ?_
  ·replace X := xN1 (hN 13 rfl) X
   exact zAW (zAZ (U 1 rfl) underlying34 rfl zBu rfl) rfl
  refine qZ (fun S s' w' hi hN X U V H => ?_) ?_
  ·replace X := xN1 (hN 13 rfl) X
   have e23 := (H 1 rfl).2 23 _ rfl (by rw [hFs1]; rfl)
   exact zAW (zAI e23 zBi (((X0.trans X).keep Bp).cell rfl)) rfl
  refine qZ (fun S s' w' hi hN X U V H => ?_) ?_
  ·replace X := xN1 (hN 13 rfl) X
   have e24 := (H 2 rfl).2 24 _ rfl (by rw [hFs1]; rfl)
   exact zAW (zAD (i := 0) e24 rfl rfl underlying32 zBL (by omega) (by omega)) rfl
  refine qZ (fun S s' w' hi hN X U V H => ?_) ?_
  ·replace X := xN1 (hN 13 rfl) X
   have e25 := (H 3 rfl).2 25 _ rfl (by rw [hFs1]; rfl)
   exact zAW (zAI e25 zBP ((Ext.trans E (X0.trans X)).cell hcell)) rfl
  refine qZ (fun S s' w' hi hN X U V H => ?_) ?_
  ·replace X := xN1 (hN 13 rfl) X
   have e26 := (H 4 rfl).2 26 _ rfl (by rw [hFs1]; rfl)
   exact zAW (zAJ underlying22 e26) rfl
  refine qZ (fun S s' w' hi hN X U V H => ?_) ?_
  ·replace X := xN1 (hN 13 rfl) X
   exact zAW (zBV rfl (lst4 (U 6 rfl) (U 5 rfl) (U 1 rfl) (U 4 rfl))) rfl
  refine qZ (fun S s' w' hi hN X U V H => ?_) ?_
  ·replace X := xN1 (hN 13 rfl) X
   exact zAW (zBV rfl (zOu (U 6 rfl) (U 1 rfl))) rfl
  refine DagStepsS.cons (zCP.tup (U := zAh) (zCp) (fun p y hp hw hpc h => by
     rcases zBg h with ⟨rfl, h0⟩ | h0
     ·exact absurd rfl hpc
     exact h0.elim)) (zCr.const) (fun S s' w' hi hN X U V H => Or.inl ⟨zAL rfl, ?_⟩) ?_
  ·replace X := xN1 (hN 13 rfl) X
   have e22 := (H 0 rfl).2 22 _ rfl (by rw [hFs1]; rfl)
   have e27 := (H 5 rfl).2 27 _ rfl (by rw [hFs1]; rfl)
   have e28 := (H 6 rfl).2 28 _ rfl (by rw [hFs1]; rfl)
   have e29 := (H 7 rfl).2 29 _ rfl (by rw [hFs1]; rfl)
   exact zCR (zCF (zAQ func38 kQ kQ (zXI e22 e27 e28 e29 rfl)) (R := fun v w => ∃ u, v = .tuple (u :: [(.bool ok)]).toArray ∧ (zEt ok c 20000 (zGW a a.next.length (zDh a a.next.length)) (zIk a a.next.length (zDh a a.next.length)) (zDh a a.next.length) n9) u w) ((zUf _ (zDh a a.next.length) c 20000 _ _ (zGW a a.next.length (zDh a a.next.length)) (zIk a a.next.length (zDh a a.next.length)) hc (by decide) (fun k _ => zSs a _ _ k) (fun w k x hE hr hx => zCG.mk (first := #[]) (cap := #[.pointer (some ⟨bq, 0, none⟩), .pointer (some ⟨bf, 0, none⟩), .pointer (some ⟨bp, 0, none⟩), .pointer (some ⟨be, 0, none⟩)]) func186 kQ kQ rfl (zTu w a.next.length c a _ bp be bq bf g x k _ oka (ha.ext (Ext.trans E ((X0.trans X).trans hE))) (((X0.trans X).trans hE).keep Bp) (((X0.trans X).trans hE).keep Bq) (((X0.trans X).trans hE).keep Bf) (((X0.trans X).trans hE).keep hG) (((X0.trans X).trans hE).keep Be) hn ((zNB oka hbg hr).imp id fun h9 => by rw [h9, zCl]) hx hc.2)) (fun w k hE hr => zCG.mk (first := #[]) (cap := #[.pointer (some ⟨bq, 0, none⟩), .pointer (some ⟨bp, 0, none⟩)]) func187 kQ kQ rfl (zTt w a.next.length c a _ bp bq k _ oka (ha.ext (Ext.trans E ((X0.trans X).trans hE))) (((X0.trans X).trans hE).keep Bp) (((X0.trans X).trans hE).keep Bq) hn ((zNB oka hbg hr).imp id fun h9 => by rw [h9, zCl])))).mono (fun v w h => ⟨zMe h.1 hk (by have := X0.size; have := X.size; omega), h.2⟩))) (fun v w h => by obtain ⟨u, h1, h2⟩ := h; exact ⟨u, h1, fun _ => h2⟩)
  refine DagStepsS.cons (zCP.tup (U := zAh) (zCp) (fun p y hp hw hpc h => by
     rcases zBg h with ⟨rfl, h0⟩ | h0
     ·exact absurd rfl hpc
     exact h0.elim)) (zCr.const) (fun S s' w' hi hN X U V H => Or.inl ⟨zAL rfl, ?_⟩) ?_
  ·replace X := xN1 (hN 13 rfl) X
   exact zAW (zAl rfl) (by obtain ⟨u, h1, h2⟩ := (H 8 rfl).2 30 (fun S s v w => zKj 13 [(.bool ok)] (zEt ok c 20000 (zGW a a.next.length (zDh a a.next.length)) (zIk a a.next.length (zDh a a.next.length)) (zDh a a.next.length) n9) S s v w) rfl (by rw [hFs1]; rfl); exact ⟨u, h1, fun _ => h2 (hN 13 rfl)⟩)
  refine DagStepsS.cons (zCP.till (U := zAh) (zCp) (fun p y hp hw hpc h => by
     rcases zBg h with ⟨rfl, h0⟩ | h0
     ·exact absurd rfl hpc
     exact h0.elim)) (zCr.const) (fun S s' w' hi hN X U V H => Or.inl ⟨zAL rfl, ?_⟩) ?_
  ·replace X := xN1 (hN 13 rfl) X
   obtain ⟨u9, e9, g9⟩ := (H 9 rfl).2 21 (fun S s v w => zKj 13 [(.bool ok)] (zEt ok c 20000 (zGW a a.next.length (zDh a a.next.length)) (zIk a a.next.length (zDh a a.next.length)) (zDh a a.next.length) n9) S s v w) rfl (by rw [hFs1]; rfl)
   exact zAW (zAa e9 rfl) (fun _ => g9 (hN 13 rfl))
  refine qZ (fun S s' w' hi hN X U V H => ?_) ?_
  ·replace X := xM1 X
   obtain ⟨u9, e9, _⟩ := (H 9 rfl).2 21 (fun S s v w => zKj 13 [(.bool ok)] (zEt ok c 20000 (zGW a a.next.length (zDh a a.next.length)) (zIk a a.next.length (zDh a a.next.length)) (zDh a a.next.length) n9) S s v w) rfl (by rw [hFs1]; rfl)
   exact zAW (zAa e9 rfl) rfl
  refine DagStepsS.cons (zCP.till (U := zAh) (fun v w w' x h => zIS _ _ _ v w w' x h) (fun p y hp hw hpc h => by
     rcases zBg h with ⟨rfl, h0⟩ | h0
     ·exact absurd rfl hpc
     exact h0.elim)) (zCr.const) (fun S s' w' hi hN X U V H => Or.inl ⟨zAL rfl, ?_⟩) ?_
  ·replace X := xN1 (hN 13 rfl) X
   exact zCR (zEE (c := #[(I6 0), (.slice none 0 0), (.slice none 0 0)]) (hs := wq.heap.size) zBf rfl (by have := X0.size; have := X.size; omega)) (R' := fun v w => zMb S 12 13 = false → (alF 34 #[(I6 0), (.slice none 0 0), (.slice none 0 0)] wq.heap.size) v w) (fun _ _ h _ => h)
  refine DagStepsS.cons (zCP.put (zCp) (fun p y hp hw h => by
     rcases zBg h with ⟨rfl, h0⟩ | h0
     ·exact absurd rfl hp
     exact h0.elim)) (zCr.put (j := 12) rfl rfl) (fun S s' w' hi hN X U V H => Or.inl ⟨zAL rfl, ?_⟩) ?_
  ·replace X := xN1 hi X
   obtain ⟨b9, e9, B9, l9⟩ := ((H 12 rfl).2 7 (fun S _ v w => S 13 = false → ((alF 34 #[(.int .i64 0), (.slice none 0 0), (.slice none 0 0)] wq.heap.size)) v w) rfl (by rw [hFs1]; rfl)) hi
   have g9 := ((H 10 rfl).2 31 (fun S _ v w => S 13 = false → (zEt ok c 20000 (zGW a a.next.length (zDh a a.next.length)) (zIk a a.next.length (zDh a a.next.length)) (zDh a a.next.length) n9) v w) rfl (by rw [hFs1]; rfl)) hi
   exact zCR (zGw (n := 3) e9 rfl g9 B9 rfl zAe (zII) (zIH) (by first | exact .inl ⟨rfl, l9⟩ | exact .inr (.inl ⟨rfl, l9⟩))) (fun v w h => by obtain ⟨vs, h1, h2⟩ := h; exact ⟨b9, vs, e9, l9, h1, h2⟩)
  refine DagStepsS.tail ?_
  exact DagStepsS.nil
 ·intro s' wd1 w1 X0 X1 U H
  replace X1 := X1.mono (M' := (fun y => (fun y => wq.heap.size ≤ y) y)) (fun y _ h => by
    obtain ⟨j, hj, h⟩ := h
    rcases zBg h with ⟨rfl, h0⟩ | h0
    ·exact h0
    exact h0.elim)
  have e32 := H 11 rfl 32 _ rfl (by rw [hFs1]; rfl)
  obtain ⟨b51, vs51, e51, l51, B51, g51⟩ := (show ((fun S s v w => zOt 7 wq.heap.size 34 (zEt ok c 20000 (zGW a a.next.length (zDh a a.next.length)) (zIk a a.next.length (zDh a a.next.length)) (zDh a a.next.length) n9) S s v w) : zDE) (zNr [true, true, true, true, true, true, true, true, true, true, true, true, true, true, false]) s' (s' 51) w1 from H 13 rfl 51 (fun S s v w => zOt 7 wq.heap.size 34 (zEt ok c 20000 (zGW a a.next.length (zDh a a.next.length)) (zIk a a.next.length (zDh a a.next.length)) (zDh a a.next.length) n9) S s v w) rfl (by rw [hFs1]; rfl))
  obtain ⟨D51, ea51, ec51, na51, nc51, vs51, q51, p51⟩ := g51
  cases q51
  obtain ⟨j1, rfl⟩ := zAz.out (σ := s') (l := [(2, (.pointer (some ⟨br, 0, none⟩))), (32, (.bool ok)), (7, (.pointer (some ⟨b51, 0, none⟩)))]) ⟨U 2 rfl, e32, e51, trivial⟩
  clear U H
  replace Bp := Chg.keep X1 kH (X0.keep Bp)
  replace Br := Chg.keep X1 kH (X0.keep Br)
  replace Be := Chg.keep X1 kH (X0.keep Be)
  replace Bf := Chg.keep X1 kH (X0.keep Bf)
  replace hG := Chg.keep X1 kH (X0.keep hG)
  replace Bq := Chg.keep X1 kH (X0.keep Bq)
  replace E := (E.ext X0).step X1 (fun y hy h => by first | omega | (dsimp only at h; omega))
  refine qA _ rfl ?_
  refine zAB (zAC ?_)
  rcases Bool.eq_false_or_eq_true (ok) with hok | hok
  ·have khok := hok
   obtain ⟨hP9, hO9⟩ := p51 hok
   refine zAH (zAA ?_)
   refine qM _ rfl ?_
   refine qV (zCa rfl) ?_
   have hk_2 : (!ok) = false := by rw [hok]; rfl
   refine zAB ?_
   refine zAP (congrArg Value.bool hk_2) ?_
   refine zAO (zAC (zAA ?_))
   refine qV (zAK (vs := [(I6 D51.start), (.slice ea51 D51.accept.length ec51), (.slice na51 D51.next.length nc51)]) rfl zAx zAe rfl (B51.cells rfl)) ?_
   obtain ⟨n10, hn10⟩ : ∃ n10, n10 = (w1).heap.size := ⟨_, rfl⟩
   have hn10b : w0.heap.size ≤ n10 ∧ br < n10 := ⟨by rw [hn10]; exact E.size, by rw [hn10]; exact Br.lt⟩
   refine zEf rfl rfl (by decide) (zAQ func37 kQ kQ rfl) (zGR _ D51.next.length c D51 _ hP9.ok hO9.dfa ⟨by have := hP9.most; omega, hc⟩ hP9.acc) ?_
   rintro _ w99 ⟨⟨C, ca, cc, ma, mc, hC, hCl, hCa, rfl, hCN⟩, X99⟩
   replace Bp := X99.keep Bp
   replace Br := X99.keep Br
   replace Be := X99.keep Be
   replace Bf := X99.keep Bf
   replace hG := X99.keep hG
   replace Bq := X99.keep Bq
   replace B51 := X99.keep B51
   replace hO9 := hO9.ext X99
   replace E := E.ext X99
   rw [← hn10] at hCN
   refine zAb (b := br) (o := 0) (c' := #[(I6 C.start), (.slice ca C.accept.length cc), (.slice ma C.next.length mc)]) rfl rfl (by simp [Value.oneCell']) zAe rfl Br (by first | (simp; done) | exact Nat.le_of_ble_eq_true rfl) rfl ?_
   intro w3 S3
   replace hCN := hCN.chg S3.chg fun y h => by have h' : y = br := h; omega
   replace Bp := S3.keep (by omega) Bp
   replace Be := S3.keep (by omega) Be
   replace Bf := S3.keep (by omega) Bf
   replace hG := S3.keep (by omega) hG
   replace Bq := S3.keep (by omega) Bq
   replace B51 := S3.keep (by omega) B51
   replace E := S3.step E (by first | exact Or.inl (by omega) | exact Or.inr rfl | exact Or.inr (by assumption) | exact Or.inr (by simp) | exact Or.inr (by omega) | exact Or.inr (by dsimp only; omega))
   replace Br := S3.blk
   refine qA _ rfl ?_
   refine zAB (zAV ?_)
   refine zAu results155 (vs := [(.int .i64 C.start), (.slice ca C.accept.length cc), (.slice ma C.next.length mc)]) (b := br) (v' := (.bool true)) rfl zAx zAe rfl (Br.cells rfl) rfl ?_
   exact ⟨.inl ⟨hk.1 hok, ⟨C, ca, cc, ma, mc, hC.congr (fun w hw => by rw [hP9.start, hP9.beh w hw]; exact zQz oka hbg w), by have := hP9.most; omega, hCa, rfl, hCN.low hn10b.1⟩⟩, E⟩
  ·have khok := hok
   refine zAH (zAA ?_)
   refine qM _ rfl ?_
   refine qV (zCa rfl) ?_
   have hk_4 : (!ok) = true := by rw [hok]; rfl
   refine zAB ?_
   refine zAk (congrArg Value.bool hk_4) ?_
   refine zAA ?_
   refine qV (zBA (ps := []) (v := (.agg #[(I6 0), (.slice none 0 0), (.slice none 0 0)])) rfl (by kernel_rfl)) ?_
   refine zAb (b := br) (o := 0) (c' := #[(I6 0), (.slice none 0 0), (.slice none 0 0)]) rfl rfl (by simp [Value.oneCell']) zAe rfl Br (by first | (simp; done) | exact Nat.le_of_ble_eq_true rfl) rfl ?_
   intro w5 S5
   replace Bp := S5.keep (by omega) Bp
   replace Be := S5.keep (by omega) Be
   replace Bf := S5.keep (by omega) Bf
   replace hG := S5.keep (by omega) hG
   replace Bq := S5.keep (by omega) Bq
   replace B51 := S5.keep (by omega) B51
   replace E := S5.step E (by first | exact Or.inl (by omega) | exact Or.inr rfl | exact Or.inr (by assumption) | exact Or.inr (by simp) | exact Or.inr (by omega) | exact Or.inr (by dsimp only; omega))
   replace Br := S5.blk
   refine qA _ rfl ?_
   refine zAB (zAV (zAU ?_))
   refine zAu results155 (vs := [(.int .i64 0), (.slice none 0 0), (.slice none 0 0)]) (b := br) (v' := (.bool false)) rfl zAx zAe rfl (Br.cells rfl) rfl ?_
   exact ⟨.inr ⟨fun h => (by rw [hk.2 h] at hok; cases hok), rfl⟩, E⟩
end Go.Proofs
namespace Go.Eng
open Go
theorem zCo {P:Program} {ch:List PanicEntry} {fn:Func} {R:Value→World→Prop} {X:World→Prop} {σ:Env} {w:World} (h:fin P fn R .ret σ w):zXO P ch fn R X .ret σ w:=h
section
variable {P : Program} {N : Nat} {Q : zFN} {σ : Env} {w : World} {K : Env → World → Prop} {ops : Array Oper} {rest : List Oper}
theorem zLu {o:Oper} (hg:o.guard=none) {v:Value} (hr:(execOp (ev σ) o).run P w=.halt (.panic v) w) (k:Q (.panic [{v,recovered:=false}]) σ w):WpL P N ops K Q (o::rest) σ w:=by
 intro dz a ha he;refine wpList_plain hg fun K' hK=>?_;unfold Oper.wp;rw[zCH,he,hr];simp only[Oper.upon];exact ⟨ha,by rw[he];exact k⟩
theorem zPd {dst:Option Tmp} {ty:TypeId} {pos:String} {af:Array Edge} {g:Option (Nat×Bool)} {x:Operand} {u:TypeId} {v:Value} (hx:ev σ x=.iface u v):(execOp (ev σ) ⟨dst,.panic x,ty,pos,af,g⟩).run P w=.halt (.panic (.iface u v)) w:=by
 simp[execOp,hx,Instr.panic]
theorem zHf {dst:Option Tmp} {ty:TypeId} {pos:String} {af:Array Edge} {g:Option (Nat×Bool)} {x:Operand} {t:TypeId} {fs:Array Field} {v:Value} (hu:P.underlying t=some (.struct fs)) (hx:ev σ x=v):(execOp (ev σ) ⟨dst,.makeInterface t x,ty,pos,af,g⟩).run P w=.ok (.value (.iface t v)) w:=by
 subst hx;simp[execOp,Instr.makeInterface,run_underlying hu]
end
def zXf (P:Program) (fn:Func) (R:Ending→World→Prop) (d:Deferred):zFN
  | .normal,σ,w | .ret,σ,w=>∀a:Act,env a=σ→Leaves P fn a.tmps R [d] .returning w
  | .panic ch,σ,w=>∀a:Act,env a=σ→Leaves P fn a.tmps R [d] (.panicking ch) w
  | _,_,_=>False
def WpA (P:Program) (N:Nat) (c:Code) (Q:Exit→Act→World→Prop) (σ:Env) (w:World):Prop:=∀a,Ok [] N a→env a=σ→c.wp P Q a w
def zWm (P:Program) (N:Nat) (ops:Array Oper) (Q:Exit→Act→World→Prop) (l:List Oper) (σ:Env) (w:World):Prop:=∀a,Ok [] N a→env a=σ→wpList P ops Q l a w
section
variable {P : Program} {N : Nat} {QA : Exit → Act → World → Prop} {σ : Env} {w : World} {ops : Array Oper} {rest : List Oper} {y : Code}
theorem zRF {f:FuncId} {fn:Func} {c:Code} {args:Array Value} {R:Ending→World→Prop}
  (hf:P.funcs[f]?=some fn) (hb:fn.body=some c) (hn:fn.ntmps=N) (hsz:args.size≤N)
  (h:WpA P N c (bodyPostD P fn R) (fun t=>args.getD t undef) w):Calls P f args w R:=by
 refine calls_of_wp_defers hf hb (h _ ⟨?_,rfl⟩ ?_)
 ·simp[hn];omega
 ·funext t;simp only[env,Array.getD_eq_getD_getElem?,Array.getElem?_append];split
  ·rfl
  ·rename_i hlt
   rw[Array.getElem?_replicate,Array.getElem?_eq_none (xs:=args) qO];split<;>rfl
theorem zIl {id:Nat} {l:List Oper} (h:WpL P N l.toArray (WpA P N y QA) (fun _ _ _=>False) l σ w):WpA P N (.seq (.region id l.toArray false) y) QA σ w:=fun a ha he=>by
 refine wp_seq (Code.wp_mono ?_ (wp_region_lit (h [] a ha he)));rintro e a' w' ⟨o,q⟩;cases e<;>first|exact q a' o rfl|exact (show False from q).elim
theorem zIW {id:Nat} {l:List Oper} (h:zWm P N l.toArray (Exit.then (y.wp P QA) QA) l σ w):WpA P N (.seq (.region id l.toArray false) y) QA σ w:=fun a ha he=>wp_seq (wp_region_lit (h a ha he))
theorem zSv {o:Oper} (hg:o.guard=none) {d:Nat} (hd:o.dst=some d) (hN:d<N) {v:Value} {w':World}
  (hr:(execOp (ev σ) o).run P w=.ok (.value v) w') (k:zWm P N ops QA rest (upd σ d v) w'):zWm P N ops QA (o::rest) σ w:=by
 intro a ha he;refine wpList_plain hg fun K' hK=>?_;unfold Oper.wp;rw[zCH,he,hr];simp only[Oper.upon,hd];exact hK _ _ (k _ (ha.put _ _) (by rw[zDQ ha hN,he]))
theorem zOl {fn:Func} {R:Ending→World→Prop} {o:Oper} {d:Deferred} (hg:o.guard=none) (hd:o.dst=none)
  (hr:(execOp (ev σ) o).run P w=.ok (.defer d) w) (k:Wp P N y (zXf P fn R d) σ w):zWm P N ops (Exit.then (y.wp P (bodyPostD P fn R)) (bodyPostD P fn R)) [o] σ w:=by
 intro a ha he;refine wpList_plain hg fun K' hK=>?_;unfold Oper.wp;rw[zCH,he,hr];simp only[Oper.upon,hd];refine hK _ _ ?_;have aa:=ha.defers;have h1:=k [d] {a with defers:=d::a.defers} ⟨ha.size,by simp[aa]⟩ (by rw[←he];rfl);show y.wp P (bodyPostD P fn R) {a with defers:=d::a.defers} w;refine Code.wp_mono ?_ h1;rintro e a' w' ⟨o',q⟩;have ho:=o'.defers;cases e<;>simp only[zXf] at q<;>simp only[bodyPostD]
 ·rw[ho];exact q a' rfl
 ·rw[ho];exact q a' rfl
 ·rw[ho];exact q a' rfl
theorem zUF {ty:TypeId} {pos:String} {af:Array Edge} {g:Option (Nat×Bool)} {x:Operand} {ts:Array TypeId} {f:FuncId} {cap:Array Value} (hx:ev σ x=.func (.func f) #[] cap):(execOp (ev σ) ⟨none,.defer ⟨.value x,#[],ts⟩,ty,pos,af,g⟩).run P w=.ok (.defer {target:=.fn (.func f) cap,args:=#[]}) w:=by
 simp[execOp,resolve,hx,Deferred.ofValue]
theorem zJH {fn:Func} {tmps:Array Value} {R:Ending→World→Prop} {d:Deferred} {f:FuncId} {cap:Array Value} {u:FrameMode} {X:World→Prop} (hd:d={target:=.fn (.func f) cap,args:=#[]}) (hu:u≠.run)
  (hi:(callFunc f cap).run P w=.ok (.enter f cap) w) (hc:CallsD P f cap u w fun e u' w'=>(∃r,e=.returned r)∧settle u'=.returning∧X w') (hX:∀w',X w'→∃v,(results fn tmps).run P w'=.ok v w'∧R (.returned v) w'):Leaves P fn tmps R [d] u w:=by
 subst hd;refine leaves_cons (f:=f) (args:=cap) hu (by simpa[invoke] using hi) (hc.mono ?_);rintro e u' w' ⟨⟨r,rfl⟩,h1,h2⟩;simp only;rw[h1];exact hX w' h2
end
theorem zKr {P:Program} {w:World} {ρ:Operand→Value} {dst:Option Tmp} {ty:TypeId} {pos:String} {af:Array Edge} {g:Option (Nat×Bool)} {ts:Array TypeId}:(execOp ρ ⟨dst,.call ⟨.builtin .recover,#[],ts⟩,ty,pos,af,g⟩).run P w=.ok .recover w:=by
 simp[execOp,resolve,invoke,builtin]
section
variable {P : Program} {σ : Env} {w : World} {dst : Option Tmp} {ty : TypeId} {pos : String} {af : Array Edge} {g : Option (Nat × Bool)} {x : Operand} {t s : TypeId} {v : Value} {fs : Array Field}
theorem zML (hu:P.underlying t=some (.struct fs)) (hx:ev σ x=.iface t v):(execOp (ev σ) ⟨dst,.typeAssert x s t true,ty,pos,af,g⟩).run P w=.ok (.value (.tuple #[v,.bool true])) w:=by
 simp[execOp,hx,Instr.typeAssert,run_underlying hu]
theorem zMM (hu:P.underlying t=some (.struct fs)) (hz:Zer P t v) (hx:ev σ x=.nilIface):(execOp (ev σ) ⟨dst,.typeAssert x s t true,ty,pos,af,g⟩).run P w=.ok (.value (.tuple #[v,.bool false])) w:=by
 have h:=hz.run w;simp[execOp,hx,Instr.typeAssert,run_underlying hu,h]
end
theorem zHA {P:Program} {fn:Func} {a0 a1 t u b b1 n:Nat} (hr:fn.results=#[.cell a0 t,.cell a1 u]) {σ:Env} {w:World} {vs:List Value} {v':Value} (hv:σ a0=.pointer (some ⟨b,0,none⟩)) (hv1:σ a1=.pointer (some ⟨b1,0,none⟩)) (hf:zLq P t=true) (hs:Siz P t n) (hn:vs.length=n) (hc:zBE w b 0 vs) (hf1:zDF P u=true) (hc1:w.cell? ⟨b1,0,none⟩=some v') {a:Act} (ha:env a=σ):(results fn a.tmps).run P w=.ok (.tuple #[.agg vs.toArray,v']) w:=by
 subst ha;have h0:a.tmps.getD a0 undef=.pointer (some ⟨b,0,none⟩):=hv;have h1:a.tmps.getD a1 undef=.pointer (some ⟨b1,0,none⟩):=hv1;simp only[Array.getD_eq_getD_getElem?] at h0 h1;have h2:=zEo (P:=P) (w:=w) hf hs hn hc;have h3:(loadVar u ⟨b1,0,none⟩).run P w=.ok v' w:=by simp[loadVar,zDF.run hf1,hc1]
 simp[results,hr,h0,h1,asAddr,h2,h3]
theorem zHE {Q Q':Exit→Act→World→Prop} (hq:∀e a w,Q e a w→Q' e a w) (h:LetsOut Q):LetsOut Q':=by
 obtain ⟨a,w,h⟩:=h;exact ⟨a,w,hq _ _ _ h⟩
theorem zKx {P:Program} {o:Oper} {a:Act} {w:World} {K K':Act→World→Prop} {Q Q':Exit→Act→World→Prop} (h:∀a w,K a w→K' a w) (hq:∀e a w,Q e a w→Q' e a w)
    (hh:o.wp P a w K Q):o.wp P a w K' Q':=by
  unfold Oper.wp at *;generalize (execOp a.eval o).run P w=r at *;cases r with
  | ok n w'=>
    cases n<;>simp only[Oper.upon] at hh⊢<;>
      first
        | exact h _ _ hh
        | exact Calls.mono hh (fun e w'' he=>by cases e<;>first|exact h _ _ he|exact zHE hq he|exact hq _ _ _ he)
        | exact Rows.mono hh (fun _ _ he=>h _ _ he)
  | halt x w'=>cases x<;>simp only[Oper.upon] at hh⊢<;>first|exact hq _ _ _ hh|exact hh
theorem zKe {P:Program} {ops:Array Oper} {Q Q':Exit→Act→World→Prop} (hq:∀e a w,Q e a w→Q' e a w):∀(l:List Oper) (a:Act) (w:World),wpList P ops Q l a w→wpList P ops Q' l a w:=by
  intro l
  induction l with
  | nil=>intro a w h;exact hq _ _ _ h
  | cons o l ih=>
    intro a w h;unfold wpList at h⊢;by_cases hw:Region.wanted o (yielded ops a.tmps)=true
    · rw[if_pos hw] at h⊢;rcases h with h|h
      · exact .inl (zKx (fun a w h=>ih a w h) hq h)
      · exact .inr ⟨h.1,zHE hq h.2⟩
    · rw[if_neg hw] at h⊢;exact ih _ _ h
theorem zMA {P:Program} {ops:Array Oper} {Q:Exit→Act→List Frame→World→Prop} {cs:List Frame} (hL:∀(a:Act) (w:World),¬Q .outgrown a cs w):∀(l:List Oper) (k:Nat) (a:Act) (w:World),(∀j,l[j]?=ops[k+j]?)→wpList P ops (fun e a w=>Q e a cs w) l a w→wpOpsS P ops Q (List.range' k l.length) a cs w:=by
  intro l
  induction l with
  | nil=>intro k a w _ h;exact h
  | cons o l ih=>
    intro k a w hj h;have h0:ops[k]?=some o:=by simpa using (hj 0).symm
    have aa:∀j,l[j]?=ops[k+1+j]?:=fun j=>by have:=hj (j+1);simpa[Nat.add_assoc,Nat.add_comm 1 j] using this
    rw[List.length_cons,List.range'_succ];unfold wpList at h;unfold wpOpsS;simp only[h0];by_cases hw:Region.wanted o (yielded ops a.tmps)=true
    · rw[if_pos hw] at h⊢;rcases h with h|⟨_,a1,w1,h⟩
      · have h2:=zKx (K':=fun a' w'=>wpOpsS P ops Q (List.range' (k+1) l.length) a' cs w') (fun a w h=>ih (k+1) a w aa h) (fun _ _ _ h=>h) h;unfold Oper.wp at h2;split
        · rename_i heq
          rw[heq] at h2;exact (show False from h2).elim
        · exact h2
      · exact absurd h (hL a1 w1)
    · rw[if_neg hw] at h⊢;exact ih (k+1) _ _ aa h
theorem zFj {P:Program} {N:Nat} {f:FuncId} {fn:Func} {id d0:Nat} {o0:Oper} {rest:List Oper} {y:Code} {args:Array Value} {u u':FrameMode} {w:World} {v:Value} {R:Value→World→Prop}
    (hf:P.funcs[f]?=some fn) (hb:fn.body=some (.seq (.region id (o0::rest).toArray false) y)) (hn:fn.ntmps=N) (hsz:args.size≤N) (hg:o0.guard=none) (hd:o0.dst=some d0) (hN:d0<N)
    (hop:∀(ρ:Operand→Value) (w:World),(execOp ρ o0).run P w=.ok .recover w)
    (hu:(u=.returning∧v=.nilIface∧u'=u)∨∃older,u=.panicking ({v:=v,recovered:=false}::older)∧u'=.panicking ({v:=v,recovered:=true}::older))
    (h:WpL P N (o0::rest).toArray (Wp P N y (fin P fn R)) (fin P fn R) rest (upd (fun t=>args.getD t undef) d0 v) w):CallsD P f args u w fun e u1 w'=>(∃r,e=.returned r∧R r w')∧u1=u':=by
  refine callsD_of_wpS hf hb fun c₀ cs ab=>?_;apply wpS_seq;apply wpS_region;have ae:(o0::rest).toArray.size=rest.length+1:=qP
  rw[ae,List.range_eq_range',List.range'_succ];obtain ⟨a0,ac⟩:∃a0:Act,a0={tmps:=args++Array.replicate (fn.ntmps - args.size) undef,defers:=[]}:=⟨_,rfl⟩;rw[←ac];have af:Ok [] N a0:=⟨by rw[ac];simp[hn];omega,by rw[ac]⟩;have ad:env a0=fun t=>args.getD t undef:=by
    rw[ac];funext t;simp only[env,Array.getD_eq_getD_getElem?,Array.getElem?_append];split
    · rfl
    · rename_i hlt
      rw[Array.getElem?_replicate,Array.getElem?_eq_none (xs:=args) qO];split<;>rfl
  have h1:=h [] (a0.put (some d0) v) (af.put _ _) (by rw[zDQ af hN,ad]);have aa:(match recoverD (c₀::cs) with|some (v,cs')=>some (v,cs')|none=>some (Value.nilIface,c₀::cs))=some (v,{c₀ with mode:=u'}::cs):=by
    rcases hu with ⟨rfl,rfl,rfl⟩|⟨older,rfl,rfl⟩
    · have:({c₀ with mode:=FrameMode.returning}:Frame)=c₀:=by cases c₀;simp at ab;subst ab;rfl
      simp[recoverD,ab,this]
    · simp[recoverD,ab]
  have h2:wpOpsS P (o0::rest).toArray (Exit.thenS (y.wpS P (bodyPostS P fn c₀ cs fun e u1 w'=>(∃r,e=.returned r∧R r w')∧u1=u')) (bodyPostS P fn c₀ cs fun e u1 w'=>(∃r,e=.returned r∧R r w')∧u1=u')) (List.range' (0+1) rest.length) (a0.put (some d0) v) ({c₀ with mode:=u'}::cs) w:=by
    refine zMA ?_ rest (0+1) _ _ (fun j=>by simp[Nat.add_comm]) (zKe ?_ rest _ _ h1)
    · rintro a w1 ⟨u9,⟨r,h9,_⟩,_⟩;cases h9
    · rintro e a w1 ⟨o,q⟩;cases e<;>simp only[thn] at q<;>simp only[Exit.thenS]
      · refine wpS_of_wp (Code.wp_mono ?_ (q [] a o rfl));rintro e a w1 ⟨o,q⟩;cases e<;>simp only[fin] at q<;>simp only[bodyPostS]
        · obtain ⟨v9,hv,r⟩:=q;exact ⟨o.defers,u',rfl,v9,hv a rfl,⟨v9,rfl,r⟩,rfl⟩
        · obtain ⟨v9,hv,r⟩:=q;exact ⟨o.defers,u',rfl,v9,hv a rfl,⟨v9,rfl,r⟩,rfl⟩
      all_goals simp only[fin] at q
      · obtain ⟨v9,hv,r⟩:=q;exact ⟨o.defers,u',rfl,v9,hv a rfl,⟨v9,rfl,r⟩,rfl⟩
  unfold wpOpsS;have h0:(o0::rest).toArray[0]?=some o0:=qP
  have hw:Region.wanted o0 (yielded (o0::rest).toArray a0.tmps)=true:=by simp[Region.wanted,hg]
  simp only[h0,hop];rw[if_pos hw,hd];cases hr:recoverD (c₀::cs) with
  | none=>rw[hr] at aa;simp only[Option.some.injEq,Prod.mk.injEq] at aa;rw[←aa.1,←aa.2] at h2;exact h2
  | some p=>rw[hr] at aa;obtain ⟨p1,p2⟩:=p;simp only[Option.some.injEq,Prod.mk.injEq] at aa;rw[←aa.1,←aa.2] at h2;exact h2
end Go.Eng
namespace Go.Proofs
open Go Go.Eng Go.Sort
set_option maxRecDepth 100000
def lgC:List PanicEntry:=[{v:=.iface 104 (.agg #[]),recovered:=false}]
theorem zHq (w0:World) (b:Bool) (x:Int) (ya za:Option Addr) (yn yc zn zc:Nat):zRI prog lgC 153 #[.agg #[.int .i64 x,.slice ya yn yc,.slice za zn zc],.bool b] w0 (fun r w=>(b=true∧r=.agg #[.int .i64 x,.slice ya yn yc,.slice za zn zc])∧Ext w0 w) fun w=>b=false∧Ext w0 w:=by
 refine zDj func153 rfl ntmps153 (leT rfl) ?_;have E:Chg zAh w0 w0:=Chg.refl _ _;refine zAA (zBQ (v:=(.agg #[(I6 x),(.slice ya yn yc),(.slice za zn zc)])) (c:=#[(I6 x),(.slice ya yn yc),(.slice za zn zc)]) qD rfl rfl ?_);intro bd wd Nd;have Fd:=Nd.ge E;replace E:=E.ext Nd.ext;have Bd:=Nd.blk;refine zBH (c:=#[(I6 0),(.slice none 0 0),(.slice none 0 0)]) qD zBf rfl ?_;intro br wr Nr;have Fr:=Nr.ge E;have Or_bd:=Nr.lt Bd;replace Bd:=Nr.keep Bd;replace E:=E.ext Nr.ext;have Br:=Nr.blk;refine zAB (zAH (zAA (qM _ rfl (qV (zCa rfl) (zAB (zBD rfl (fun h0=>?_) (fun h0=>?_)))))))
 ·have aa:=h0;replace h0:=by simpa using h0
  refine zAF (qV (zBA (ps:=[]) (v:=(.agg #[])) rfl qK) (qV (zHf (t:=104) (v:=(.agg #[])) underlying104 rfl) (zLu rfl (zPd (u:=104) (v:=(.agg #[])) rfl) (And.intro rfl ⟨h0,E⟩))))
 ·have aa:=h0;replace h0:=by simpa using h0
  refine zAO (zAC (zAA (qV (zAK (vs:=[(I6 x),(.slice ya yn yc),(.slice za zn zc)]) rfl zAx zAe rfl (Bd.cells rfl)) (zAb (b:=br) (o:=0) (c':=#[(I6 x),(.slice ya yn yc),(.slice za zn zc)]) rfl rfl qS zAe rfl Br qL rfl ?_))));intro w2 S2;replace Bd:=S2.keep qO Bd;replace E:=S2.step E qQ;replace Br:=S2.blk;refine zAB (zAV (zCo (zBm results153 (vs:=[(.int .i64 x),(.slice ya yn yc),(.slice za zn zc)]) (b:=br) rfl zAx zAe rfl (Br.cells rfl) ?_)));exact ⟨⟨h0,rfl⟩,E⟩
end Go.Proofs
namespace Go.Proofs
open Go Go.Eng Go.Sort
set_option maxRecDepth 100000
def zBW (S:Nat→Prop) (w:World) (d:Dfa) (vs:List Value):Prop:=∀(M:Nat→Prop) w',Chg M w w'→(∀b,S b→b<w.heap.size→¬M b)→zBk w' d vs
theorem zBW.at' {S:Nat→Prop} {w:World} {d:Dfa} {vs:List Value} (h:zBW S w d vs):zBk w d vs:=h zAh w (Chg.refl _ _) fun _ _ _ f=>f.elim
theorem zBW.mono {S S':Nat→Prop} {w:World} {d:Dfa} {vs:List Value} (hs:∀b,S b→S' b) (h:zBW S w d vs):zBW S' w d vs:=fun M w' c hM=>h M w' c fun b hb=>hM b (hs b hb)
theorem zBW.chg {S M:Nat→Prop} {w w':World} {d:Dfa} {vs:List Value} (h:zBW S w d vs) (c:Chg M w w') (hM:∀b,S b→b<w.heap.size→¬M b):zBW (fun b=>S b∧b<w.heap.size) w' d vs:=fun M2 w2 c2 h2=>
 h (fun b=>M b∨M2 b) w2 (Chg.trans (c.mono fun b _ hb=>.inl hb) (c2.mono fun b _ hb=>.inr hb)) fun b hb hl=>fun hm=>hm.elim (hM b hb hl) (h2 b ⟨hb,hl⟩ (Nat.lt_of_lt_of_le hl c.size))
theorem zBW.ext {S:Nat→Prop} {w w':World} {d:Dfa} {vs:List Value} (h:zBW S w d vs) (e:Ext w w'):zBW S w' d vs:=(h.chg e fun _ _ _ f=>f.elim).mono fun _ hb=>hb.1
theorem zBW.of_new {m:Nat} {w:World} {d:Dfa} {vs:List Value} (h:zCi m w d vs):zBW (fun b=>m≤b∧b<w.heap.size) w d vs:=fun M w' c hM=>
 h (fun b=>M b∧b<m) w' (c.mono fun b hl hb=>⟨hb,Classical.byContradiction fun hn=>hM b ⟨qO,hl⟩ hl hb⟩) fun b hb=>.inl hb.2
theorem zIK {S:Nat→Prop} {w:World} {be bn Te Tn:Nat} {d:Dfa} {vs:List Value} (hE:Blk w be (d.accept.map (Value.int .i64)).toArray Te) (hN:Blk w bn vs.toArray Tn) (he:S be) (hn:S bn) (hl:vs.length=d.next.length) (hm:d.accept.length≤1000000∧d.next.length≤1000000)
  (hr:∀(i:Nat) u l,vs[i]?=some u→d.next[i]?=some l→∃g T,u=.slice (some ⟨g,0,none⟩) l.length l.length∧S g∧l.length≤1000000∧Blk w g (l.map (Value.int .i64)).toArray T) :
  zBW S w d [.int .i64 d.start,.slice (some ⟨be,0,none⟩) d.accept.length d.accept.length,.slice (some ⟨bn,0,none⟩) d.next.length d.next.length]:=by
 intro M w' c hM;refine ⟨_,_,_,_,rfl,zEv (c.keep (hM be he hE.lt) hE) rfl qO,vs,?_,hl,?_⟩
 ·have:=zFk (w:=w') (b:=bn) (t:=Tn) (k:=1) (cap:=vs.length) (rows:=vs.map fun x=>[x]) (by rw[show (vs.map fun x=>[x]).flatten=vs by simp[List.flatten_eq_flatMap,List.flatMap_map]];exact c.keep (hM bn hn hN.lt) hN) (by intro r hr;simp only[List.mem_map] at hr;obtain ⟨x,_,rfl⟩:=hr;rfl) (by simp;omega) qP;rw[←hl];simpa using this
 ·intro i u l hu hi;obtain ⟨g,T,rfl,hS,aa,hB⟩:=hr i u l hu hi;exact zEv (c.keep (hM g hS hB.lt) hB) rfl qO
def zJb (S:Nat→Prop) (d:Dfa) (r:Value) (w:World):Prop:=∃ea ec na nc,r=.agg #[.int .i64 d.start,.slice ea d.accept.length ec,.slice na d.next.length nc]∧zBW S w d [.int .i64 d.start,.slice ea d.accept.length ec,.slice na d.next.length nc]
def zBY (c:Nat):Dfa:=⟨0,[0],[List.replicate c (-1)]⟩
def zGc (c:Nat):Dfa:=⟨0,[-1],[List.replicate c (-1)]⟩
theorem zKL (w0:World) (c:Nat) (hc:1≤c∧c≤16):Ret prog 152 #[.int .i64 ((c:Nat):Int)] w0 fun r w=>zJb (fun b=>w0.heap.size≤b) (zBY c) r w∧Ext w0 w:=by
  refine qR func152 rfl ntmps152 rfl (fun E=>(zAA (zBH (c:=#[(I6 0),(.slice none 0 0),(.slice none 0 0)]) qD zBf rfl ?_)));intro br wr Nr;have Fr:=Nr.ge E;replace E:=E.ext Nr.ext;have Br:=Nr.blk;refine zAB (zAA (zAc (ps:=[(0,(I6 0))]) (c:=#[(I6 0)]) qD rfl underlying22 zAy zDI qD qD qK ?_));intro be we Ne;have Fe:=Ne.ge E;have Oe_br:=Ne.lt Br;replace Br:=Ne.keep Br;replace E:=E.ext Ne.ext;have Be:=Ne.blk;refine zAc (ps:=[(0,(I6 (-1)))]) (c:=#[(I6 (-1))]) qD rfl underlying22 zAy zDI qD qD qK ?_;intro bm wm Nm;have Fm:=Nm.ge E;have Om_br:=Nm.lt Br;have Om_be:=Nm.lt Be;replace Br:=Nm.keep Br;replace Be:=Nm.keep Be;replace E:=E.ext Nm.ext;have Bm:=Nm.blk;refine qM _ rfl ?_;have hlt:br<(wm).heap.size∧w0.heap.size≤(wm).heap.size:=⟨Br.lt,E.size⟩;refine qE rfl (zAQ func74 kQ kQ rfl) (zGB _ bm 1 c (-1) _ Bm hc.1 qO) ?_;rintro _ w9 ⟨⟨g,rfl,hg0,hG⟩,X9⟩;replace Br:=X9.keep Br;replace Be:=X9.keep Be;replace Bm:=X9.keep Bm;replace E:=E.ext X9;have hx:w0.heap.size≤g∧br<g:=⟨qO,qO⟩;refine zAc (ps:=[(0,(.slice (some ⟨g,0,none⟩) c c))]) (c:=#[(.slice (some ⟨g,0,none⟩) c c)]) qD rfl underlying32 zBL zEg qD qD qK ?_;intro bn wn Nn;have Fn:=Nn.ge E;have On_br:=Nn.lt Br;have On_be:=Nn.lt Be;have On_bm:=Nn.lt Bm;have On_g:=Nn.lt hG;replace Br:=Nn.keep Br;replace Be:=Nn.keep Be;replace Bm:=Nn.keep Bm;replace hG:=Nn.keep hG;replace E:=E.ext Nn.ext;have Bn:=Nn.blk;refine qV (zBA (ps:=[(1,(.slice (some ⟨be,0,none⟩) 1 1)),(2,(.slice (some ⟨bn,0,none⟩) 1 1))]) (v:=(.agg #[(I6 0),(.slice (some ⟨be,0,none⟩) 1 1),(.slice (some ⟨bn,0,none⟩) 1 1)])) rfl qK) (zAb (b:=br) (o:=0) (c':=#[(I6 0),(.slice (some ⟨be,0,none⟩) 1 1),(.slice (some ⟨bn,0,none⟩) 1 1)]) rfl rfl qS zAe rfl Br qL rfl ?_);intro w1 S1;replace Be:=S1.keep qO Be;replace Bm:=S1.keep qO Bm;replace hG:=S1.keep qO hG;replace Bn:=S1.keep qO Bn;replace E:=S1.step E qQ;replace Br:=S1.blk;refine zAB (zAV (zBm results152 (vs:=[(.int .i64 0),(.slice (some ⟨be,0,none⟩) 1 1),(.slice (some ⟨bn,0,none⟩) 1 1)]) (b:=br) rfl zAx zAe rfl (Br.cells rfl) ?_));exact ⟨⟨_,_,_,_,rfl,zIK (d:=zBY c) (vs:=[.slice (some ⟨g,0,none⟩) c c]) Be Bn Fe Fn rfl ⟨(by decide:1≤1000000),(by decide:1≤1000000)⟩ (fun i u l hu hi=>by
    cases i with
    | zero=>simp only[zBY,List.getElem?_cons_zero,Option.some.injEq] at hu hi;subst hu;subst hi;exact ⟨g,_,by rw[List.length_replicate],hx.1,by rw[List.length_replicate];omega,hG⟩
    | succ i=>simp[zBY] at hi)⟩,E⟩
end Go.Proofs
namespace Go.Proofs
open Go.Shelf
def Tryz.sortSp_ren:Go.Shelf.Ren:=⟨fun|6=>80|15=>77|14=>124|28=>121|29=>122|20=>163|21=>164|22=>165|23=>166|24=>167|25=>168|26=>169|27=>170|46=>189|47=>159|48=>160|49=>190|50=>191|57=>196|n=>n,fun|22=>23|24=>44|25=>122|3=>3|39=>119|0=>0|53=>96|55=>156|4=>4|46=>148|45=>147|50=>82|5=>5|9=>9|66=>185|70=>189|76=>216|77=>217|n=>n,fun|n=>n⟩
theorem Tryz.sortSp:Go.Proofs.SlLaysF0.n6 prog Tryz.sortSp_ren:={
 mixed:=by kernel_rfl
 f6:=⟨Tryz.f80.name,qD,func80.trans (congrArg some qK)⟩
 f14:=⟨Tryz.f124.name,qD,func124.trans (congrArg some qK)⟩
 f15:=func77.trans (congrArg some qK)
 f20:=⟨Tryz.f163.name,qD,func163.trans (congrArg some qK)⟩
 f21:=⟨Tryz.f164.name,qD,func164.trans (congrArg some qK)⟩
 f22:=⟨Tryz.f165.name,qD,func165.trans (congrArg some qK)⟩
 f23:=⟨Tryz.f166.name,qD,func166.trans (congrArg some qK)⟩
 f24:=⟨Tryz.f167.name,qD,func167.trans (congrArg some qK)⟩
 f25:=⟨Tryz.f168.name,qD,func168.trans (congrArg some qK)⟩
 f26:=⟨Tryz.f169.name,qD,func169.trans (congrArg some qK)⟩
 f27:=⟨Tryz.f170.name,qD,func170.trans (congrArg some qK)⟩
 f28:=func121.trans (congrArg some qK)
 f29:=func122.trans (congrArg some qK)
 f46:=⟨Tryz.f189.name,qD,func189.trans (congrArg some qK)⟩
 f47:=func159.trans (congrArg some qK)
 f48:=func160.trans (congrArg some qK)
 f49:=⟨Tryz.f190.name,qD,func190.trans (congrArg some qK)⟩
 f50:=⟨Tryz.f191.name,qD,func191.trans (congrArg some qK)⟩
 f57:=⟨Tryz.f196.name,qD,func196.trans (congrArg some qK)⟩
 t0:=underlying0
 a0:=Tryz.isAgg0
 z0:=Tryz.sizeOf0
 v0:=Tryz.zeroValue0
 t3:=underlying3
 a3:=Tryz.isAgg3
 z3:=Tryz.sizeOf3
 v3:=Tryz.zeroValue3
 t4:=underlying4
 a4:=Tryz.isAgg4
 z4:=Tryz.sizeOf4
 v4:=Tryz.zeroValue4
 t5:=underlying5
 a5:=Tryz.isAgg5
 z5:=Tryz.sizeOf5
 v5:=Tryz.zeroValue5
 t9:=underlying9
 a9:=Tryz.isAgg9
 z9:=Tryz.sizeOf9
 v9:=Tryz.zeroValue9
 t22:=underlying23
 a22:=Tryz.isAgg23
 z22:=Tryz.sizeOf23
 v22:=Tryz.zeroValue23
 t25:=underlying122
 a25:=Tryz.isAgg122
 z25:=Tryz.sizeOf122
 v25:=Tryz.zeroValue122
 t39:=underlying119
 a39:=Tryz.isAgg119
 z39:=Tryz.sizeOf119
 v39:=Tryz.zeroValue119
 t45:=underlying147
 a45:=Tryz.isAgg147
 z45:=Tryz.sizeOf147
 v45:=Tryz.zeroValue147
 t46:=underlying148
 a46:=Tryz.isAgg148
 z46:=Tryz.sizeOf148
 v46:=Tryz.zeroValue148
 t50:=underlying82
 a50:=Tryz.isAgg82
 z50:=Tryz.sizeOf82
 v50:=Tryz.zeroValue82
 t53:=underlying96
 a53:=Tryz.isAgg96
 z53:=Tryz.sizeOf96
 v53:=Tryz.zeroValue96
 t55:=underlying156
 a55:=Tryz.isAgg156
 z55:=Tryz.sizeOf156
 v55:=Tryz.zeroValue156
 t66:=underlying185
 a66:=Tryz.isAgg185
 z66:=Tryz.sizeOf185
 v66:=Tryz.zeroValue185
 t70:=underlying189
 a70:=Tryz.isAgg189
 z70:=Tryz.sizeOf189
 v70:=Tryz.zeroValue189
 t76:=underlying216
 a76:=Tryz.isAgg216
 z76:=Tryz.sizeOf216
 v76:=Tryz.zeroValue216
 t77:=underlying217
 a77:=Tryz.isAgg217
 z77:=Tryz.sizeOf217
 v77:=Tryz.zeroValue217}
def Tryz.sortI_ren:Go.Shelf.Ren:=⟨fun|189=>45|125=>77|257=>76|128=>121|129=>122|294=>112|295=>113|296=>114|297=>115|298=>116|299=>117|216=>118|300=>119|301=>120|328=>158|329=>159|330=>160|331=>161|332=>162|215=>126|343=>188|n=>n,fun|28=>22|3=>3|46=>119|0=>0|51=>96|53=>156|4=>4|183=>148|182=>147|131=>82|5=>5|9=>9|218=>185|222=>189|228=>216|229=>217|n=>n,fun|n=>n⟩
theorem Tryz.sortI:Go.Proofs.Lays.n189 prog Tryz.sortI_ren:={
 mixed:=by kernel_rfl
 f125:=func77.trans (congrArg some qK)
 f128:=func121.trans (congrArg some qK)
 f129:=func122.trans (congrArg some qK)
 f189:=func45.trans (congrArg some qK)
 f215:=func126.trans (congrArg some qK)
 f216:=func118.trans (congrArg some qK)
 f257:=func76.trans (congrArg some qK)
 f294:=func112.trans (congrArg some qK)
 f295:=func113.trans (congrArg some qK)
 f296:=func114.trans (congrArg some qK)
 f297:=func115.trans (congrArg some qK)
 f298:=func116.trans (congrArg some qK)
 f299:=func117.trans (congrArg some qK)
 f300:=func119.trans (congrArg some qK)
 f301:=func120.trans (congrArg some qK)
 f328:=func158.trans (congrArg some qK)
 f329:=func159.trans (congrArg some qK)
 f330:=func160.trans (congrArg some qK)
 f331:=func161.trans (congrArg some qK)
 f332:=func162.trans (congrArg some qK)
 f343:=func188.trans (congrArg some qK)
 t0:=underlying0
 a0:=Tryz.isAgg0
 z0:=Tryz.sizeOf0
 v0:=Tryz.zeroValue0
 t3:=underlying3
 a3:=Tryz.isAgg3
 z3:=Tryz.sizeOf3
 v3:=Tryz.zeroValue3
 t4:=underlying4
 a4:=Tryz.isAgg4
 z4:=Tryz.sizeOf4
 v4:=Tryz.zeroValue4
 t5:=underlying5
 a5:=Tryz.isAgg5
 z5:=Tryz.sizeOf5
 v5:=Tryz.zeroValue5
 t9:=underlying9
 a9:=Tryz.isAgg9
 z9:=Tryz.sizeOf9
 v9:=Tryz.zeroValue9
 t28:=underlying22
 a28:=Tryz.isAgg22
 z28:=Tryz.sizeOf22
 v28:=Tryz.zeroValue22
 t46:=underlying119
 a46:=Tryz.isAgg119
 z46:=Tryz.sizeOf119
 v46:=Tryz.zeroValue119
 t51:=underlying96
 a51:=Tryz.isAgg96
 z51:=Tryz.sizeOf96
 v51:=Tryz.zeroValue96
 t53:=underlying156
 a53:=Tryz.isAgg156
 z53:=Tryz.sizeOf156
 v53:=Tryz.zeroValue156
 t131:=underlying82
 a131:=Tryz.isAgg82
 z131:=Tryz.sizeOf82
 v131:=Tryz.zeroValue82
 t182:=underlying147
 a182:=Tryz.isAgg147
 z182:=Tryz.sizeOf147
 v182:=Tryz.zeroValue147
 t183:=underlying148
 a183:=Tryz.isAgg148
 z183:=Tryz.sizeOf148
 v183:=Tryz.zeroValue148
 t218:=underlying185
 a218:=Tryz.isAgg185
 z218:=Tryz.sizeOf185
 v218:=Tryz.zeroValue185
 t222:=underlying189
 a222:=Tryz.isAgg189
 z222:=Tryz.sizeOf189
 v222:=Tryz.zeroValue189
 t228:=underlying216
 a228:=Tryz.isAgg216
 z228:=Tryz.sizeOf216
 v228:=Tryz.zeroValue216
 t229:=underlying217
 a229:=Tryz.isAgg217
 z229:=Tryz.sizeOf217
 v229:=Tryz.zeroValue217}
def Tryz.compI_ren:Go.Shelf.Ren:=⟨fun|20=>46|n=>n,fun|22=>22|3=>3|4=>4|0=>0|n=>n,fun|n=>n⟩
theorem Tryz.compI:Go.Proofs.Lays2.n20 prog Tryz.compI_ren:={
 mixed:=by kernel_rfl
 f20:=func46.trans (congrArg some qK)
 t0:=underlying0
 a0:=Tryz.isAgg0
 z0:=Tryz.sizeOf0
 v0:=Tryz.zeroValue0
 t3:=underlying3
 a3:=Tryz.isAgg3
 z3:=Tryz.sizeOf3
 v3:=Tryz.zeroValue3
 t4:=underlying4
 a4:=Tryz.isAgg4
 z4:=Tryz.sizeOf4
 v4:=Tryz.zeroValue4
 t22:=underlying22
 a22:=Tryz.isAgg22
 z22:=Tryz.sizeOf22
 v22:=Tryz.zeroValue22
 i3:=by kernel_rfl}
end Go.Proofs
namespace Go.Proofs
open Go Go.Eng Go.Sort
set_option maxRecDepth 100000
structure VSp where
 s:Sp
 ok:vSp s
instance:Inhabited VSp:=⟨⟨(0,0),by unfold vSp;simp⟩⟩
def zQg (s:VSp):List Value:=zBl s.s
theorem zPN {α:Type} [Inhabited α] (enc:α→List Value) (k:Nat) (w:World) (g off m:Nat) (dk:Array α) (os:Array Obj):Chg (fun x=>x=g) w (sortWorldK enc k w g off m dk os):=by
 refine ⟨rfl,rfl,rfl,Nat.le_add_right _ _,?_,fun b hb aa=>?_⟩
 ·simp[sortWorldK,grow,putRowK,putRow,mapBlock]
 ·simp only[sortWorldK,grow,putRowK,putRow,mapBlock];rw[Array.getElem?_append_left (by simpa using hb),Array.getElem?_modify,if_neg (fun h=>aa h.symm)];rfl
theorem own_holds {w:World} {base g n c:Nat} {d:List VSp} (h:w.ownsRow base TSp 2 (.slice (some ⟨g,0,none⟩) n c) n ((d.map VSp.s).map zBl).flatten) (hn:d.length=n):HoldsK zQg 2 w g 0 d.toArray:=by
 have ac:zBK w (.slice (some ⟨g,0,none⟩) n c) (d.map VSp.s):=zDS h (by intro x hx;simp only[List.mem_map] at hx;obtain ⟨p,_,rfl⟩:=hx;rfl) (by simpa using hn) qD;intro j hj;rw[size_flatK] at hj;simp only[List.size_toArray] at hj;have aa:j / 2<d.length:=qO
 obtain ⟨b,o,ab,ad⟩:=zBa ac qO;simp only[Option.some.injEq,Addr.mk.injEq,and_true] at ab;obtain ⟨rfl,rfl⟩:=ab;have hx:(d.map VSp.s)[j / 2]?=some d[j / 2].s:=by rw[List.getElem?_map,List.getElem?_eq_getElem aa];rfl
 have hc:=ad (j / 2) _ hx;rw[get_flatK _ _ _ _ (by simpa using hj)];have he:d.toArray[j / 2]! = d[j / 2]:=by rw[getElem!_pos d.toArray (j / 2) (by simpa using aa)];simp
 rw[he];constructor
 ·rcases Nat.mod_two_eq_zero_or_one j with h2|h2
  ·have:=hc.at0;rw[h2];rw[show 0+j / 2*2=0+j from qO] at this;simpa[zQg,zBl] using this
  ·have:=hc.at1;rw[h2];rw[show 0+j / 2*2+1=0+j from qO] at this;simpa[zQg,zBl] using this
 ·rcases h.2 with ⟨h1,_⟩|⟨g',cap,cur,hv,_,hg,_⟩
  ·simp at h1
  ·simp only[Value.slice.injEq,Option.some.injEq,Addr.mk.injEq,and_true] at hv;obtain ⟨rfl,_⟩:=hv;simp[World.frozen?,hg]
theorem zMc {w:World} {g n c:Nat} {d:Array VSp} (h:HoldsK zQg 2 w g 0 d) (hn:d.size=n) (hc:n≤c) (hl:n≤8796093022208):zBK w (.slice (some ⟨g,0,none⟩) n c) (d.toList.map VSp.s):=by
  refine ⟨_,c,by simp[hn],by simp;omega,by simp;omega,.inr ⟨g,0,rfl,fun i r hr j u hu=>?_⟩⟩;simp only[List.getElem?_map,Option.map_eq_some_iff] at hr;obtain ⟨s,⟨x,hx,rfl⟩,rfl⟩:=hr;have hi:i<d.size:=by have:=zAE hx;simpa using this
  have hj:j<2:=by have:=zAE hu;simpa[zBl] using this
  have h1:=(HoldsK.cell h hi hj).1;have he:d[i]! = x:=by
    rw[getElem!_pos d i hi];rw[Array.getElem?_toList,Array.getElem?_eq_getElem hi] at hx;simpa using hx
  rw[h1,he]
  match j,hj,hu with
  | 0,_,hu=>simpa[zQg,zBl] using hu
  | 1,_,hu=>simpa[zQg,zBl] using hu
theorem zKJ {P : Program} {f : FuncId} {fn : Func} (hf : P.funcs[f]? = some fn) (hn : (fn.name == "runtime.NumGoroutine") = false) (hb : fn.body.isNone = false) : ∀ args w, (callFunc f args).run P w = .ok (.enter f args) w := fun args w => zFz (vs := args) (w := w) hf hn hb
theorem zQw (w0:World):Ret prog 77 #[.int .u64 0] w0 fun v w=>v=.int .i64 (Lib.bitLen 0:Nat)∧Ext w0 w:=
 (Any.bits_Len (SlLaysF0.n15.bits (P:=prog) (ρ:=Tryz.sortSp_ren) {Tryz.sortSp with}) 0 w0 qO qO).mono fun _ _ ⟨he,hw⟩=>⟨_,he,rfl,by rw[hw];exact Ext.refl _⟩
theorem zWH (w0:World) (a:Option Addr) (c:Nat) (fv:Value):Ret prog 163 #[.slice a 0 c,.int .i64 0,.int .i64 0,fv] w0 fun v w=>v=.tuple #[]∧Ext w0 w:=by
 refine qR func163 rfl ntmps163 rfl (fun E=>(zAA (qM _ rfl (qV (zAv (c:=1) rfl rfl qD) (qA _ rfl (zAB (zAS (zAp (fun nn_ σ W1=>(∃jj_,σ=zCT jj_ [(0,(.slice a 0 c)),(1,(I6 0)),(2,(I6 0)),(3,fv),(8,(I6 1))])∧Chg zAh w0 W1∧nn_=(0:Nat)) (n:=(0:Nat)) ?_ ?_))))))))
 ·exact ⟨zAz.out ⟨rfl,rfl,rfl,rfl,rfl,trivial⟩,E,rfl⟩
 ·clear E;rintro _ _ W1 ⟨⟨j1,rfl⟩,E,rfl⟩;refine zAH (zAA (qM _ rfl (qM _ rfl (qV (zBF rfl rfl) (zAB (zAP rfl (zAn (zAT (zAT (zAg (zFW results163 ?_)))))))))));exact ⟨rfl,E⟩
theorem zVr (w0:World) (a:Option Addr) (c:Nat) (n:Int) (fv:Value):Ret prog 124 #[.slice a 0 c,.int .i64 0,.int .i64 0,.int .i64 n,fv] w0 fun v w=>v=.tuple #[]∧Ext w0 w:=by
 refine qR func124 rfl ntmps124 rfl (fun E=>(zAA (qA _ rfl (zAB (zAA (qA _ rfl (zAB (zAS (zAp (fun nn_ σ W1=>(∃jj_,σ=zCT jj_ [(0,(.slice a 0 c)),(1,(I6 0)),(2,(I6 0)),(4,fv)])∧Chg zAh w0 W1∧nn_=(0:Nat)) (n:=(0:Nat)) ?_ ?_)))))))))
 ·exact ⟨zAz.out ⟨rfl,rfl,rfl,rfl,trivial⟩,E,rfl⟩
 ·clear E;rintro _ _ W1 ⟨⟨j1,rfl⟩,E,rfl⟩;refine zAS (zAA (qM _ rfl (qM _ rfl (qV (zEJ (c:=0) rfl rfl qD) (qA _ rfl (zAB (zAH (zAA (qM _ rfl (qV (zKs rfl rfl) (zAB (zAk rfl (zAA (qM _ rfl (qM _ rfl (qM _ rfl (qM _ rfl ?_)))))))))))))))));refine qE rfl (zAQ func163 kQ kQ rfl) (zWH _ a c fv) ?_;rintro _ w9 ⟨rfl,X9⟩;replace E:=E.ext X9;refine zAB (zAV (zAU (zAi (zAU (zAi (zQe results124 ?_))))));exact ⟨rfl,E⟩
theorem zTy (w0:World) (a:Option Addr) (c:Nat) (fv:Value):Ret prog 80 #[.slice a 0 c,fv] w0 fun v w=>v=.tuple #[]∧Ext w0 w:=by
 refine qR func80 rfl ntmps80 rfl (fun E=>(zAA (qM _ rfl (qV (zAJ underlying23 rfl) (qA _ rfl (zAB (zAF (qM _ rfl (qM _ rfl (qM _ rfl (qV (zDW (c:=0) ⟨_,underlying3⟩ underlying119 rfl (zVV qO)) (qE rfl (zAQ func77 kQ kQ rfl) (zQw _) ?_))))))))))));rintro _ w8 ⟨rfl,X8⟩;replace E:=E.ext X8;refine qM _ rfl (qE rfl (zAQ func124 kQ kQ rfl) (zVr _ a c _ fv) ?_);rintro _ w9 ⟨rfl,X9⟩;replace E:=E.ext X9;refine zAB (zFW results80 ?_);exact ⟨rfl,E⟩
theorem zPM (cf : VSp → VSp → Int) (hO : SWO (ltOf cf)) {f : FuncId} {fn : Func} (hf : (prog).funcs[f]? = some fn) (hn : (fn.name == "runtime.NumGoroutine") = false) (hb : fn.body.isNone = false)
  (hcmp:∀(W:World) (x y:VSp),Ret prog f #[.agg #[.int .i64 x.s.1,.int .i64 x.s.2],.agg #[.int .i64 y.s.1,.int .i64 y.s.2]] W fun v w=>v=.int .i64 (cf x y)∧Ext W w)
  (w0:World) (base:Nat) (v:Value) (l:List Sp) (h:zIn w0 base v l) (hl:l.length≤8796093022208) (hok:∀s∈l,vSp s) :
  Ret prog 80 #[v,.func (.func f) #[] #[]] w0 fun r w=>r=.tuple #[]∧(∃l':List VSp,(l'.map VSp.s).Perm l∧l'.Pairwise (fun s t=>¬cf t s<0)∧zBK w v (l'.map VSp.s))∧Chg (fun x=>v.ownBlock=some x) w0 w:=by
 have eg:=zKJ hf hn hb;obtain ⟨d,rfl⟩:∃d:List VSp,d.map VSp.s=l:=⟨l.pmap VSp.mk hok,by rw[List.map_pmap];simp⟩;have ht:∀w,(isAgg (Tryz.sortSp_ren.t 24)).run prog w=.ok true w:=fun w=>zLq.run zGs w;have hs:∀w,(Go.sizeOf (Tryz.sortSp_ren.t 24)).run prog w=.ok 2 w:=fun w=>zBq.run w;rcases h.2.2 with ⟨rfl,h0⟩|⟨g,af,cur,rfl,hbg,hg,aj,hcm,hcs,ae⟩
 ·have hd:d=[]:=List.eq_nil_of_length_eq_zero (by simpa using h0);subst hd;exact (zTy w0 none 0 (.func (.func f) #[] #[])).mono fun v w' ⟨hv,hw⟩=>⟨hv,⟨[],List.Perm.refl _,List.Pairwise.nil,zCI.nil _ _ _ _⟩,Ext.chg hw⟩
 ·simp only[List.length_map] at *;have hH:=own_holds (d:=d) (n:=d.length) (by have:=h.2;rwa [List.length_map] at this) rfl;have ab:g<w0.heap.size:=(Array.getElem?_eq_some_iff.1 hg).1;have hc:CmpLays prog f #[] zQg 2 cf g 0 d.toArray.size w0:=fun m os dk _ x y=>by
   refine Calls.mono (hcmp _ x y) ?_;rintro e w' ⟨v,rfl,rfl,hx⟩;obtain ⟨q,ai,hw⟩:=Ext.grown hx;exact ⟨rfl,q,ai,hw⟩
  have ad:=AnyQ.slices_SortFunc Tryz.sortSp 2 ht hs zQg (fun _=>rfl) (fun x u hu=>by simp[zQg,zBl] at hu;rcases hu with rfl|rfl<;>rfl) cf hO f #[] g 0 af d.toArray w0 eg hc hH ab (by simp;omega);refine Calls.mono ad ?_;rintro e w' ⟨rfl,d',n,os,hp,ag,rfl⟩;have ac:d'.size=d.length:=by have:=hp.1;simpa using this
  have aa:d'.toList.Perm d:=by
   have h3:=hp.2.2;simp only[List.size_toArray] at h3;rw[show d.length=d'.size from ac.symm,Array.extract_size] at h3;rw[ac] at h3;simpa using h3
  refine ⟨_,rfl,rfl,⟨d'.toList,aa.map _,?_,?_⟩,(zPN zQg 2 w0 g 0 n d' os).mono fun x _ hx=>by subst hx;rfl⟩
  ·rw[List.pairwise_iff_getElem];intro i j hi hj ah;have h4:=ag i j (Nat.zero_le _) ah (by simp at hj⊢;omega);simp only[Array.length_toList] at hi hj;rw[getElem!_pos d' i hi,getElem!_pos d' j hj] at h4;simpa[ltOf] using h4
  ·exact zMc (holdsK_sortWorldK_c zQg 2 w0 g 0 d.toArray d' n os hH ab (by simpa using ac)) ac aj hl
end Go.Proofs
namespace Go.Proofs
open Go Go.Eng Go.Sort
set_option maxRecDepth 100000
def orL:List Int→Int
  | []=>0
  | x::r=>if x≠0 then x else orL r
theorem zWz (w0:World) (v:Value) (l:List Int) (h:zBZ w0 v l):Ret prog 125 #[v] w0 fun r w=>r=.int .i64 (orL l)∧Ext w0 w:=by
 obtain ⟨a,c,rfl⟩:=zCI.form h;have ab:l.length≤9223372036854775807:=by simpa using zCI.le h
 simp only[List.length_map] at h⊢;refine qR func125 rfl ntmps125 rfl (fun E=>(zAA (qA _ rfl (zAB (zAA (qA _ rfl (zAB (zAH (zAA (qM _ rfl (qV (zAJ underlying22 rfl) (qM _ rfl (zAB (zAS (zAp (fun nn_ σ W1=>∃(k:Nat),(∃jj_,σ=zCT jj_ [(3,(I6 0)),(6,(.slice a l.length c)),(7,(I6 (l.length:Int))),(8,(I6 (k:Int)))])∧Chg zAh w0 W1∧(k≤l.length)∧(orL (l.drop k)=orL l)∧nn_=l.length - k) (n:=l.length - 0) ?_ ?_)))))))))))))))
 ·exact ⟨0,zAz.out ⟨rfl,rfl,rfl,rfl,trivial⟩,E,Nat.zero_le _,rfl,rfl⟩
 ·clear E;rintro _ _ W1 ⟨k,⟨j1,rfl⟩,E,hk,ho,rfl⟩;refine zAA (qV (zBF rfl rfl) (zAB (zAH (qC rfl (fun ac=>?_) (fun ac=>?_)))))
  ·obtain ⟨x,hx⟩:=zAN (l:=l) (i:=k) qO;obtain ⟨b,o,rfl,ad⟩:=zBG h qO;rw[zEd hx] at ho;refine zAO (zAC (zAH (zAS (zAA (qV (zAD (b:=b) (o:=o) (len:=l.length) (cap:=c) (i:=k) (o':=o+k) rfl rfl rfl underlying22 zAy qO qO) (qV (zAI rfl zAo (E.cell (fun f=>f) (ad k x hx))) (qA _ rfl (zAB (zAA (qM _ rfl (qM _ rfl (qV (zDA rfl rfl) (zAB (qC rfl (fun aa=>?_) (fun aa=>?_)))))))))))))))
   ·refine zAA (qM _ rfl (qA _ rfl (zAB (zAV (zAi (zAU (zAU (zAi (zAU (zAY results125 (v:=(.int .i64 x)) rfl ?_))))))))));exact ⟨zBJ (by rw[←ho,orL,if_pos aa]),E⟩
   ·refine zAO (zAR (zAC (zAF (qV (zAv rfl rfl (zBb qO)) (qM _ rfl (zAB (zAC ?_)))))));exact ⟨l.length - (k+1),qO,k+1,zAz.out ⟨rfl,rfl,rfl,rfl,trivial⟩,E,qO,(by rw[←ho,orL,if_neg aa]),rfl⟩
  ·have ae:k=l.length:=qO
   refine zAn (zAT (zAT (zAg (zAC (zAA (qM _ rfl (qA _ rfl (zAB (zAV (zAY results125 (v:=(.int .i64 0)) rfl ?_))))))))));exact ⟨zBJ (by rw[←ho,ae,List.drop_length];rfl),E⟩
def zNY (a b:Int):Fct:=fun v w=>∃bb,v=.slice (some ⟨bb,0,none⟩) 2 2∧zBZ w v [a,b]
theorem zJN (a b:Int):zLv (zNY a b):=by
 rintro v w w' e ⟨bb,h1,h2⟩;exact ⟨bb,h1,h2.ext e⟩
theorem zOn {N:Nat} {σ:Env} {w:World} {dst:Option Tmp} {ty:TypeId} {pos:String} {af:Array Edge} {g:Option (Nat×Bool)} {x y:Operand} {a b:Int} (hx:ev σ x=.int .i64 a) (hy:ev σ y=.int .i64 b) :
  zWo prog N ⟨dst,.buildSlice 22 2 #[(0,x),(1,y)],ty,pos,af,g⟩ (zNY a b) σ w:=by
 have hn:=New.mk' w #[.int .i64 a,.int .i64 b] 3;refine zAt (zET (parts:=[(0,x),(1,y)]) (ps:=[(0,.int .i64 a),(1,.int .i64 b)]) (by simp only[List.map,hx,hy]) underlying22 zAy zDI qD qD qK) hn.ext ?_;exact ⟨_,rfl,zFl [a,b] hn.blk qP qP⟩
end Go.Proofs
namespace Go.Proofs
open Go Go.Eng Go.Sort
set_option maxRecDepth 100000
def cfS (x y:VSp):Int:=orL [zHX x.s.1 y.s.1,zHX x.s.2 y.s.2]
theorem zXU (w0:World) (x y:VSp):Ret prog 81 #[.agg #[.int .i64 x.s.1,.int .i64 x.s.2],.agg #[.int .i64 y.s.1,.int .i64 y.s.2]] w0 fun v w=>v=.int .i64 (cfS x y)∧Ext w0 w:=by
 refine qR func81 rfl ntmps81 rfl (fun E=>(zAA (zBQ (v:=(.agg #[(I6 x.s.1),(I6 x.s.2)])) (c:=#[(I6 x.s.1),(I6 x.s.2)]) qD rfl rfl ?_)));intro b1 w1 N1;replace E:=E.ext N1.ext;have B1:=N1.blk;refine zBQ (v:=(.agg #[(I6 y.s.1),(I6 y.s.2)])) (c:=#[(I6 y.s.1),(I6 y.s.2)]) qD rfl rfl ?_;intro b2 w2 N2;replace B1:=N2.keep B1;replace E:=E.ext N2.ext;have B2:=N2.blk;refine qA _ rfl (zAB (zAH ?_));obtain ⟨ai,aa⟩:∃Fs:List Fact,Fs=[.eq (P6 b1 0),.eq (I6 x.s.1),.eq (P6 b2 0),.eq (I6 y.s.1),.eq (I6 (zHX x.s.1 y.s.1)),.eq (P6 b1 1),.eq (I6 x.s.2),.eq (P6 b2 1),.eq (I6 y.s.2),.eq (I6 (zHX x.s.2 y.s.2)),.gen (zNY (zHX x.s.1 y.s.1) (zHX x.s.2 y.s.2)) (zJN _ _),.eq (I6 (cfS x y)),.eq (I6 (cfS x y))]:=⟨_,rfl⟩;refine zLt [5,6,7,8,9,10,11,12,13,14,15,16,4] [[],[0],[],[2],[1,3],[],[5],[],[7],[4,6,8],[4,9],[9,10],[0,1,2,3,4,5,6,7,8,9,10,11]] ai aa mixed qK qK ?_ ?_
 ·intro wd X0;refine DagSteps.cons (fun s' w' X U H=>Or.inl ⟨?_,?_⟩) ?_
  ·exact zAL rfl
  ·exact zAt (zAZ (U 2 rfl) underlying44 rfl zAy rfl) (Ext.refl _) rfl
  refine DagSteps.cons (fun s' w' X U H=>Or.inl ⟨?_,?_⟩) ?_
  ·exact zAL rfl
  ·have e5:s' 5=(.pointer (some ⟨b1,0,none⟩)):=H 0 rfl 5 (.eq (.pointer (some ⟨b1,0,none⟩))) rfl (by rw[aa];rfl);exact zAt (zAI e5 zAo (((X0.trans X).keep B1).cell rfl)) (Ext.refl _) rfl
  refine DagSteps.cons (fun s' w' X U H=>Or.inl ⟨?_,?_⟩) ?_
  ·exact zAL rfl
  ·exact zAt (zAZ (U 3 rfl) underlying44 rfl zAy rfl) (Ext.refl _) rfl
  refine DagSteps.cons (fun s' w' X U H=>Or.inl ⟨?_,?_⟩) ?_
  ·exact zAL rfl
  ·have e7:s' 7=(.pointer (some ⟨b2,0,none⟩)):=H 2 rfl 7 (.eq (.pointer (some ⟨b2,0,none⟩))) rfl (by rw[aa];rfl);exact zAt (zAI e7 zAo (((X0.trans X).keep B2).cell rfl)) (Ext.refl _) rfl
  refine DagSteps.cons (fun s' w' X U H=>Or.inl ⟨?_,?_⟩) ?_
  ·exact zAL rfl
  ·have e6:s' 6=(.int .i64 x.s.1):=H 1 rfl 6 (.eq (.int .i64 x.s.1)) rfl (by rw[aa];rfl);have e8:s' 8=(.int .i64 y.s.1):=H 3 rfl 8 (.eq (.int .i64 y.s.1)) rfl (by rw[aa];rfl);exact zCg (zAQ func83 kQ kQ (zOu e6 e8)) (zIM _ _ _)
  refine DagSteps.cons (fun s' w' X U H=>Or.inl ⟨?_,?_⟩) ?_
  ·exact zAL rfl
  ·exact zAt (zAZ (U 2 rfl) underlying44 rfl zAy rfl) (Ext.refl _) rfl
  refine DagSteps.cons (fun s' w' X U H=>Or.inl ⟨?_,?_⟩) ?_
  ·exact zAL rfl
  ·have aj:s' 10=(.pointer (some ⟨b1,1,none⟩)):=H 5 rfl 10 (.eq (.pointer (some ⟨b1,1,none⟩))) rfl (by rw[aa];rfl);exact zAt (zAI aj zAo (((X0.trans X).keep B1).cell rfl)) (Ext.refl _) rfl
  refine DagSteps.cons (fun s' w' X U H=>Or.inl ⟨?_,?_⟩) ?_
  ·exact zAL rfl
  ·exact zAt (zAZ (U 3 rfl) underlying44 rfl zAy rfl) (Ext.refl _) rfl
  refine DagSteps.cons (fun s' w' X U H=>Or.inl ⟨?_,?_⟩) ?_
  ·exact zAL rfl
  ·have ae:s' 12=(.pointer (some ⟨b2,1,none⟩)):=H 7 rfl 12 (.eq (.pointer (some ⟨b2,1,none⟩))) rfl (by rw[aa];rfl);exact zAt (zAI ae zAo (((X0.trans X).keep B2).cell rfl)) (Ext.refl _) rfl
  refine DagSteps.cons (fun s' w' X U H=>Or.inl ⟨?_,?_⟩) ?_
  ·exact zAL rfl
  ·have ac:s' 11=(.int .i64 x.s.2):=H 6 rfl 11 (.eq (.int .i64 x.s.2)) rfl (by rw[aa];rfl);have af:s' 13=(.int .i64 y.s.2):=H 8 rfl 13 (.eq (.int .i64 y.s.2)) rfl (by rw[aa];rfl);exact zCg (zAQ func83 kQ kQ (zOu ac af)) (zIM _ _ _)
  refine DagSteps.cons (fun s' w' X U H=>Or.inl ⟨?_,?_⟩) ?_
  ·exact zAL rfl
  ·have e9:s' 9=(.int .i64 (zHX x.s.1 y.s.1)):=H 4 rfl 9 (.eq (.int .i64 (zHX x.s.1 y.s.1))) rfl (by rw[aa];rfl);have ah:s' 14=(.int .i64 (zHX x.s.2 y.s.2)):=H 9 rfl 14 (.eq (.int .i64 (zHX x.s.2 y.s.2))) rfl (by rw[aa];rfl);exact zOn e9 ah
  refine DagSteps.cons (fun s' w' X U H=>Or.inl ⟨?_,?_⟩) ?_
  ·exact zAL rfl
  ·obtain ⟨b15,ab,ad⟩:=H 10 rfl 15 (.gen (zNY (zHX x.s.1 y.s.1) (zHX x.s.2 y.s.2)) (zJN _ _)) rfl (by rw[aa];rfl);exact zCg (zAQ func125 kQ kQ (zOv ab)) (zWz _ _ _ (ab▸ad))
  refine DagSteps.cons (fun s' w' X U H=>Or.inl ⟨?_,?_⟩) ?_
  ·exact zAL rfl
  ·have ag:s' 16=(.int .i64 (cfS x y)):=H 11 rfl 16 (.eq (.int .i64 (cfS x y))) rfl (by rw[aa];rfl);exact zAt (zEp ag) (Ext.refl _) rfl
  exact DagSteps.nil
 ·intro s' w3 X3 U H;obtain ⟨j3,rfl⟩:=zAz.out (σ:=s') (l:=[(4,(.int .i64 (cfS x y)))]) ⟨(show s' 4=(.int .i64 (cfS x y)) from H 12 4 (.eq (.int .i64 (cfS x y))) rfl (by rw[aa];rfl)),trivial⟩;clear U H;replace B1:=X3.keep B1;replace B2:=X3.keep B2;replace E:=E.ext X3;refine zAC (zAV (zAY results81 (v:=(.int .i64 (cfS x y))) rfl ?_));exact ⟨rfl,E⟩
theorem zTV (x y:VSp):cfS x y<0↔x.s.1<y.s.1∨x.s.1=y.s.1∧x.s.2<y.s.2:=by
 unfold cfS orL orL orL zHX
 (repeat' split)<;>omega
theorem swoS:SWO (ltOf cfS):=by
 refine ⟨fun x=>?_,fun x y z=>?_,fun x y z=>?_⟩<;>simp only[ltOf,decide_eq_true_eq,decide_eq_false_iff_not,zTV]<;>omega
theorem zTw (w0:World) (base:Nat) (v:Value) (l:List Sp) (h:zIn w0 base v l) (hl:l.length≤8796093022208) (hok:∀s∈l,vSp s) :
  Ret prog 80 #[v,.func (.func 81) #[] #[]] w0 fun r w=>r=.tuple #[]∧(∃ls:List Sp,ls.Perm l∧ls.Pairwise (fun s t=>s.1≤t.1)∧zBK w v ls)∧Chg (fun x=>v.ownBlock=some x) w0 w:=
 (zPM cfS swoS func81 kQ kQ zXU w0 base v l h hl hok).mono fun r w ⟨h1,⟨l',h2,h3,h4⟩,h5⟩=>
  ⟨h1,⟨_,h2,List.pairwise_map.2 (h3.imp fun {s t} hst=>by rw[zTV] at hst;omega),h4⟩,h5⟩
theorem zHk {w w':World} {base e size n cap g i:Nat} {xs:List Value} {cur:Array Value} {v:Value} (h:w.ownsRow base e size (.slice (some ⟨g,0,none⟩) n cap) n xs) (hB:Blk w g cur e) (hi:i<n*size) (hB':Blk w' g (cur.setIfInBounds i v) e):w'.ownsRow base e size (.slice (some ⟨g,0,none⟩) n cap) n (xs.set i v):=by
 rcases h.2 with ⟨h1,_⟩|⟨g',ab,ad,hv,af,hg,ac,ae,ag,aa⟩
 ·simp at h1
 ·simp only[Value.slice.injEq,Option.some.injEq,Addr.mk.injEq,and_true] at hv;obtain ⟨rfl,_,rfl⟩:=hv;unfold Blk at hB hB';rw[hB] at hg;simp only[Option.some.injEq,Obj.cells.injEq,and_true] at hg;obtain ⟨rfl,_⟩:=hg;refine ⟨by simpa using h.1,.inr ⟨g,cap,_,rfl,af,hB',ac,ae,by simpa using ag,?_⟩⟩;rw[←aa,Array.toList_setIfInBounds,List.take_set]
theorem zJo {w:World} {base e size n cap g:Nat} {xs:List Value} (h:w.ownsRow base e size (.slice (some ⟨g,0,none⟩) n cap) n xs):∃cur,Blk w g cur e∧n*size≤cur.size:=by
 rcases h.2 with ⟨h1,_⟩|⟨g',ac,aa,hv,hbg,hg,ad,hcm,ae,ab⟩
 ·simp at h1
 ·simp only[Value.slice.injEq,Option.some.injEq,Addr.mk.injEq,and_true] at hv;obtain ⟨rfl,_,rfl⟩:=hv;exact ⟨aa,hg,by rw[ae];exact Nat.mul_le_mul_right _ ad⟩
theorem zKl (o:List Sp) (c:Sp):((o++[c]).map zBl).flatten[o.length*2+1]?=some (.int .i64 c.2):=by
 rw[zDr,List.getElem?_append_right (by rw[zDt];omega),zDt];rw[show o.length*2+1 - o.length*2=1 from qO];rfl
theorem zRO (o:List Sp) (c:Sp) (x:Int):((o++[c]).map zBl).flatten.set (o.length*2+1) (.int .i64 x)=((o++[(c.1,x)]).map zBl).flatten:=by
 rw[zDr,zDr,List.set_append,if_neg (by rw[zDt];omega),zDt,show o.length*2+1 - o.length*2=1 from qO];rfl
theorem zQL (w0:World) (v:Value) (l:List Sp) (h:zBK w0 v l) (hl:l.length≤8796093022208) (hok:∀s∈l,vSp s) :
  Ret prog 48 #[v] w0 fun r w=>(∃out,zFi l out∧zIn w w0.heap.size r out)∧Ext w0 w:=by
 refine qR func48 rfl ntmps48 rfl (fun E=>(zAA (qA _ rfl (zAB (zAA (qM v rfl (qE rfl (zAQ func66 kQ kQ rfl) (zNm _ v l h qO) ?_)))))));rintro _ w9 ⟨⟨⟨a9,c9,rfl⟩,O9⟩,X9⟩;replace E:=E.ext X9;refine qA _ rfl (zAB (zAA (qM _ rfl (qE rfl (zAQ func80 kQ kQ rfl) (zTw _ w0.heap.size (.slice a9 l.length c9) l ⟨⟨_,_,rfl⟩,O9⟩ qO hok) ?_))));rintro _ aj ⟨rfl,⟨ls,ae,ak,a6⟩,a0⟩;replace E:=E.step a0 (fun x hx hm=>absurd (O9.lt x hm).1 qO);have ay:ls.length=l.length:=ae.length_eq;have ao:∀s∈ls,vSp s:=fun s hs=>hok s (ae.mem_iff.1 hs);have a3:w0.heap.size≤aj.heap.size:=E.size;obtain ⟨base,au⟩:∃base,base=aj.heap.size:=⟨_,rfl⟩;have E2:Chg zAh aj aj:=Chg.refl _ _;refine zAB (zAA (qA _ rfl (zAB (zAH (zAA (qM _ rfl (qV (zAJ underlying23 rfl) (qM _ rfl (zAB (zAS (zAp (fun nn_ σ W1=>∃(k:Nat) (la:Option Addr) (lc:Nat) (m:Nat) (ou:List Sp),(∃jj_,σ=zCT jj_ [(11,(.slice a9 l.length c9)),(12,(I6 (l.length:Int))),(13,(I6 (k:Int))),(3,(.slice la m lc))])∧Chg zAh w0 W1∧Chg zAh aj W1∧(k≤l.length)∧(m=ou.length)∧(m≤k)∧(∀s∈ou,0≤s.2∧s.2≤1114111)∧((ls.drop k).foldl zMY ou=zOU ls)∧(W1.ownsRow base TSp 2 (.slice la m lc) m (ou.map zBl).flatten)∧(base≤W1.heap.size)∧nn_=l.length - k) (n:=l.length - 0) ?_ ?_)))))))))))
 ·exact ⟨0,none,0,0,[],zAz.out ⟨rfl,rfl,rfl,rfl,trivial⟩,E,E2,Nat.zero_le _,rfl,Nat.le_refl _,(fun s hs=>absurd hs List.not_mem_nil),rfl,World.ownsRow_nil _ _ _ _,qO,rfl⟩
 ·clear E E2;rintro _ _ W1 ⟨k,la,lc,m,ou,⟨j1,rfl⟩,E,E2,hk,hm,hlo,aq,ai,aa,ac,rfl⟩;refine zAA (qV (zBF rfl rfl) (zAB (zAH (qC rfl (fun a1=>?_) (fun a1=>?_)))))
  ·obtain ⟨s,hs⟩:=zAN (l:=ls) (i:=k) qO;have hv:=ao s (List.mem_of_getElem? hs);unfold vSp at hv;obtain ⟨b,o,a7,aw⟩:=zBa a6 qO;subst a7;rw[zEd hs,List.foldl_cons] at ai;have ad:=aa;refine zAO (zAC (zAH (zAS (zAA (qV (zAD (b:=b) (o:=o) (len:=l.length) (cap:=c9) (i:=k) (o':=o+k*2) rfl rfl rfl underlying23 zBq qO qO) (qV (zAK rfl zGs zBq rfl ((aw k s hs).ext E2)) (zAd (v:=(.agg #[(I6 s.1),(I6 s.2)])) (c:=#[(I6 s.1),(I6 s.2)]) (n:=2) qD zEG rfl zBq rfl rfl rfl qS ?_)))))));intro bq wq Nq;replace aa:=zAj aa Nq.ext;replace ac:=Nat.le_trans ac Nq.ext.size;replace E:=E.ext Nq.ext;have Bq:=Nq.blk;replace E2:=E2.ext Nq.ext;refine zAB ?_;rcases Bool.eq_false_or_eq_true (decide ((0:Int)<((m:Nat):Int))) with ab|ab
   ·have ag:=ab;replace ag:=of_decide_eq_true ag;obtain ⟨oo,cc,a2⟩:∃oo cc,ou=oo++[cc]:=by rcases zIy ou with rfl|h1;simp at hm;omega;exact h1
    subst a2;have hvc:=aq cc qP;have ar:m=oo.length+1:=by simpa using hm
    obtain ⟨g,rfl,hgb,hgc⟩:=zBe aa qO;have hgn:g≠bq:=fun h1=>by have:=(ad.lt g rfl).2;have:=Nq.eq;omega
    refine zAA (qM _ rfl (qV (zAJ underlying23 rfl) (qA _ rfl (zAB (zCs 13 mixed qK ?_)))));intro w3 X3 _;replace Bq:=X3.keep Bq;replace aa:=zAj aa X3;replace ac:=Nat.le_trans ac X3.size;replace E:=E.ext X3;replace E2:=E2.ext X3;refine qT (zAl rfl) (qT (zDB rfl rfl) (qT (zAl rfl) (zAm (oj:=_) rfl rfl qD (cbk ab) (qT (zAZ rfl underlying44 rfl zAy rfl) (zAm (oj:=_) rfl rfl qD (cbk ab) (qT (zAI rfl zAo (Bq.cell rfl)) (zAm (oj:=_) rfl rfl qD (cbk ab) (qT (zAl rfl) (zAm (oj:=_) rfl rfl qD (cbk ab) (qT (zAl rfl) (zAm (oj:=_) rfl rfl qD (cbk ab) (qT (zEJ rfl rfl (zBb qO)) (zAm (oj:=_) rfl rfl qD (cbk ab) (qT (zAD (b:=g) (o:=0) (len:=m) (cap:=lc) (i:=m - 1) (o':=0+(m - 1)*2) rfl rfl qO underlying23 zBq qO qO) ?_))))))))))))));refine zAm (oj:=_) rfl rfl qD (cbk ab) (qT (zAZ rfl underlying44 rfl zAy rfl) (zAm (oj:=_) rfl rfl qD (cbk ab) (qT (zAI (v:=(I6 cc.2)) rfl zAo ((by have h1:=(aa.cells (g:=g) rfl) (oo.length*2+1) _ (zKl oo cc);rwa [Addr.add_lit,show 0+(oo.length*2+1)=0+(m - 1)*2+1 from qO] at h1))) (zAm (oj:=_) rfl rfl qD (cbk ab) (qT (zAv rfl rfl (zBb qO)) (zAm (oj:=_) rfl rfl qD (cbk ab) (qT (zKs rfl rfl) (zCq (qV (zAr (v:=(.bool (decide ((s.1:Int)≤cc.2+1)))) rfl (by rw[ab];rfl)) (zAB (qC rfl (fun hj=>?_) (fun hj=>?_))))))))))))
    ·obtain ⟨av,hB,hcs⟩:=zJo aa;refine zKU 14 mixed qK ?_;intro w5 X5 _;replace Bq:=X5.keep Bq;replace hB:=X5.keep hB;replace aa:=zAj aa X5;replace ac:=Nat.le_trans ac X5.size;replace E:=E.ext X5;replace E2:=E2.ext X5;refine qT (zAl rfl) (qT (zAl rfl) (qT (zEJ rfl rfl (zBb qO)) (qT (zAl rfl) (qT (zAl rfl) (qT (zEJ rfl rfl (zBb qO)) (qT (zAD (b:=g) (o:=0) (len:=m) (cap:=lc) (i:=m - 1) (o':=0+(m - 1)*2) rfl rfl qO underlying23 zBq qO qO) (qT (zAZ rfl underlying44 rfl zAy rfl) (qT (zAI (v:=(I6 cc.2)) rfl zAo ((by have h1:=(aa.cells (g:=g) rfl) (oo.length*2+1) _ (zKl oo cc);rwa [Addr.add_lit,show 0+(oo.length*2+1)=0+(m - 1)*2+1 from qO] at h1))) (qT (zAZ rfl underlying44 rfl zAy rfl) (qT (zAI rfl zAo (Bq.cell rfl)) (qT (zTF rfl rfl rfl) (qT (zAD (b:=g) (o:=0) (len:=m) (cap:=lc) (i:=m - 1) (o':=0+(m - 1)*2) rfl rfl qO underlying23 zBq qO qO) (qT (zAZ rfl underlying44 rfl zAy rfl) (zCq ?_))))))))))))));have a5:=hB;refine zBC (b:=g) (o:=0+(m - 1)*2+1) (c':=av.setIfInBounds (0+(m - 1)*2+1) (I6 (max cc.2 s.2))) (v:=(I6 (max cc.2 s.2))) rfl rfl rfl zAy hB qO (rfl) ?_;intro w6 S6;replace Bq:=S6.keep qO Bq;replace E:=S6.step E qQ;replace E2:=S6.step E2 (Or.inl qO);replace hB:=S6.blk;have af:=zHk aa a5 (i:=0+(m - 1)*2+1) qO hB;refine zAB (zAR (zAC (zAF (qV (zAv rfl rfl (zBb qO)) (qM _ rfl (zAB (zAC ?_)))))));exact ⟨l.length - (k+1),qO,k+1,some ⟨g,0,none⟩,lc,m,oo++[(cc.1,max cc.2 s.2)],zAz.out ⟨rfl,rfl,rfl,rfl,trivial⟩,E,E2,qO,(by simp[ar]),qO,(fun u hu=>by rcases List.mem_append.1 hu with hu|hu;exact aq u (by simp[hu]);rw[List.mem_singleton] at hu;subst hu;simp only;omega),(by rw[←ai,zGf,if_pos hj]),(by rw[show 0+(m - 1)*2+1=oo.length*2+1 from qO,zRO] at af;exact af),(by have:=af.lt g rfl;omega),rfl⟩
    ·refine zAF (qM _ rfl (qV (zAK (vs:=[(I6 s.1),(I6 s.2)]) rfl zGs zBq rfl (Bq.cells rfl)) (zAc (ps:=[(0,(.agg #[(I6 s.1),(I6 s.2)]))]) (c:=#[(I6 s.1),(I6 s.2)]) qD rfl underlying23 zBq zEG qD qD qK ?_)));intro br wr Nr;replace Bq:=Nr.keep Bq;replace aa:=zAj aa Nr.ext;replace ac:=Nat.le_trans ac Nr.ext.size;replace E:=E.ext Nr.ext;have Br:=Nr.blk;replace E2:=E2.ext Nr.ext;refine zBp (base:=base) (n:=m) (m:=1) (xs:=((oo++[cc]).map zBl).flatten) (news:=[(I6 s.1),(I6 s.2)]) (size:=2) (bytes:=16) (v:=(.slice (some ⟨g,0,none⟩) m lc)) qD underlying23 zBq zKP zEG rfl qD rfl aa rfl (rfl) (Br.cells rfl) qS (by unfold maxLen;omega) qO (ac) ?_;intro v9 a4 al ah ax;replace Bq:=ah.keep (fun h=>by have:=(ad.lt _ h).2;have:=Nq.eq;omega) Bq;replace E:=E.step ah (fun x hx h=>absurd (aa.lt x h).1 qO);replace E2:=E2.step ah (fun x hx h=>absurd (aa.lt x h).1 qO);obtain ⟨ap,an,rfl⟩:=zBO al;refine qA _ rfl (zAB (zAR (zAC (zAF (qV (zAv rfl rfl (zBb qO)) (qM _ rfl (zAB (zAC ?_))))))));exact ⟨l.length - (k+1),qO,k+1,ap,an,m+1,oo++[cc]++[s],zAz.out ⟨rfl,rfl,rfl,rfl,trivial⟩,E,E2,qO,(by simp[ar]),qO,(fun u hu=>by rcases List.mem_append.1 hu with hu|hu;exact aq u hu;rw[List.mem_singleton] at hu;subst hu;omega),(by rw[←ai,zGf,if_neg hj]),(by rw[zDr];exact al),Nat.le_trans ac ah.size,rfl⟩
   ·have ag:=ab;replace ag:=of_decide_eq_false ag;have az:m=0:=qO
    have am:ou=[]:=List.eq_nil_of_length_eq_zero qO;subst am;refine zAA (qM _ rfl (qV (zAJ underlying23 rfl) (qA _ rfl (zAB (zCs 13 mixed qK ?_)))));intro w7 X7 _;replace Bq:=X7.keep Bq;replace aa:=zAj aa X7;replace ac:=Nat.le_trans ac X7.size;replace E:=E.ext X7;replace E2:=E2.ext X7;refine qT (zAl rfl) (qT (zDB rfl rfl) (qT (zAl rfl) (zAf (oj:=_) rfl rfl qD (v:=.bool false) (cbk ab) (Or.inl rfl) (zAf (oj:=_) rfl rfl qD (v:=.bool false) (cbk ab) (Or.inl rfl) (zAf (oj:=_) rfl rfl qD (v:=.bool false) (cbk ab) (Or.inl rfl) (zAf (oj:=_) rfl rfl qD (v:=.bool false) (cbk ab) (Or.inl rfl) (zAf (oj:=_) rfl rfl qD (v:=.bool false) (cbk ab) (Or.inl rfl) (zAf (oj:=_) rfl rfl qD (v:=.bool false) (cbk ab) (Or.inl rfl) (zAf (oj:=_) rfl rfl qD (v:=.bool false) (cbk ab) (Or.inl rfl) (zAf (oj:=_) rfl rfl qD (v:=.bool false) (cbk ab) (Or.inl rfl) (zAf (oj:=_) rfl rfl qD (v:=.bool false) (cbk ab) (Or.inl rfl) (zAf (oj:=_) rfl rfl qD (v:=.bool false) (cbk ab) (Or.inl rfl) (zCq (qV (zAr (v:=(.bool false)) rfl (by rw[ab];rfl)) ?_))))))))))))));refine zAB (zAP rfl (zAF (qM _ rfl (qV (zAK (vs:=[(I6 s.1),(I6 s.2)]) rfl zGs zBq rfl (Bq.cells rfl)) (zAc (ps:=[(0,(.agg #[(I6 s.1),(I6 s.2)]))]) (c:=#[(I6 s.1),(I6 s.2)]) qD rfl underlying23 zBq zEG qD qD qK ?_)))));intro b8 w8 N8;replace Bq:=N8.keep Bq;replace aa:=zAj aa N8.ext;replace ac:=Nat.le_trans ac N8.ext.size;replace E:=E.ext N8.ext;have B8:=N8.blk;replace E2:=E2.ext N8.ext;refine zBp (base:=base) (n:=m) (m:=1) (xs:=[]) (news:=[(I6 s.1),(I6 s.2)]) (size:=2) (bytes:=16) (v:=(.slice la m lc)) qD underlying23 zBq zKP zEG rfl qD rfl aa rfl (rfl) (B8.cells rfl) qS (by unfold maxLen;omega) qO (ac) ?_;intro v9 a4 al ah ax;replace Bq:=ah.keep (fun h=>by have:=(ad.lt _ h).2;have:=Nq.eq;omega) Bq;replace E:=E.step ah (fun x hx h=>absurd (aa.lt x h).1 qO);replace E2:=E2.step ah (fun x hx h=>absurd (aa.lt x h).1 qO);obtain ⟨ap,an,rfl⟩:=zBO al;refine qA _ rfl (zAB (zAR (zAC (zAF (qV (zAv rfl rfl (zBb qO)) (qM _ rfl (zAB (zAC ?_))))))));exact ⟨l.length - (k+1),qO,k+1,ap,an,m+1,[s],zAz.out ⟨rfl,rfl,rfl,rfl,trivial⟩,E,E2,qO,(by simp[az]),qO,(fun u hu=>by rw[List.mem_singleton] at hu;subst hu;omega),(by rw[←ai,zLN]),(by simpa[zBl] using al),Nat.le_trans ac ah.size,rfl⟩
  ·have a8:ls.drop k=[]:=List.drop_eq_nil_of_le qO;rw[a8,List.foldl_nil] at ai;refine zAn (zAT (zAT (zAg (zAC (zAA (qM _ rfl (qA _ rfl (zAB (zAV (zAY results48 (v:=(.slice la m lc)) rfl ?_))))))))));subst ai;subst hm;exact ⟨⟨zOU ls,⟨ls,ae,ak,rfl⟩,⟨la,lc,rfl⟩,zEq aa qO⟩,E⟩
theorem zLi:∀(l:List Sp) (p:Option Int),Canon l→(∀h,p=some h→∀s∈l,h+2≤s.1)→zER p l=0
  | [],_,_,_=>rfl
  | s::r,p,hc,hp=>by
    have hv:=hc.head;unfold vSp at hv;rw[zDR,if_neg (by unfold zFB;simp;omega)];rw[if_neg,zLi r (some s.2) hc.tail (fun h he t ht=>by cases he;exact hc.far t ht)];cases p with
    | none=>simp
    | some h=>have:=hp h rfl s List.mem_cons_self;simp;omega
theorem zHG:∀(l:List Sp) (p:Option Int),zER p l=0→Canon l∧(∀h,p=some h→∀s∈l,h+2≤s.1)
  | [],_,_=>⟨Canon.nil,fun _ _ _ h=>absurd h List.not_mem_nil⟩
  | s::r,p,h0=>by
    rw[zDR] at h0;by_cases hv:zFB s=false
    · rw[if_pos hv] at h0;cases h0
    rw[if_neg hv] at h0;have hg:zER (some s.2) r=0∧∀h,p=some h→h+2≤s.1:=by
      cases p with
      | none=>exact ⟨by simpa using h0,fun _ he=>by cases he⟩
      | some q=>
        by_cases hq:s.1<q+2
        · simp[hq] at h0
        · simp[hq] at h0;exact ⟨h0,fun h he=>by cases he;omega⟩
    obtain ⟨h1,h2⟩:=zHG r (some s.2) hg.1;have aa:vSp s:=by unfold vSp;unfold zFB at hv;simp at hv;omega
    have h3:=h2 s.2 rfl;refine ⟨Canon.cons aa h3 h1,fun h he t ht=>?_⟩;have h4:=hg.2 h he;rcases List.mem_cons.1 ht with rfl|ht
    · omega
    · have:=h3 t ht;unfold vSp at aa;omega
theorem zLj {l:List Sp} (h:Canon l) (hl:l.length≤16):zBR l=0:=by
 unfold zBR;rw[if_neg qO];exact zLi l none h fun _ he=>by cases he
theorem zCM {l:List Sp} (h:zBR l=0):Canon l∧l.length≤16:=by
 unfold zBR at h;split at h
 ·cases h
 ·exact ⟨(zHG l none h).1,qO⟩
def zDd (out:List Sp) (f:Int→Bool):Prop:=Canon out∧∀r,0≤r→r≤1114111→inS out r=f r
theorem zDd.eq {a b:List Sp} {f g:Int→Bool} (ha:zDd a f) (hb:zDd b g) (h:∀r,0≤r→r≤1114111→f r=g r):a=b:=
 zIQ ha.1 hb.1 fun r h0 h1=>by rw[ha.2 r h0 h1,hb.2 r h0 h1,h r h0 h1]
def zWc (w:World) (v:Value) (out:List Sp):Prop:=(∃a c,v=.slice a out.length c)∧zBK w v out
theorem zIn.set {w:World} {base:Nat} {r:Value} {l:List Sp} (h:zIn w base r l):zWc w r l:=⟨h.1,h.at⟩
theorem zRN {w:World} {b:Nat} {x y:Value} {l m:List Sp} {T:Nat} (hB:Blk w b #[x,y] T) (hx:zBK w x l) (hy:zBK w y m):zBv w (.slice (some ⟨b,0,none⟩) 2 2) [l,m]:=by
  refine ⟨[x,y],⟨_,2,rfl,qP,qP,.inr ⟨b,0,rfl,fun i r hr j u hu=>?_⟩⟩,rfl,fun i u l' hu hl=>?_⟩
  · match i,hr with
    | 0,hr=>simp at hr;subst hr;match j,hu with|0,hu=>simp at hu;subst hu;exact hB.cell rfl
    | 1,hr=>simp at hr;subst hr;match j,hu with|0,hu=>simp at hu;subst hu;exact hB.cell rfl
  · match i,hu with
    | 0,hu=>simp at hu hl;subst hu;subst hl;exact hx
    | 1,hu=>simp at hu hl;subst hu;subst hl;exact hy
theorem zDd.join {l out:List Sp} (h:zFi l out) (hv:∀s∈l,vSp s):zDd out (inS l)∧out.length≤l.length:=
 let ⟨h1,h2,h3⟩:=h.all hv
 ⟨⟨h1,fun r _ _=>h2 r⟩,h3⟩
theorem zDd.self {l:List Sp} (h:Canon l):zDd l (inS l):=⟨h,fun _ _ _=>rfl⟩
theorem zSW (w0:World) (u v:Value) (a b:List Sp) (ha:zBK w0 u a) (hb:zBK w0 v b) (ca:Canon a) (cb:Canon b) (la:a.length≤1000) (lb:b.length≤1000) :
  Ret prog 85 #[u,v] w0 fun r w=>(∃out,zDd out (fun r=>inS a r && inS b r)∧out.length≤a.length+b.length+3∧zWc w r out)∧Ext w0 w:=by
 refine qR func85 rfl ntmps85 rfl (fun E=>(zAA (qA _ rfl (zAB (zAA (qM u rfl (qE rfl (zAQ func127 kQ kQ rfl) (zPa _ u a ha qO ca.ok) ?_)))))));rintro _ w9 ⟨⟨⟨xa,xc,rfl⟩,O9⟩,X9⟩;replace E:=E.ext X9;have hA:zIn w9 w0.heap.size (.slice xa (zGb a).length xc) (zGb a):=⟨⟨_,_,rfl⟩,O9⟩;refine qM v rfl (qE rfl (zAQ func127 kQ kQ rfl) (zPa _ v b (hb.ext E) qO cb.ok) ?_);rintro _ w8 ⟨⟨⟨ya,yc,rfl⟩,O8⟩,X8⟩;replace E:=E.ext X8;have ab:zIn w8 w9.heap.size (.slice ya (zGb b).length yc) (zGb b):=⟨⟨_,_,rfl⟩,O8⟩;have n1:=zJr a;have n2:=zJr b;refine zAc (ps:=[(0,(.slice xa ((zGb a).length) xc)),(1,(.slice ya ((zGb b).length) yc))]) (c:=#[(.slice xa ((zGb a).length) xc),(.slice ya ((zGb b).length) yc)]) qD rfl underlying35 zCd zOx qD qD qK ?_;intro bq wq Nq;replace E:=E.ext Nq.ext;have Bq:=Nq.blk;refine qE rfl (zAQ func128 kQ kQ rfl) (zSV _ _ [zGb a,zGb b] (zRN Bq ((hA.at.ext X8).ext Nq.ext) (ab.at.ext Nq.ext)) (by simp;omega)) ?_;rintro _ w7 ⟨⟨⟨ja,jc,rfl⟩,O7⟩,X7⟩;replace Bq:=X7.keep Bq;replace E:=E.ext X7;have hS:zIn w7 wq.heap.size (.slice ja [zGb a,zGb b].flatten.length jc) [zGb a,zGb b].flatten:=⟨⟨_,_,rfl⟩,O7⟩;have hv:∀s∈[zGb a,zGb b].flatten,vSp s:=fun s hs=>by simp at hs;rcases hs with hs|hs;exact (zGa ca).ok s hs;exact (zGa cb).ok s hs
 refine qE rfl (zAQ func48 kQ kQ rfl) (zQL _ _ _ hS.at (by simp;omega) hv) ?_;rintro _ w6 ⟨⟨j,hj,⟨⟨ka,kc,rfl⟩,O6⟩⟩,X6⟩;replace Bq:=X6.keep Bq;replace E:=E.ext X6;have hK:zIn w6 w7.heap.size (.slice ka j.length kc) j:=⟨⟨_,_,rfl⟩,O6⟩;obtain ⟨aa,ac⟩:=zDd.join hj hv;have hj3:j.length≤(zGb a).length+(zGb b).length:=by simpa using ac
 have n3:=zJr j;refine qE rfl (zAQ func127 kQ kQ rfl) (zPa _ _ j hK.at qO aa.1.ok) ?_;rintro v5 w5 ⟨O5,X5⟩;replace Bq:=X5.keep Bq;replace E:=E.ext X5;refine qA _ rfl (zAB (zAV (zAY results85 (v:=v5) rfl ?_)));exact ⟨⟨zGb j,⟨zGa aa.1,fun r h2 h3=>by rw[zJq aa.1 h2 h3,aa.2 r h2 h3];simp[zDO,zJq ca h2 h3,zJq cb h2 h3]⟩,qO,O5.set⟩,E⟩
end Go.Proofs
namespace Go.Proofs
open Go Go.Eng Go.Sort
set_option maxRecDepth 100000
abbrev zWn:Nat:=3
theorem ownI_holds {w:World} {base g n c:Nat} {l:List Int} (h:w.ownsRow base zWn 1 (.slice (some ⟨g,0,none⟩) n c) n (l.map (Value.int .i64))):Sort.Holds (Value.int .i64) w g 0 l.toArray:=by
 intro j hj;simp only[List.size_toArray] at hj;have hx:l[j]?=some l[j]:=List.getElem?_eq_getElem hj;have h1:=h.cells (g:=g) rfl j (.int .i64 l[j]) (by simp[hx]);rw[Addr.add_lit] at h1;have he:l.toArray[j]! = l[j]:=by rw[getElem!_pos l.toArray j (by simpa using hj)];simp
 rw[he];refine ⟨h1,?_⟩;rcases h.2 with ⟨h1,_⟩|⟨g',cap,cur,hv,_,hg,_⟩
 ·simp at h1
 ·simp only[Value.slice.injEq,Option.some.injEq,Addr.mk.injEq,and_true] at hv;obtain ⟨rfl,_⟩:=hv;simp[World.frozen?,hg]
theorem zOX {w:World} {g n c:Nat} {l:List Int} (h:Sort.Holds (Value.int .i64) w g 0 l.toArray) (hn:l.length=n) (hc:n≤c) (hl:n≤9223372036854775807):zBZ w (.slice (some ⟨g,0,none⟩) n c) l:=by
 refine ⟨_,c,by simp[hn],by simp;omega,by simp;omega,.inr ⟨g,0,rfl,fun i r hr j u hu=>?_⟩⟩;simp only[List.getElem?_map,Option.map_eq_some_iff] at hr;obtain ⟨x,hx,rfl⟩:=hr;have hi:=zAE hx;have hj:j<1:=by have:=zAE hu;simpa[zMa] using this
 obtain rfl:j=0:=qO
 have h1:=(h i (by simpa using hi)).1;have he:l.toArray[i]! = x:=by
  rw[getElem!_pos l.toArray i (by simpa using hi)];rw[List.getElem?_eq_getElem hi] at hx;simpa using hx
 rw[he] at h1;simp[zMa] at hu;subst hu;simpa using h1
theorem zHh {α:Type} [Inhabited α] (enc:α→Value) (w:World) (g off m:Nat) (dk:Array α) (os:Array Obj):Chg (fun x=>x=g) w (grow (putRow enc (Sort.ahead w m) g off dk) os):=by
 refine ⟨rfl,rfl,rfl,Nat.le_add_right _ _,?_,fun b hb aa=>?_⟩
 ·simp[grow,putRow,mapBlock,Sort.ahead]
 ·simp only[grow,putRow,mapBlock,Sort.ahead];rw[Array.getElem?_append_left (by simpa using hb),Array.getElem?_modify,if_neg (fun h=>aa h.symm)]
def leB (x y:Int):Bool:=decide (x≤y)
def zLw (l:List Sp) (k:Int):Prop:=k=0∨∃s∈l,k=s.1∨(s.2<1114111∧k=s.2+1)
theorem zDV {α:Type} {l:List α} {k:Nat} {x:α} (h:l[k]?=some x):l.take (k+1)=l.take k++[x]:=by rw[List.take_add_one,h];rfl
def zFp (l:List Sp) (p:List Int):Prop:=p.Pairwise (· < ·)∧∀k,k∈p↔zLw l k
end Go.Proofs
namespace Go.Proofs
open Go Go.Eng Go.Sort
set_option maxRecDepth 100000
def nx (p:List Int) (k:Nat):Int:=(p[k]?).getD 1114112
def zOr (f:Int→Bool) (p:List Int):Prop:=∀a r,a∈p→a≤r→r≤1114111→(∀k∈p,k≤a∨r<k)→f r=f a
structure CInv (p:List Int) (f:Int→Bool) (ou:List Sp) (k:Nat):Prop where
 can:Canon ou
 low:∀s∈ou,s.2<nx p k
 mem:∀r,0≤r→r<nx p k→inS ou r=f r
theorem zDw {l:List Sp} {p:List Int} (h:zFp l p) (hok:∀s∈l,vSp s) {k:Int} (hk:k∈p):0≤k∧k≤1114111:=by
 rcases (h.2 k).1 hk with h1|⟨s,hs,h1⟩
 ·omega
 ·have:=hok s hs;unfold vSp at this;omega
theorem zUQ {p:List Int} (h:p.Pairwise (· < ·)) {k:Nat} {x:Int} (hx:p[k]?=some x) (hb:∀q∈p,q≤1114111):x<nx p (k+1):=by
  unfold nx;cases hy:p[k+1]? with
  | none=>have:=hb x (List.mem_of_getElem? hx);simp;omega
  | some y=>
    have h1:=zAE hy;have h2:=List.pairwise_iff_getElem.1 h k (k+1) qO h1 qO;rw[List.getElem?_eq_getElem qO] at hx hy;simp at hx hy;simp;omega
theorem zOI {p:List Int} (h:p.Pairwise (· < ·)) {k:Nat} {x r:Int} (hx:p[k]?=some x) (hr:r<nx p (k+1)):∀q∈p,q≤x∨r<q:=by
 intro q hq;obtain ⟨j,hj⟩:=List.mem_iff_getElem?.1 hq;have aa:=zAE hj;have ab:=zAE hx;rw[List.getElem?_eq_getElem aa] at hj;rw[List.getElem?_eq_getElem ab] at hx;simp at hj hx;rcases Nat.lt_trichotomy j k with h1|h1|h1
 ·have:=List.pairwise_iff_getElem.1 h j k aa ab h1;omega
 ·subst h1;omega
 ·right;unfold nx at hr;rw[List.getElem?_eq_getElem (show k+1<p.length by omega)] at hr;simp at hr;rcases Nat.eq_or_lt_of_le (show k+1≤j by omega) with h2|h2
  ·subst h2;omega
  ·have:=List.pairwise_iff_getElem.1 h (k+1) j qO aa h2;omega
theorem zKv {l:List Sp} {p:List Int} (h:zFp l p) (hok:∀s∈l,vSp s):nx p 0=0:=by
  have h0:(0:Int)∈p:=(h.2 0).2 (.inl rfl);cases p with
  | nil=>cases h0
  | cons x r=>
    unfold nx;simp;rcases List.mem_cons.1 h0 with h1|h1
    · omega
    · have h2:=(List.pairwise_cons.1 h.1).1 0 h1;have h3:=zDw h hok (k:=x) List.mem_cons_self;omega
theorem CInv.same {l:List Sp} {p:List Int} {f:Int→Bool} (h:zFp l p) (hok:∀s∈l,vSp s) (hc:zOr f p) {k:Nat} {lo r:Int} (hlo:p[k]?=some lo) (h0:lo≤r) (h1:r<nx p (k+1)):f r=f lo:=by
  have hb:nx p (k+1)≤1114112:=by
    unfold nx;cases hy:p[k+1]? with
    | none=>simp
    | some y=>have:=zDw h hok (List.mem_of_getElem? hy);simp;omega
  exact hc lo r (List.mem_of_getElem? hlo) h0 qO (zOI h.1 hlo h1)
theorem zVz {p:List Int} {k:Nat} {x:Int} (h:p[k]?=some x):nx p k=x:=by unfold nx;rw[h];rfl
theorem zQN {l:List Sp} {p:List Int} (h1:∀s∈l,s.1∈p) (h2:∀s∈l,s.2<1114111→s.2+1∈p):zOr (inS l) p:=by
 intro a r ha har hr aa;rw[Bool.eq_iff_iff,zEV,zEV];have ab:∀s∈l,(s.1≤r∧r≤s.2)↔(s.1≤a∧a≤s.2):=fun s hs=>by
  have q1:=aa s.1 (h1 s hs);by_cases h3:s.2<1114111
  ·have q2:=aa (s.2+1) (h2 s hs h3);omega
  ·omega
 constructor
 ·rintro ⟨s,hs,h⟩;exact ⟨s,hs,(ab s hs).1 h⟩
 ·rintro ⟨s,hs,h⟩;exact ⟨s,hs,(ab s hs).2 h⟩
theorem zKw {ll:List (List Sp)} {p:List Int} (h:zFp ll.flatten p) {l:List Sp} (hl:l∈ll):zOr (inS l) p:=
 zQN (fun s hs=>(h.2 _).2 (.inr ⟨s,List.mem_flatten.2 ⟨l,hl,hs⟩,.inl rfl⟩)) (fun s hs hm=>(h.2 _).2 (.inr ⟨s,List.mem_flatten.2 ⟨l,hl,hs⟩,.inr ⟨hm,rfl⟩⟩))
theorem zTO:∀{p:List Int} {lo hi:Int},p.Pairwise (· < ·)→(∀q∈p,lo≤q∧q≤hi)→lo≤hi+1→((p.length:Nat):Int)≤hi - lo+1
  | [],_,_,_,_,h=>by simp;omega
  | x::r,lo,hi,hp,hb,h=>by
    have h1:=hb x List.mem_cons_self;have h2:=zTO (lo:=x+1) (hi:=hi) (List.pairwise_cons.1 hp).2 (fun q hq=>⟨by have:=(List.pairwise_cons.1 hp).1 q hq;omega,(hb q (List.mem_cons_of_mem _ hq)).2⟩) qO;simp only[List.length_cons];omega
theorem zUG {p:List Int} (hp:p.Pairwise (· < ·)) (hb:∀q∈p,0≤q∧q≤1114111):p.length≤1114112:=by
 have:=zTO (lo:=0) (hi:=1114111) hp hb qO;omega
end Go.Proofs
namespace Go.Proofs
open Go Go.Eng Go.Sort
set_option maxRecDepth 100000
theorem zQu {a b c d:Int} (h1:0≤a) (h2:a≤b) (h3:b+2≤c) (h4:c≤d) (h5:d≤1114111):Canon [(a,b),(c,d)]:=
 Canon.cons ⟨h1,h2,by show b≤1114111;omega⟩ (fun t ht=>by rw[List.mem_singleton] at ht;subst ht;exact h3) (Canon.one ⟨by show 0≤c;omega,h4,h5⟩)
end Go.Proofs
namespace Go.Proofs
open Go Go.Eng Go.Sort
set_option maxRecDepth 100000
theorem zLC:∀{p q:List Int},p.Pairwise (· < ·)→q.Pairwise (· < ·)→(∀x,x∈p↔x∈q)→p=q
  | [],[],_,_,_=>rfl
  | [],y::q,_,_,h=>absurd ((h y).2 List.mem_cons_self) List.not_mem_nil
  | x::p,[],_,_,h=>absurd ((h x).1 List.mem_cons_self) List.not_mem_nil
  | x::p,y::q,hp,hq,h=>by
    have h1:=List.pairwise_cons.1 hp;have h2:=List.pairwise_cons.1 hq;have e:x=y:=by
      rcases List.mem_cons.1 ((h x).1 List.mem_cons_self) with h3|h3
      · exact h3
      · rcases List.mem_cons.1 ((h y).2 List.mem_cons_self) with h4|h4
        · exact h4.symm
        · have:=h1.1 y h4;have:=h2.1 x h3;omega
    subst e;rw[zLC h1.2 h2.2 fun z=>?_];constructor
    · intro hz;rcases List.mem_cons.1 ((h z).1 (List.mem_cons_of_mem _ hz)) with h3|h3
      · subst h3;have:=h1.1 z hz;omega
      · exact h3
    · intro hz;rcases List.mem_cons.1 ((h z).2 (List.mem_cons_of_mem _ hz)) with h3|h3
      · subst h3;have:=h2.1 z hz;omega
      · exact h3
end Go.Proofs
namespace Go.Proofs
open Go Go.Eng Go.Sort
def zBS (ll:List (List Sp)) (r:Int):List Bool:=ll.map fun l=>inS l r
def zLz (acc:List (List Bool)) (m:List Bool):List (List Bool):=if m∈acc then acc else acc++[m]
def zCu (l:List (List Bool)):List (List Bool):=l.foldl zLz []
theorem zIG (l:List (List Bool)) (m:List Bool):zCu (l++[m])=zLz (zCu l) m:=by simp[zCu,List.foldl_append]
theorem zNt {acc:List (List Bool)} {m x:List Bool}:x∈zLz acc m↔x∈acc∨x=m:=by
 unfold zLz;split
 ·constructor
  ·exact .inl
  ·rintro (h|rfl)<;>assumption
 ·simp
theorem zJY {acc:List (List Bool)} {m:List Bool} (h:acc.Nodup):(zLz acc m).Nodup:=by
 unfold zLz;split
 ·exact h
 ·rename_i hm
  rw[List.nodup_append];exact ⟨h,qP,fun a ha b hb=>by rw[List.mem_singleton] at hb;subst hb;exact fun e=>hm (e▸ha)⟩
theorem zFQ {ll:List (List Sp)} {p:List Int} (hp:zFp ll.flatten p) (hok:∀s∈ll.flatten,vSp s) {i:Nat} {lo r:Int} (hlo:p[i]?=some lo) (h0:lo≤r) (h1:r<nx p (i+1)):zBS ll r=zBS ll lo:=by
 unfold zBS;apply List.map_congr_left;intro l hl;exact CInv.same hp hok (zKw hp hl) hlo h0 h1
structure GInv (ll:List (List Sp)) (p:List Int) (i:Nat) (ks:List (List Bool)) (outs:List (List Sp)):Prop where
 keys:ks=zCu ((p.take i).map (zBS ll))
 nd:ks.Nodup
 len:outs.length=ks.length
 cnt:ks.length≤i
 ok:∀(k:Nat) o,outs[k]?=some o→(∀s∈o,vSp s)∧o.length≤i
 cov:∀r,0≤r→r<nx p i→zBS ll r∈ks
 mem:∀(k:Nat) key o r,ks[k]?=some key→outs[k]?=some o→0≤r→r≤1114111→inS o r=(decide (r<nx p i) && decide (zBS ll r=key))
theorem GInv.start {ll:List (List Sp)} {p:List Int} (hp:zFp ll.flatten p) (hok:∀s∈ll.flatten,vSp s):GInv ll p 0 [] [] where
 keys:=rfl
 nd:=List.nodup_nil
 len:=rfl
 cnt:=Nat.le_refl _
 ok:=fun k o h=>by simp at h
 cov:=fun r h0 h1=>by rw[zKv hp hok] at h1;omega
 mem:=fun k key o r h=>by simp at h
theorem zQS {l:List (List Bool)} (h:l.Nodup) {i j:Nat} {x:List Bool} (hi:l[i]?=some x) (hj:l[j]?=some x):i=j:=by
 have h1:=zAE hi;have h2:=zAE hj;rw[List.getElem?_eq_getElem h1] at hi;rw[List.getElem?_eq_getElem h2] at hj;have e:=(Option.some.inj hi).trans (Option.some.inj hj).symm;rcases Nat.lt_trichotomy i j with h3|h3|h3
 ·exact absurd e (List.pairwise_iff_getElem.1 h i j h1 h2 h3)
 ·exact h3
 ·exact absurd e.symm (List.pairwise_iff_getElem.1 h j i h2 h1 h3)
theorem zSC (o:List Sp) (x:Sp) (r:Int):inS (o++[x]) r=(inS o r || (decide (x.1≤r) && decide (r≤x.2))):=by
  induction o with
  | nil=>simp[zCA,zFG]
  | cons y o ih=>simp only[List.cons_append,zCA,ih,Bool.or_assoc]
theorem GInv.step {ll:List (List Sp)} {p:List Int} {i k:Nat} {ks ks1:List (List Bool)} {outs outs1:List (List Sp)} {o:List Sp} {lo:Int} (h:GInv ll p i ks outs) (hp:zFp ll.flatten p) (hok:∀s∈ll.flatten,vSp s) (hlo:p[i]?=some lo)
    (hk:ks1=zLz ks (zBS ll lo)) (hl1:outs1.length=ks1.length) (hsame:∀(j:Nat) q,outs1[j]?=some q→outs[j]?=some q∨(j=ks.length∧q=[]∧zBS ll lo∉ks)) (hkm:ks1[k]?=some (zBS ll lo)) (ho:outs1[k]?=some o) :
    GInv ll p (i+1) ks1 (outs1.set k (o++[(lo,nx p (i+1) - 1)])):=by
  have aj:=zDw hp hok (List.mem_of_getElem? hlo);have af:∀q∈p,q≤1114111:=fun q hq=>(zDw hp hok hq).2;have hnx:=zUQ hp.1 hlo af;have aa:nx p i=lo:=by unfold nx;rw[hlo];rfl
  have al:nx p (i+1)≤1114112:=by
    unfold nx;cases hq:p[i+1]? with
    | none=>simp
    | some y=>have:=af y (List.mem_of_getElem? hq);simp;omega
  have hkl:=zAE ho;have ai:ks1.Nodup:=by rw[hk];exact zJY h.nd
  have ah:vSp (lo,nx p (i+1) - 1):=by unfold vSp;simp;omega
  have ac:∀(j:Nat) ab,ks1[j]?=some ab→j<ks.length→ks[j]?=some ab:=by
    intro j ab h1 h2;rw[hk] at h1;unfold zLz at h1;split at h1
    · exact h1
    · rwa [List.getElem?_append_left h2] at h1
  refine ⟨?_,ai,by simp[hl1],by rw[hk];unfold zLz;have:=h.cnt;split;omega;simp;omega,?_,?_,?_⟩
  · rw[hk,zDV hlo,List.map_append,List.map_cons,List.map_nil,zIG,←h.keys]
  · intro j q hq;rw[List.getElem?_set] at hq;split at hq
    · rename_i hkj
      have ae:=Option.some.inj hq;subst ae;rcases hsame k o ho with h2|⟨_,h2,_⟩
      · have h3:=h.ok k o h2;exact ⟨fun s hs=>by rcases List.mem_append.1 hs with h4|h4;exact h3.1 s h4;rw[List.mem_singleton] at h4;subst h4;exact ah,by simp;omega⟩
      · subst h2;exact ⟨fun s hs=>by simp at hs;subst hs;exact ah,qP⟩
    · rcases hsame j q hq with h2|⟨_,h2,_⟩
      · exact ⟨(h.ok j q h2).1,by have:=(h.ok j q h2).2;omega⟩
      · subst h2;exact ⟨fun s hs=>absurd hs List.not_mem_nil,qP⟩
  · intro r h0 h1;rw[hk,zNt];rcases zON r lo with h2|h2
    · exact .inl (h.cov r h0 (by rw[aa];exact h2))
    · exact .inr (zFQ hp hok hlo h2 h1)
  · intro j ab q r hj hq h0 h1;rw[List.getElem?_set] at hq;split at hq
    · rename_i hkj
      have ae:=Option.some.inj hq;subst ae;subst hkj;rw[hkm] at hj;have ad:=Option.some.inj hj;subst ad;rw[zSC];have am:inS o r=(decide (r<lo) && decide (zBS ll r=zBS ll lo)):=by
        rcases hsame k o ho with h2|⟨_,h2,h3⟩
        · have:=h.mem k _ o r (ac k _ hkm (by have:=zAE h2;have:=h.len;omega)) h2 h0 h1;rw[aa] at this;exact this
        · subst h2;symm;rw[zFG,Bool.and_eq_false_iff];rcases zON r lo with h4|h4
          · right;rw[decide_eq_false_iff_not];intro h5;exact h3 (h5▸h.cov r h0 (by rw[aa];exact h4))
          · left;rw[decide_eq_false_iff_not];omega
      rw[am];rcases zON r lo with h4|h4
      · have e1:decide (r<lo)=true:=decide_eq_true h4;have e2:decide (lo≤r)=false:=decide_eq_false qO;have e3:decide (r<nx p (i+1))=true:=decide_eq_true qO;simp only[e1,e2,e3,Bool.true_and,Bool.false_and,Bool.or_false]
      · have e1:decide (r<lo)=false:=decide_eq_false qO;have e2:decide (lo≤r)=true:=decide_eq_true h4;simp only[e1,e2,Bool.true_and,Bool.false_and,Bool.false_or];rcases zON r (nx p (i+1)) with h5|h5
        · rw[decide_eq_true h5,decide_eq_true (zFQ hp hok hlo h4 h5)];simp;omega
        · rw[decide_eq_false (show ¬r<nx p (i+1) by omega)];simp;omega
    · rename_i hkj
      have ag:ab≠zBS ll lo:=fun e=>by subst e;exact hkj (zQS ai hkm hj)
      rcases hsame j q hq with h2|⟨h2,_,h3⟩
      · have ak:j<ks.length:=by have:=zAE h2;have:=h.len;omega
        have:=h.mem j ab q r (ac j ab hj ak) h2 h0 h1;rw[this,aa];rcases zON r lo with h4|h4
        · rw[decide_eq_true h4,decide_eq_true (show r<nx p (i+1) by omega)]
        · rw[decide_eq_false (show ¬r<lo by omega)];rcases zON r (nx p (i+1)) with h5|h5
          · rw[zFQ hp hok hlo h4 h5,decide_eq_false (show ¬zBS ll lo=ab from fun e=>ag e.symm)];simp
          · rw[decide_eq_false (show ¬r<nx p (i+1) by omega)]
      · exfalso;subst h2;rw[hk] at hj;unfold zLz at hj;rw[if_neg h3,List.getElem?_append_right (Nat.le_refl _)] at hj;simp at hj;exact ag hj.symm
def zJW:List (List Sp)→Int
  | []=>0
  | l::ll=>if zBR l≠0 then zBR l else zJW ll
def zQq (ll:List (List Sp)) (cs:List (List Sp)):Prop:=∃p,zFp ll.flatten p∧cs.length=(zCu (p.map (zBS ll))).length∧∀(k:Nat) key c,(zCu (p.map (zBS ll)))[k]?=some key→cs[k]?=some c→zDd c (fun r=>decide (zBS ll r=key))
def zLE (cs:List (List Sp)):Prop:=(∃c∈cs,16<c.length)∨16<cs.length
def zOd (ll out:List (List Sp)) (e:Int):Prop:=(zJW ll≠0∧e=zJW ll∧out=[])∨(zJW ll=0∧∃cs,zQq ll cs∧((zLE cs∧e=2∧out=[])∨(¬zLE cs∧e=0∧out=cs)))
theorem GInv.done {ll:List (List Sp)} {p:List Int} {ks:List (List Bool)} {outs cs:List (List Sp)} (h:GInv ll p p.length ks outs) (hp:zFp ll.flatten p) (hl:cs.length=outs.length) (hj:∀(k:Nat) o c,outs[k]?=some o→cs[k]?=some c→zFi o c):zQq ll cs:=by
 have aa:=h.keys;rw[List.take_length] at aa;refine ⟨p,hp,by rw[←aa,hl,h.len],fun k ab c hk hc=>?_⟩;rw[←aa] at hk;obtain ⟨o,ho⟩:=zAN (l:=outs) (i:=k) (by have:=zAE hc;omega);have h1:=zDd.join (hj k o c ho hc) (h.ok k o ho).1;refine ⟨h1.1.1,fun r r0 r1=>?_⟩;rw[h1.1.2 r r0 r1,h.mem k ab o r hk ho r0 r1];have:r<nx p p.length:=by unfold nx;rw[List.getElem?_eq_none (Nat.le_refl _)];simp;omega
 rw[decide_eq_true this];simp
end Go.Proofs
namespace Go.Proofs
open Go Go.Eng Go.Sort
abbrev TSs:Nat:=23
structure CSt (w:World) (base:Nat) (vo:Value) (vs:List Value) (outs:List (List Sp)):Prop where
 o:w.ownsRow base TSs 1 vo outs.length vs
 len:vs.length=outs.length
 inn:∀(i:Nat) v l,vs[i]?=some v→outs[i]?=some l→w.ownsRow base TSp 2 v l.length (l.map zBl).flatten
 ap:∀(i j:Nat) v u b,vs[i]?=some v→vs[j]?=some u→v.ownBlock=some b→u.ownBlock=some b→i=j
 apo:∀(i:Nat) v b,vs[i]?=some v→v.ownBlock=some b→vo.ownBlock≠some b
theorem CSt.start (w:World) (base:Nat):CSt w base (.slice none 0 0) [] []:=
 ⟨World.ownsRow_nil _ _ _ _,rfl,fun i v l h=>by simp at h,fun i j v u b h=>by simp at h,fun i v b h=>by simp at h⟩
theorem CSt.some {w:World} {base:Nat} {vo:Value} {vs:List Value} {outs:List (List Sp)} (h:CSt w base vo vs outs) {i:Nat} {v:Value} (hv:vs[i]?=some v):∃l,outs[i]?=some l:=
 zAN (by have:=zAE hv;have:=h.len;omega)
theorem CSt.chg {M:Nat→Prop} {w w':World} {base:Nat} {vo:Value} {vs:List Value} {outs:List (List Sp)} (h:CSt w base vo vs outs) (c:Chg M w w') (hM:∀b,base≤b→b<w.heap.size→¬M b):CSt w' base vo vs outs:=
 ⟨zAq h.o c fun k hk=>hM k (h.o.lt k hk).1 (h.o.lt k hk).2,h.len,fun i v l hv hl=>zAq (h.inn i v l hv hl) c fun k hk=>hM k ((h.inn i v l hv hl).lt k hk).1 ((h.inn i v l hv hl).lt k hk).2,h.ap,h.apo⟩
theorem CSt.ext {w w':World} {base:Nat} {vo:Value} {vs:List Value} {outs:List (List Sp)} (h:CSt w base vo vs outs) (c:Ext w w'):CSt w' base vo vs outs:=h.chg c fun _ _ _ f=>f
theorem CSt.push {w w':World} {base:Nat} {vo v':Value} {vs:List Value} {outs:List (List Sp)} (h:CSt w base vo vs outs) (Ov:w'.ownsRow base TSs 1 v' (outs.length+1) (vs++[.slice none 0 0])) (Cv:Chg (fun x=>vo.ownBlock=.some x) w w')
  (Wv:∀k,v'.ownBlock=.some k→vo.ownBlock=.some k∨w.heap.size≤k):CSt w' base v' (vs++[.slice none 0 0]) (outs++[[]]):=by
 have aa:∀(i:Nat) v,(vs++[.slice none 0 0])[i]?=.some v→vs[i]?=.some v∨(i=vs.length∧v=.slice none 0 0):=by
  intro i v hv;rcases Nat.lt_or_ge i vs.length with h1|h1
  ·left;rwa [List.getElem?_append_left h1] at hv
  ·right;rw[List.getElem?_append_right h1] at hv;have h2:=zAE hv;simp at h2;obtain rfl:i=vs.length:=qO
   simp at hv;exact ⟨rfl,hv.symm⟩
 refine ⟨by simpa using Ov,by simp[h.len],?_,?_,?_⟩
 ·intro i v l hv hl;rcases aa i v hv with h1|⟨h1,rfl⟩
  ·rw[List.getElem?_append_left (by have:=zAE h1;have:=h.len;omega)] at hl;exact zAq (h.inn i v l h1 hl) Cv fun k hk=>h.apo i v k h1 hk
  ·rw[h1,h.len] at hl;simp at hl;subst hl;exact World.ownsRow_nil _ _ _ _
 ·intro i j v u b hv hu hb ab;rcases aa i v hv with h1|⟨_,rfl⟩
  ·rcases aa j u hu with h2|⟨_,rfl⟩
   ·exact h.ap i j v u b h1 h2 hb ab
   ·cases ab
  ·cases hb
 ·intro i v b hv hb ab;rcases aa i v hv with h1|⟨_,rfl⟩
  ·rcases Wv b ab with h2|h2
   ·exact h.apo i v b h1 hb h2
   ·obtain ⟨l,hl⟩:=h.some h1;have:=((h.inn i v l h1 hl).lt b hb).2;omega
  ·cases hb
theorem CSt.grow {w w' w2:World} {base g cap k n:Nat} {v v':Value} {vs:List Value} {outs:List (List Sp)} {l:List Sp} {x:Sp} {cur:Array Value} (h:CSt w base (.slice (.some ⟨g,0,none⟩) n cap) vs outs) (hn:n=outs.length) (hv:vs[k]?=.some v) (hl:outs[k]?=.some l)
  (Ov:w'.ownsRow base TSp 2 v' (l.length+1) ((l++[x]).map zBl).flatten) (Cv:Chg (fun x=>v.ownBlock=.some x) w w') (Wv:∀k,v'.ownBlock=.some k→v.ownBlock=.some k∨w.heap.size≤k)
  (hB:Blk w' g cur TSs) (P2:Put w' w2 g (cur.setIfInBounds k v') TSs):CSt w2 base (.slice (.some ⟨g,0,none⟩) n cap) (vs.set k v') (outs.set k (l++[x])):=by
 have hkl:=zAE hv;have ae:v.ownBlock≠.some g:=fun e=>h.apo k v g hv e rfl;have hgl:=(h.o.lt g rfl).2;have ab:v'.ownBlock≠.some g:=fun e=>by rcases Wv g e with h1|h1;exact ae h1;omega
 have af:w'.ownsRow base TSs 1 (.slice (.some ⟨g,0,none⟩) n cap) outs.length vs:=zAq h.o Cv fun q hq=>by cases hq;exact ae
 rw[←hn] at af;have ag:=zHk af hB (i:=k) (by have:=h.len;omega) P2.blk;have aa:∀(i:Nat) u,(vs.set k v')[i]?=.some u→(i=k∧u=v')∨(i≠k∧vs[i]?=.some u):=by
  intro i u hu;rw[List.getElem?_set] at hu;split at hu
  ·rename_i he
   exact .inl ⟨he.symm,(Option.some.inj hu).symm⟩
  ·rename_i he
   exact .inr ⟨fun e=>he e.symm,hu⟩
 have ac:∀(i:Nat) u b,i≠k→vs[i]?=.some u→u.ownBlock=.some b→v.ownBlock≠.some b∧v'.ownBlock≠.some b∧b≠g:=by
  intro i u b hi hu hb;have h1:v.ownBlock≠.some b:=fun e=>hi (h.ap i k u v b hu hv hb e);refine ⟨h1,fun e=>?_,fun e=>h.apo i u b hu hb (by rw[e];rfl)⟩;rcases Wv b e with h2|h2
  ·exact h1 h2
  ·obtain ⟨q,hq⟩:=h.some hu;have:=((h.inn i u q hu hq).lt b hb).2;omega
 refine ⟨by rw[List.length_set,←hn];exact ag,by simp[h.len],?_,?_,?_⟩
 ·intro i u q hu hq;rcases aa i u hu with ⟨rfl,rfl⟩|⟨h1,h2⟩
  ·rw[List.getElem?_set] at hq;rw[if_pos rfl,if_pos (by have:=h.len;omega)] at hq;have ah:=Option.some.inj hq;subst ah;rw[List.length_append];exact zAq Ov P2.chg fun b hb e=>ab (e▸hb)
  ·rw[List.getElem?_set,if_neg (fun e=>h1 e.symm)] at hq;exact zAq (zAq (h.inn i u q h2 hq) Cv fun b hb=>(ac i u b h1 h2 hb).1) P2.chg fun b hb e=>(ac i u b h1 h2 hb).2.2 e
 ·intro i j u z b hu hz hb ad;rcases aa i u hu with ⟨rfl,rfl⟩|⟨h1,h2⟩<;>rcases aa j z hz with ⟨rfl,rfl⟩|⟨h3,h4⟩
  ·rfl
  ·exact absurd hb (ac j z b h3 h4 ad).2.1
  ·exact absurd ad (ac i u b h1 h2 hb).2.1
  ·exact h.ap i j u z b h2 h4 hb ad
 ·intro i u b hu hb;rcases aa i u hu with ⟨rfl,rfl⟩|⟨h1,h2⟩
  ·intro e;cases e;exact ab hb
  ·exact h.apo i u b h2 hb
def zSk (b:Bool):Int:=if b then 1 else 0
def zKK (m:List Bool):ByteArray:=strOfNums (m.map zSk)
theorem zSP {m m':List Bool} (h:zKK m=zKK m'):m=m':=by
 have h1:=congrArg (fun s=>s.data.toList) h;simp only[zKK,strOfNums_data,List.map_map] at h1;exact (List.map_inj_right (fun x y aa=>by cases x<;>cases y<;>first|rfl|(simp[zSk] at aa;done)|(exact absurd aa qD))).1 h1
def zEb:List (List Bool)→Nat→List (ByteArray×Int)
  | [],_=>[]
  | m::ks,n=>(zKK m,((n:Nat):Int))::zEb ks (n+1)
theorem zJI:∀(ks:List (List Bool)) (m:List Bool) (n:Nat),zEb (ks++[m]) n=zEb ks n++[(zKK m,(((n+ks.length:Nat):Nat):Int))]
  | [],m,n=>rfl
  | x::ks,m,n=>by
    show (zKK x,_)::zEb (ks++[m]) (n+1)=(zKK x,_)::(zEb ks (n+1)++_);rw[zJI ks m (n+1),List.length_cons,show n+1+ks.length=n+(ks.length+1) by omega]
theorem zLF:∀{ks:List (List Bool)} {n:Nat} {q:ByteArray×Int},q∈zEb ks n→∃(j:Nat) (m:List Bool),ks[j]?=some m∧q=(zKK m,(((n+j:Nat):Nat):Int))
  | [],_,_,h=>by cases h
  | x::ks,n,q,h=>by
    rcases List.mem_cons.1 h with h|h
    · exact ⟨0,x,rfl,h⟩
    · obtain ⟨j,m,h1,h2⟩:=zLF h;exact ⟨j+1,m,h1,by rw[h2];congr 2;omega⟩
theorem zLG:∀{ks:List (List Bool)} {n:Nat} {m:List Bool},m∈ks→zKK m∈(zEb ks n).map (·.1)
  | x::ks,n,m,h=>by
    rcases List.mem_cons.1 h with rfl|h
    · exact List.mem_cons_self
    · exact List.mem_cons_of_mem _ (zLG (n:=n+1) h)
theorem zQD {ks:List (List Bool)} {m:List Bool} {v:Int} (h:zBr (zEb ks 0) (zKK m)=some v):∃j:Nat,v=((j:Nat):Int)∧ks[j]?=some m:=by
 obtain ⟨j,m',h1,h2⟩:=zLF (zDm h);simp only[Prod.mk.injEq,Nat.zero_add] at h2;obtain rfl:=zSP h2.1;exact ⟨j,h2.2,h1⟩
theorem zOQ {ks:List (List Bool)} {m:List Bool} (h:zBr (zEb ks 0) (zKK m)=none):m∉ks∧zHQ (zEb ks 0) (zKK m) ((ks.length:Nat):Int)=zEb (ks++[m]) 0:=by
 refine ⟨fun hm=>?_,?_⟩
 ·have:=zEA.2 (zLG (n:=0) hm);rw[h] at this;cases this
 ·rw[zDu _ h,zJI,Nat.zero_add]
end Go.Proofs
namespace Go.Proofs
open Go Go.Eng Go.Sort
theorem zTv (w0:World) (base g c:Nat) (l:List Int) (h:w0.ownsRow base zWn 1 (.slice (some ⟨g,0,none⟩) l.length c) l.length (l.map (Value.int .i64))) (hl:l.length≤17592186044416) :
  Ret prog 45 #[.slice (some ⟨g,0,none⟩) l.length c] w0 fun r w=>r=.tuple #[]∧Sort.Holds (Value.int .i64) w g 0 (l.mergeSort leB).toArray∧Chg (fun x=>x=g) w0 w:=by
 have hH:=ownI_holds h;have aa:g<w0.heap.size:=(h.lt g rfl).2;refine Calls.mono (Any.slices_Sort_int Tryz.sortI g 0 c l w0 hH aa qO) ?_;rintro e w' ⟨rfl,n,os,rfl⟩;refine ⟨_,rfl,rfl,?_,zHh _ w0 g 0 n _ os⟩;exact holds_grow _ _ os g 0 _ (by simpa[putRow,mapBlock,Sort.ahead] using aa) (holds_putRow _ (Sort.ahead w0 n) g 0 l.toArray _ hH qP)
theorem zUq (w0:World) (g c:Nat) (l:List Int) (hH:Sort.Holds (Value.int .i64) w0 g 0 l.toArray) (hc:l.length≤c∧c≤9223372036854775807) :
  Ret prog 46 #[.slice (some ⟨g,0,none⟩) l.length c] w0 fun r w=>r=.slice (some ⟨g,0,none⟩) (Lib.compact l).length c∧zBZ w r (Lib.compact l)∧Chg (fun x=>x=g) w0 w:=by
 refine Calls.mono (Any.slices_Compact_int Tryz.compI g 0 c l w0 hH qO hc.1) ?_;rintro e w' ⟨rfl,q,rfl⟩;have ab:(Lib.compact l).length≤l.length:=by
  unfold Lib.compact Lib.compactUpTo;rw[List.length_map];exact Nat.le_trans (List.length_filter_le _ _) qP
 have aa:=zHh (Value.int .i64) w0 g 0 q (Lib.compact l++List.replicate (l.length - (Lib.compact l).length) 0).toArray #[];have ad:∀w:World,grow w #[]=w:=fun w=>by simp[grow]
 rw[ad] at aa;refine ⟨_,rfl,rfl,?_,aa⟩;have hh:Sort.Holds (Value.int .i64) (putRow (Value.int .i64) (Sort.ahead w0 q) g 0 (Lib.compact l++List.replicate (l.length - (Lib.compact l).length) 0).toArray) g 0 (Lib.compact l++List.replicate (l.length - (Lib.compact l).length) 0).toArray:=
  holds_putRow _ (Sort.ahead w0 q) g 0 l.toArray _ hH (by simp;omega)
 have ac:Sort.Holds (Value.int .i64) (putRow (Value.int .i64) (Sort.ahead w0 q) g 0 (Lib.compact l++List.replicate (l.length - (Lib.compact l).length) 0).toArray) g 0 (Lib.compact l).toArray:=by
  intro j hj;simp only[List.size_toArray] at hj;have h1:=hh j (by simp;omega);rw[getElem!_pos _ j (by simp;omega)] at h1;rw[getElem!_pos _ j (by simpa using hj)];simpa[List.getElem_append_left hj] using h1
 exact zOX (l:=Lib.compact l) ac rfl qO qO
theorem zLg {l:List Int} (hs:l.Pairwise (·≤·)):∀m,m≤l.length→(Lib.compactUpTo l.toArray m).Pairwise (· < ·)∧∀x,x∈Lib.compactUpTo l.toArray m↔x∈l.take m:=by
  intro m
  induction m with
  | zero=>intro _;simp[Lib.compactUpTo]
  | succ m ih=>
    intro hm;obtain ⟨h1,h2⟩:=ih qO;have hx:l[m]?=some l[m]:=List.getElem?_eq_getElem qO;have hg:l.toArray[m]! = l[m]:=by rw[getElem!_pos _ m (by simp;omega)];simp
    rw[Lib.compactUpTo_succ,zDV hx];have af:∀x∈l.take m,∃j,j<m∧∃hj:j<l.length,l[j]=x:=fun x hx=>by
      obtain ⟨j,hj⟩:=List.mem_iff_getElem?.1 hx;have h3:=zAE hj;rw[List.length_take] at h3;have ab:j<m:=qO
      have ac:j<l.length:=qO
      rw[List.getElem?_take,if_pos ab,List.getElem?_eq_getElem ac] at hj;exact ⟨j,ab,ac,Option.some.inj hj⟩
    have aa:∀(i j:Nat) (hi:i<l.length) (hj:j<l.length),i≤j→l[i]≤l[j]:=fun i j hi hj ae=>by
      rcases Nat.eq_or_lt_of_le ae with h3|h3
      · subst h3;exact Int.le_refl _
      · exact List.pairwise_iff_getElem.1 hs i j hi hj h3
    by_cases hk:Lib.keeps l.toArray m=true
    · rw[if_pos hk,hg];have ad:∀x∈l.take m,x<l[m]:=fun x hx=>by
        obtain ⟨j,hjm,hj,rfl⟩:=af x hx;have h4:l[j]≤l[m - 1]:=aa j (m - 1) hj qO qO;have h5:l[m - 1]≤l[m]:=aa (m - 1) m qO qO qO;have h6:l[m]≠l[m - 1]:=by
          unfold Lib.keeps at hk;rw[decide_eq_true_eq] at hk;rcases hk with h7|h7
          · omega
          · rw[hg,getElem!_pos _ (m - 1) (by simp;omega)] at h7;simpa using h7
        omega
      refine ⟨?_,fun x=>by rw[List.mem_append,List.mem_append,h2 x]⟩;rw[List.pairwise_append];exact ⟨h1,qP,fun x hx y hy=>by rw[List.mem_singleton] at hy;subst hy;exact ad x ((h2 x).1 hx)⟩
    · rw[if_neg hk,List.append_nil];refine ⟨h1,fun x=>?_⟩;rw[h2 x,List.mem_append,List.mem_singleton];constructor
      · exact .inl
      · rintro (h3|h3)
        · exact h3
        · have h4:m≠0∧l.toArray[m]! = l.toArray[m - 1]!:=by
            unfold Lib.keeps at hk;simp only[decide_eq_true_eq,not_or,Decidable.not_not] at hk;exact hk
          rw[hg,getElem!_pos _ (m - 1) (by simp;omega)] at h4;have h5:l[m]=l[m - 1]:=by simpa using h4.2
          rw[h3,h5];exact List.mem_iff_getElem?.2 ⟨m - 1,by rw[List.getElem?_take,if_pos qO,List.getElem?_eq_getElem qO]⟩
theorem zIi (l:List Int):(Lib.compact (l.mergeSort leB)).Pairwise (· < ·)∧∀x,x∈Lib.compact (l.mergeSort leB)↔x∈l:=by
 have hs:(l.mergeSort leB).Pairwise (·≤·):=by
  have:=List.pairwise_mergeSort (le:=leB) (fun a b c h1 h2=>by simp[leB] at *;omega) (fun a b=>by simp[leB];omega) l;exact this.imp fun h=>by simpa[leB] using h
 have h:=zLg hs (l.mergeSort leB).length (Nat.le_refl _);refine ⟨h.1,fun x=>?_⟩;have h2:=h.2 x;rw[List.take_length,List.mem_mergeSort] at h2;exact h2
def zOs (l:List Sp):List Int:=0::l.flatMap fun s=>[s.1,s.2+1]
theorem zJi {l:List Sp} {k:Int}:k∈zOs l↔k=0∨∃s∈l,k=s.1∨k=s.2+1:=by
 unfold zOs;simp[List.mem_flatMap]
theorem zJj (l:List Sp):(zOs l).length=1+2*l.length:=by
  unfold zOs;rw[List.length_cons];have:(l.flatMap fun s=>[s.1,s.2+1]).length=2*l.length:=by
    induction l with
    | nil=>rfl
    | cons x l ih=>rw[List.flatMap_cons,List.length_append,ih];simp;omega
  omega
theorem zSS {l:List Sp} {q:List Int} (hok:∀s∈l,vSp s) (hq:q.Pairwise (· < ·)) (hm:∀x,x∈q↔x∈zOs l):∃p,zFp l p∧(q=p∨q=p++[1114112]):=by
 have hb:∀x∈q,0≤x∧x≤1114112:=fun x hx=>by
  rcases zJi.1 ((hm x).1 hx) with h1|⟨s,hs,h1⟩
  ·omega
  ·have:=hok s hs;unfold vSp at this;omega
 have hP:∀k,k≤1114111→(k∈zOs l↔zLw l k):=fun k hk=>by
  rw[zJi];unfold zLw;constructor
  ·rintro (h1|⟨s,hs,h1|h1⟩)
   ·exact .inl h1
   ·exact .inr ⟨s,hs,.inl h1⟩
   ·exact .inr ⟨s,hs,.inr ⟨qO,h1⟩⟩
  ·rintro (h1|⟨s,hs,h1|h1⟩)
   ·exact .inl h1
   ·exact .inr ⟨s,hs,.inl h1⟩
   ·exact .inr ⟨s,hs,.inr h1.2⟩
 have aa:∀k,zLw l k→k≤1114111:=fun k hk=>by
  rcases hk with h1|⟨s,hs,h1⟩
  ·omega
  ·have:=hok s hs;unfold vSp at this;omega
 rcases List.eq_nil_or_concat q with rfl|⟨q',x,rfl⟩
 ·exact ⟨[],⟨hq,fun k=>⟨fun h=>(hP k (by cases h)).1 ((hm k).1 h),fun h=>(hm k).2 ((hP k (aa k h)).2 h)⟩⟩,.inl rfl⟩
 ·rw[List.concat_eq_append] at *;have ab:∀y∈q',y<x:=fun y hy=>(List.pairwise_append.1 hq).2.2 y hy x qP;have hxb:=hb x qP;by_cases hx:x=1114112
  ·subst hx;refine ⟨q',⟨(List.pairwise_append.1 hq).1,fun k=>⟨fun h=>?_,fun h=>?_⟩⟩,.inr rfl⟩
   ·have:=ab k h;exact (hP k qO).1 ((hm k).1 (by simp[h]))
   ·have h1:=aa k h;have h2:=(hm k).2 ((hP k h1).2 h);rcases List.mem_append.1 h2 with h3|h3
    ·exact h3
    ·rw[List.mem_singleton] at h3;omega
  ·refine ⟨q'++[x],⟨hq,fun k=>⟨fun h=>?_,fun h=>(hm k).2 ((hP k (aa k h)).2 h)⟩⟩,.inl rfl⟩;have:k≤1114111:=by
    rcases List.mem_append.1 h with h3|h3
    ·have:=ab k h3;omega
    ·rw[List.mem_singleton] at h3;omega
   exact (hP k this).1 ((hm k).1 h)
end Go.Proofs
namespace Go.Proofs
open Go Go.Eng Go.Sort
def InO (vo:Value) (w:World) (u:Value) (l:List Sp):Prop:=(∃a c,u=.slice a l.length c)∧zFf (fun b=>vo.ownBlock≠some b) w 2 u (l.map zBl)
theorem zPl {w:World} {base:Nat} {vo v:Value} {l:List Sp} (h:w.ownsRow base TSp 2 v l.length (l.map zBl).flatten) (hb:∀b,v.ownBlock=some b→vo.ownBlock≠some b):InO vo w v l:=by
 obtain ⟨a,c,rfl⟩:=zBO h;refine ⟨⟨a,c,rfl⟩,?_⟩;rcases Nat.eq_zero_or_pos l.length with h0|h0
 ·have:=List.eq_nil_of_length_eq_zero h0;subst this;exact zFf.nil _ _ _ _ _
 ·have hS:zIn w base (.slice a l.length c) l:=⟨⟨a,c,rfl⟩,h⟩;have aa:=hS.at;obtain ⟨g,rfl,_,_⟩:=zBe h h0;exact zFf.mk aa (hb g rfl)
structure JSt (w:World) (base:Nat) (vo:Value) (us:List Value) (outs cs:List (List Sp)) (k:Nat):Prop where
 o:w.ownsRow base TSs 1 vo outs.length us
 len:us.length=outs.length
 cl:cs.length=k
 don:∀(i:Nat) u c,i<k→us[i]?=some u→cs[i]?=some c→InO vo w u c
 rst:∀(i:Nat) u l,k≤i→us[i]?=some u→outs[i]?=some l→InO vo w u l
 jn:∀(i:Nat) q c,outs[i]?=some q→cs[i]?=some c→zFi q c
theorem CSt.join {w:World} {base:Nat} {vo:Value} {vs:List Value} {outs:List (List Sp)} (h:CSt w base vo vs outs):JSt w base vo vs outs [] 0:=
 ⟨h.o,h.len,rfl,fun i u c hi=>absurd hi (Nat.not_lt_zero _),fun i u l _ hu hl=>zPl (h.inn i u l hu hl) fun b hb=>h.apo i u b hu hb,fun i q c _ hc=>by simp at hc⟩
theorem InO.ext {vo u:Value} {w w':World} {l:List Sp} (h:InO vo w u l) (e:Ext w w'):InO vo w' u l:=⟨h.1,h.2.chg e fun _ _ f=>f⟩
theorem JSt.ext {w w':World} {base k:Nat} {vo:Value} {us:List Value} {outs cs:List (List Sp)} (h:JSt w base vo us outs cs k) (e:Ext w w'):JSt w' base vo us outs cs k:=
 ⟨zAj h.o e,h.len,h.cl,fun i u c hi hu hc=>(h.don i u c hi hu hc).ext e,fun i u l hi hu hl=>(h.rst i u l hi hu hl).ext e,h.jn⟩
theorem JSt.step {w w2:World} {base n1 g cap k n:Nat} {u':Value} {us:List Value} {outs cs:List (List Sp)} {q c':List Sp} {cur:Array Value} (h:JSt w base (.slice (some ⟨g,0,none⟩) n cap) us outs cs k) (hn:n=outs.length) (hq:outs[k]?=some q)
  (hO:zIn w n1 u' c') (hn1:g<n1) (hj:zFi q c') (hB:Blk w g cur TSs) (P2:Put w w2 g (cur.setIfInBounds k u') TSs):JSt w2 base (.slice (some ⟨g,0,none⟩) n cap) (us.set k u') outs (cs++[c']) (k+1):=by
 have hkl:=zAE hq;have ad:InO (.slice (some ⟨g,0,none⟩) n cap) w u' c':=zPl hO.2 fun b hb e=>by cases e;have:=(hO.2.lt g hb).1;omega
 have aa:∀u l,InO (.slice (some ⟨g,0,none⟩) n cap) w u l→InO (.slice (some ⟨g,0,none⟩) n cap) w2 u l:=fun u l h1=>⟨h1.1,h1.2.chg P2.chg fun b hb e=>hb (by rw[e];rfl)⟩;have ho:=h.o;rw[←hn] at ho;have ac:=zHk ho hB (i:=k) qO P2.blk;have ab:∀(i:Nat) u,(us.set k u')[i]?=some u→(i=k∧u=u')∨(i≠k∧us[i]?=some u):=by
  intro i u hu;rw[List.getElem?_set] at hu;split at hu
  ·rename_i he
   split at hu
   ·exact .inl ⟨he.symm,(Option.some.inj hu).symm⟩
   ·cases hu
  ·rename_i he
   exact .inr ⟨fun e=>he e.symm,hu⟩
 refine ⟨by rw[←hn];exact ac,by simp[h.len],by simp[h.cl],?_,?_,?_⟩
 ·intro i u c hi hu hc;rcases ab i u hu with ⟨rfl,rfl⟩|⟨h1,h2⟩
  ·rw[List.getElem?_append_right (by have:=h.cl;omega),h.cl,Nat.sub_self] at hc;simp at hc;subst hc;exact aa _ _ ad
  ·rw[List.getElem?_append_left (by have:=h.cl;omega)] at hc;exact aa _ _ (h.don i u c qO h2 hc)
 ·intro i u l hi hu hl;rcases ab i u hu with ⟨rfl,rfl⟩|⟨h1,h2⟩
  ·omega
  ·exact aa _ _ (h.rst i u l qO h2 hl)
 ·intro i r c hr hc;rcases Nat.lt_or_ge i k with h1|h1
  ·rw[List.getElem?_append_left (by have:=h.cl;omega)] at hc;exact h.jn i r c hr hc
  ·rw[List.getElem?_append_right (by have:=h.cl;omega)] at hc;have h2:=zAE hc;simp at h2;have h3:=h.cl;obtain rfl:i=k:=qO
   rw[h3,Nat.sub_self] at hc;simp at hc;subst hc;rw[hq] at hr;cases hr;exact hj
theorem JSt.done {w:World} {base k:Nat} {vo:Value} {us:List Value} {outs cs:List (List Sp)} (h:JSt w base vo us outs cs k) (hk:k=outs.length):zBv w vo cs:=by
 refine ⟨us,?_,by rw[h.len,h.cl,hk],fun i u l hu hl=>(h.don i u l (by have:=zAE hl;have:=h.cl;omega) hu hl).2.at⟩;have ho:=h.o;rw[show us=(us.map fun x=>[x]).flatten by simp[List.flatten_eq_flatMap,List.flatMap_map]] at ho;exact zDS ho (by intro r hr;simp only[List.mem_map] at hr;obtain ⟨x,_,rfl⟩:=hr;rfl) (by simp[h.len]) qD
theorem zUa (o:List Sp):∃c,zFi o c:=by
 let le:Sp→Sp→Bool:=fun s t=>decide (s.1≤t.1)
 refine ⟨_,o.mergeSort le,List.mergeSort_perm o le,?_,rfl⟩;have:=List.pairwise_mergeSort (le:=le) (fun a b c h1 h2=>by simp[le] at *;omega) (fun a b=>by simp[le];omega) o;exact this.imp fun h=>by simpa[le] using h
theorem zNW:∀outs:List (List Sp),∃cs:List (List Sp),cs.length=outs.length∧∀(k:Nat) o c,outs[k]?=some o→cs[k]?=some c→zFi o c
  | []=>⟨[],rfl,fun k o c h=>by simp at h⟩
  | o::outs=>by
    obtain ⟨c,hc⟩:=zUa o;obtain ⟨cs,h1,h2⟩:=zNW outs;refine ⟨c::cs,by simp[h1],fun k q r hq hr=>?_⟩;cases k with
    | zero=>simp at hq hr;subst hq;subst hr;exact hc
    | succ k=>exact h2 k q r (by simpa using hq) (by simpa using hr)
theorem zLh {ll:List (List Sp)} {p:List Int} {ks:List (List Bool)} {outs:List (List Sp)} {o c:List Sp} {k:Nat} (h:GInv ll p p.length ks outs) (hp:zFp ll.flatten p) (ho:outs[k]?=some o) (hj:zFi o c) (hc:16<c.length):∃cs,zQq ll cs∧zLE cs:=by
 obtain ⟨cs,h1,h2⟩:=zNW outs;refine ⟨cs,h.done hp h1 h2,.inl ?_⟩;obtain ⟨d,hd⟩:=zAN (l:=cs) (i:=k) (by have:=zAE ho;omega);refine ⟨d,List.mem_of_getElem? hd,?_⟩;have hv:=(h.ok k o ho).1;rw[zDd.eq (zDd.join (h2 k o d ho hd) hv).1 (zDd.join hj hv).1 fun _ _ _=>rfl];exact hc
end Go.Proofs
namespace Go.Proofs
open Go Go.Eng Go.Sort
def zKC (s:Sp) (r:Int):Bool:=decide (s.1≤r) && decide (r≤s.2)
def zIB (ll:List (List Sp)):Prop:=∀r,0≤r→r≤1114111→ll.countP (fun l=>inS l r)=1
def zBM:List Sp→Int
  | []=>-1
  | s::_=>s.1
def zNV (ll:List (List Sp)):Nat→Int
  | 0=>-1
  | k+1=>zBM (ll.getD k [])
def zVL (ll:List (List Sp)) (k:Nat):Prop:=ll.getD k []≠[]∧zNV ll k<zBM (ll.getD k [])
def zIC (ll:List (List Sp)):Prop:=∀k,k<ll.length→zVL ll k
open Classical in
noncomputable def partE (ll:List (List Sp)):Int:=if 16<ll.length then 2 else if zJW ll≠0 then zJW ll else if zIC ll∧zIB ll then 0 else 3
theorem zMQ {ll:List (List Sp)} (h:16<ll.length):partE ll=2:=by unfold partE;rw[if_pos h]
theorem zPj {ll:List (List Sp)} (h:¬16<ll.length) (hb:zJW ll≠0):partE ll=zJW ll:=by unfold partE;rw[if_neg h,if_pos hb]
theorem zFR {ll:List (List Sp)} (h:¬16<ll.length) (hb:zJW ll=0) (hp:¬(zIC ll∧zIB ll)):partE ll=3:=by unfold partE;rw[if_neg h,if_neg (by simp[hb]),if_neg hp]
theorem zNI {ll:List (List Sp)} (h:¬16<ll.length) (hb:zJW ll=0) (hp:zIC ll∧zIB ll):partE ll=0:=by unfold partE;rw[if_neg h,if_neg (by simp[hb]),if_pos hp]
theorem zOF {ll:List (List Sp)} (h:partE ll=0):¬16<ll.length∧zJW ll=0∧zIC ll∧zIB ll:=by
 unfold partE at h;split at h
 ·cases h
 ·split at h
  ·rename_i h1 h2;exact absurd h h2
  ·split at h
   ·rename_i h1 h2 h3;exact ⟨h1,by simpa using h2,h3.1,h3.2⟩
   ·cases h
theorem zNp:∀{ll:List (List Sp)},zJW ll=0→∀l∈ll,zBR l=0
  | x::ll,h,l,hl=>by
    unfold zJW at h;split at h
    · rename_i h1;exact absurd h h1
    · rename_i h1
      rcases List.mem_cons.1 hl with rfl|h2
      · simpa using h1
      · exact zNp h l h2
theorem zIR:∀{l:List Sp} {r:Int},Canon l→l.countP (fun s=>zKC s r)=if inS l r then 1 else 0
  | [],r,_=>rfl
  | s::l,r,h=>by
    rw[List.countP_cons,zIR h.tail,zCA];have e:(decide (s.1≤r) && decide (r≤s.2))=zKC s r:=rfl;rw[e];cases hs:zKC s r with
    | false=>simp
    | true=>
      have:inS l r=false:=zEe h (by unfold zKC at hs;simp at hs;omega);simp[this]
theorem zGl:∀{ll:List (List Sp)} {r:Int},(∀l∈ll,Canon l)→ll.flatten.countP (fun s=>zKC s r)=ll.countP fun l=>inS l r
  | [],r,_=>rfl
  | l::ll,r,h=>by
    rw[List.flatten_cons,List.countP_append,List.countP_cons,zIR (h l List.mem_cons_self),zGl fun x hx=>h x (List.mem_cons_of_mem _ hx)];omega
def zEy:Int→List Sp→Bool
  | n,[]=>decide (n=1114112)
  | n,s::l=>decide (s.1=n) && zEy (s.2+1) l
theorem zLk:∀{l:List Sp} {n:Int},(∀s∈l,vSp s)→zEy n l=true→∀s∈l,n≤s.1
  | x::l,n,hv,h,s,hs=>by
    simp only[zEy,Bool.and_eq_true,decide_eq_true_eq] at h;rcases List.mem_cons.1 hs with rfl|h1
    · omega
    · have h2:=zLk (fun y hy=>hv y (List.mem_cons_of_mem _ hy)) h.2 s h1;have h3:=hv x List.mem_cons_self;unfold vSp at h3;omega
theorem zJT {l:List Sp} {r:Int} (h:∀s∈l,r<s.1):l.countP (fun s=>zKC s r)=0:=by
 rw[List.countP_eq_zero];intro s hs;have:=h s hs;unfold zKC;simp only[Bool.and_eq_true,decide_eq_true_eq];omega
theorem zIO:∀{l:List Sp} {n:Int},(∀s∈l,vSp s)→zEy n l=true→∀r,n≤r→r≤1114111→l.countP (fun s=>zKC s r)=1
  | [],n,_,h,r,h1,h2=>by simp[zEy] at h;omega
  | s::l,n,hv,h,r,h1,h2=>by
    have hv':∀t∈l,vSp t:=fun y hy=>hv y (List.mem_cons_of_mem _ hy);simp only[zEy,Bool.and_eq_true,decide_eq_true_eq] at h;rw[List.countP_cons];rcases zON s.2 r with h3|h3
    · rw[zIO hv' h.2 r qO h2];have:zKC s r=false:=by unfold zKC;rw[decide_eq_false (show ¬r≤s.2 by omega),Bool.and_false]
      simp[this]
    · rw[zJT fun t ht=>by have:=zLk hv' h.2 t ht;omega];have:zKC s r=true:=by unfold zKC;rw[decide_eq_true h3,decide_eq_true qO];rfl
      simp[this]
theorem zNn:∀{l:List Sp} {n:Int},(∀s∈l,vSp s)→l.Pairwise (fun s t=>s.1≤t.1)→n≤1114112→(∀s∈l,n≤s.1)→(∀r,n≤r→r≤1114111→l.countP (fun s=>zKC s r)=1)→zEy n l=true
  | [],n,_,_,hn,_,hc=>by
    rcases Int.lt_or_le n 1114112 with h|h
    · have:=hc n (Int.le_refl _) qO;simp at this
    · simp[zEy];omega
  | s::l,n,hv,hp,hn,hl,hc=>by
    have hv':∀t∈l,vSp t:=fun y hy=>hv y (List.mem_cons_of_mem _ hy);have hvs:=hv s List.mem_cons_self;unfold vSp at hvs;have hls:=hl s List.mem_cons_self;have hp':=List.pairwise_cons.1 hp;have hsn:s.1=n:=by
      rcases Int.lt_or_le n s.1 with h|h
      · have h1:=hc n (Int.le_refl _) qO;rw[zJT fun t ht=>by
          rcases List.mem_cons.1 ht with rfl|h2
          · exact h
          · have:=hp'.1 t h2;omega] at h1
        cases h1
      · omega
    have aa:∀t∈l,s.2+1≤t.1:=by
      intro t ht;rcases Int.lt_or_le s.2 t.1 with h|h
      · omega
      · exfalso;have h1:=hp'.1 t ht;have ab:=hv' t ht;unfold vSp at ab;have h2:=hc t.1 qO qO;rw[List.countP_cons] at h2;have h3:zKC s t.1=true:=by unfold zKC;rw[decide_eq_true h1,decide_eq_true h];rfl
        have h4:0<l.countP (fun s=>zKC s t.1):=List.countP_pos_iff.2 ⟨t,ht,by unfold zKC;rw[decide_eq_true (Int.le_refl _),decide_eq_true ab.2.1];rfl⟩;rw[h3,if_pos rfl] at h2;omega
    simp only[zEy,Bool.and_eq_true,decide_eq_true_eq];refine ⟨hsn,zNn hv' hp'.2 qO aa fun r h1 h2=>?_⟩;have h3:=hc r qO h2;rw[List.countP_cons] at h3;have:zKC s r=false:=by unfold zKC;rw[decide_eq_false (show ¬r≤s.2 by omega),Bool.and_false]
    simpa[this] using h3
theorem zOE {ll:List (List Sp)} {ls:List Sp} (hk:∀l∈ll,Canon l) (hp:ls.Perm ll.flatten) (hs:ls.Pairwise fun s t=>s.1≤t.1):zEy 0 ls=true↔zIB ll:=by
 have hv:∀s∈ls,vSp s:=fun s h=>by
  obtain ⟨l,hl,h1⟩:=List.mem_flatten.1 (hp.mem_iff.1 h);exact (hk l hl).ok s h1
 constructor
 ·intro h r h0 h1;rw[←zGl hk,←hp.countP_eq];exact zIO hv h r h0 h1
 ·intro h;refine zNn hv hs qO (fun s h1=>(hv s h1).1) fun r h0 h1=>?_;rw[hp.countP_eq,zGl hk];exact h r h0 h1
theorem zHj {ll:List (List Sp)} {p:List Int} (hp:zFp ll.flatten p) (hok:∀s∈ll.flatten,vSp s):∀i,i≤p.length→∀r,0≤r→r<nx p i→∃k lo,p[k]?=some lo∧lo≤r∧r<nx p (k+1)∧zBS ll r=zBS ll lo
  | 0,_,r,h0,h1=>by rw[zKv hp hok] at h1;omega
  | i+1,hi,r,h0,h1=>by
    obtain ⟨lo,hlo⟩:=zAN (l:=p) (i:=i) qO;rcases zON r lo with h2|h2
    · exact zHj hp hok i qO r h0 (by rw[zVz hlo];exact h2)
    · exact ⟨i,lo,hlo,h2,h1,zFQ hp hok hlo h2 h1⟩
theorem zRc {ll:List (List Sp)} {p:List Int} (hp:zFp ll.flatten p) (hok:∀s∈ll.flatten,vSp s) {r:Int} (h0:0≤r) (h1:r≤1114111):∃lo∈p,zBS ll r=zBS ll lo:=by
 obtain ⟨k,lo,h2,_,_,h3⟩:=zHj hp hok p.length (Nat.le_refl _) r h0 (by unfold nx;rw[List.getElem?_eq_none (Nat.le_refl _)];simp;omega);exact ⟨lo,List.mem_of_getElem? h2,h3⟩
def zWE (ll:List (List Sp)):List Int:=ll.map zBM
end Go.Proofs
namespace Go.Proofs
open Go Go.Eng Go.Sort
set_option maxRecDepth 100000
open Classical in
noncomputable def canC (c:Nat) (f:List Nat→Int):Dfa:=if h:∃C,zDf c f C then Classical.choose h else zBY c
theorem zUv {c:Nat} {f:List Nat→Int} {C:Dfa} (h:zDf c f C):canC c f=C:=by
 have hx:∃C,zDf c f C:=⟨C,h⟩;unfold canC;rw[dif_pos hx];exact zDf.uniq (Classical.choose_spec hx) h fun _ _=>rfl
open Classical in
noncomputable def canO (c:Nat) (f:List Nat→Int):Option Dfa:=if ∃C,zDf c f C then some (canC c f) else none
theorem zFL {c:Nat} {f:List Nat→Int} {C:Dfa} (h:zDf c f C):canO c f=some C:=by
 unfold canO;rw[if_pos ⟨C,h⟩,zUv h]
structure GoodD (c:Nat) (d:Dfa):Prop where
 ok:OkD d.next.length c d
 most:d.next.length≤20000
 acc:∀x∈d.accept,x<2147483648
theorem zGI {c:Nat} {f:List Nat→Int} {C:Dfa} (h:zDf c f C) (h1:C.next.length≤20000) (h2:∀x∈C.accept,x<2147483648):GoodD c C:=⟨h.ok.1,h1,h2⟩
open Classical in
noncomputable def catO (c:Nat) (a b:Dfa):Option Dfa:=if zIb c (zGY a b b.next.length) (zHi a b b.next.length) 20000 then canO c (catB a b) else none
open Classical in
noncomputable def prsO (c:Nat) (both:Bool) (a b:Dfa):Option Dfa:=if zIb c (zGX both a b) (a.start,b.start) 20000 then canO c (fun w=>jnP both (beh a a.start w) (beh b b.start w)) else none
open Classical in
noncomputable def stO (c:Nat) (a:Dfa):Option Dfa:=if zIb c (zGW a a.next.length (zDh a a.next.length)) (zDh a a.next.length) 20000 then canO c (starB a) else none
def opG (c:Nat) (S:Nat→Prop) (o:Option Dfa) (r:Value) (w:World):Prop:=∃(d:Dfa) (ea na:Option Addr) (ec nc:Nat),r=.tuple #[.agg #[.int .i64 d.start,.slice ea d.accept.length ec,.slice na d.next.length nc],.bool o.isSome]∧∀D,o=some D→D=d∧GoodD c d∧zBW S w d [.int .i64 d.start,.slice ea d.accept.length ec,.slice na d.next.length nc]
theorem opG.mono {c:Nat} {S S':Nat→Prop} {o:Option Dfa} {r:Value} {w:World} (h:opG c S o r w) (hs:∀b,S b→S' b):opG c S' o r w:=by
 obtain ⟨d,ea,na,ec,nc,h1,h2⟩:=h;exact ⟨d,ea,na,ec,nc,h1,fun D hD=>⟨(h2 D hD).1,(h2 D hD).2.1,(h2 D hD).2.2.mono hs⟩⟩
open Classical in
theorem zPm {c:Nat} {f:List Nat→Int} {p:Prop} {w0 w:World} {r:Value} (h:(p∧zOm c f w0.heap.size r w)∨(¬p∧zVN r)):opG c (fun b=>w0.heap.size≤b∧b<w.heap.size) (if p then canO c f else none) r w:=by
 rcases h with ⟨hp,C,ca,cc,ma,mc,hC,h1,h2,rfl,hN⟩|⟨hp,hr⟩
 ·rw[if_pos hp];rw[zFL hC];exact ⟨C,ca,ma,cc,mc,rfl,fun D hD=>⟨by rw[←Option.some.inj hD],zGI hC h1 h2,zBW.of_new hN⟩⟩
 ·rw[if_neg hp];exact ⟨⟨0,[],[]⟩,none,none,0,0,hr,fun D hD=>by cases hD⟩
def opF (c m:Nat) (o:Option Dfa):Fct:=fun r w=>∃(d:Dfa) (ea na:Option Addr) (ec nc:Nat),r=.tuple #[.agg #[.int .i64 d.start,.slice ea d.accept.length ec,.slice na d.next.length nc],.bool o.isSome]∧∀D,o=some D→D=d∧GoodD c d∧zCi m w d [.int .i64 d.start,.slice ea d.accept.length ec,.slice na d.next.length nc]
open Classical in
theorem zVw {c m:Nat} {f:List Nat→Int} {p:Prop} {w0 w:World} {r:Value} (hm:m≤w0.heap.size) (h:(p∧zOm c f w0.heap.size r w)∨(¬p∧zVN r)):opF c m (if p then canO c f else none) r w:=by
 rcases h with ⟨hp,C,ca,cc,ma,mc,hC,h1,h2,rfl,hN⟩|⟨hp,hr⟩
 ·rw[if_pos hp];rw[zFL hC];exact ⟨C,ca,ma,cc,mc,rfl,fun D hD=>⟨by rw[←Option.some.inj hD],zGI hC h1 h2,hN.low hm⟩⟩
 ·rw[if_neg hp];exact ⟨⟨0,[],[]⟩,none,none,0,0,hr,fun D hD=>by cases hD⟩
theorem zQt (w0:World) (c:Nat) (a b:Dfa) (av bv:List Value) (ga:GoodD c a) (gb:GoodD c b) (ha:zBk w0 a av) (hb:zBk w0 b bv) (hc:1≤c∧c≤16) :
  Ret prog 154 #[.agg av.toArray,.agg bv.toArray] w0 fun r w=>opG c (fun b=>w0.heap.size≤b∧b<w.heap.size) (catO c a b) r w∧Ext w0 w:=
 (zWT w0 _ _ c a b av bv ga.ok gb.ok ha hb hc ga.most gb.most).mono fun _ _ h=>⟨zPm h.1,h.2⟩
theorem zTG (w0:World) (c:Nat) (a b:Dfa) (av bv:List Value) (both:Bool) (ga:GoodD c a) (gb:GoodD c b) (ha:zBk w0 a av) (hb:zBk w0 b bv) (hc:1≤c∧c≤16) :
  Ret prog 86 #[.agg av.toArray,.agg bv.toArray,.bool both] w0 fun r w=>opG c (fun b=>w0.heap.size≤b∧b<w.heap.size) (prsO c both a b) r w∧Ext w0 w:=
 (zJm w0 _ _ c a b av bv both ga.ok gb.ok ha hb hc ⟨ga.most,gb.most⟩ ga.acc gb.acc).mono fun _ _ h=>⟨zPm h.1,h.2⟩
theorem zVo (w0:World) (m c:Nat) (a b:Dfa) (av bv:List Value) (both:Bool) (hm:m≤w0.heap.size) (ga:GoodD c a) (gb:GoodD c b) (ha:zBk w0 a av) (hb:zBk w0 b bv) (hc:1≤c∧c≤16) :
  Ret prog 86 #[.agg av.toArray,.agg bv.toArray,.bool both] w0 fun r w=>opF c m (prsO c both a b) r w∧Ext w0 w:=
 (zJm w0 _ _ c a b av bv both ga.ok gb.ok ha hb hc ⟨ga.most,gb.most⟩ ga.acc gb.acc).mono fun _ _ h=>⟨zVw hm h.1,h.2⟩
theorem zWx (w0:World) (c:Nat) (a:Dfa) (av:List Value) (ga:GoodD c a) (ha:zBk w0 a av) (hc:1≤c∧c≤16) :
  Ret prog 155 #[.agg av.toArray] w0 fun r w=>opG c (fun b=>w0.heap.size≤b∧b<w.heap.size) (stO c a) r w∧Ext w0 w:=
 (zTs w0 _ c a av ga.ok ha hc ga.most).mono fun _ _ h=>⟨zPm h.1,h.2⟩
theorem zMI {α:Type} {n:Nat} {x a:α} (h:a∈List.replicate n x):a=x:=(List.mem_replicate.1 h).2
theorem zGi (c:Nat):GoodD c (zBY c):=by
 refine ⟨⟨rfl,rfl,by simp[zBY],by simp[zBY],?_⟩,by simp[zBY],by simp[zBY]⟩;intro r hr;simp only[zBY,List.mem_singleton] at hr;subst hr;exact ⟨List.length_replicate ..,fun x hx=>by rw[zMI hx];simp[zBY]⟩
theorem zQR (c:Nat):GoodD c (zGc c):=by
 refine ⟨⟨rfl,rfl,by simp[zGc],by simp[zGc],?_⟩,by simp[zGc],by simp[zGc]⟩;intro r hr;simp only[zGc,List.mem_singleton] at hr;subst hr;exact ⟨List.length_replicate ..,fun x hx=>by rw[zMI hx];simp[zGc]⟩
def setRow (cs:List (List Sp)) (s:List Sp):List Int:=cs.map fun l=>if inS s (zBM l)=true then 1 else -1
def zJg (cs:List (List Sp)) (s:List Sp):Dfa:=⟨0,[-1,0],[setRow cs s,List.replicate cs.length (-1)]⟩
theorem zNc (cs:List (List Sp)) (s:List Sp):GoodD cs.length (zJg cs s):=by
 refine ⟨⟨rfl,rfl,by simp[zJg],by simp[zJg],?_⟩,by simp[zJg],by simp[zJg]⟩;intro r hr;simp only[zJg,List.mem_cons,List.not_mem_nil,or_false] at hr;rcases hr with rfl|rfl
 ·refine ⟨by simp[setRow],fun x hx=>?_⟩;obtain ⟨l,_,rfl⟩:=List.mem_map.1 hx;simp only[zJg,List.length_cons,List.length_nil];split<;>omega
 ·exact ⟨List.length_replicate ..,fun x hx=>by rw[zMI hx];simp[zJg]⟩
noncomputable def opK (c:Nat) (k:Int) (a b:Dfa):Option Dfa:=if k=3 then catO c a b else prsO c (decide (k=7)) a b
noncomputable def foldK (c:Nat) (k:Int):Dfa→List Dfa→Option Dfa
  | d,[]=>some d
  | d,e::es=>(opK c k d e).bind fun d'=>foldK c k d' es
noncomputable def repK (c:Nat) (mn:Int) (a may:Dfa):Nat→Option Dfa
  | 0=>some (zBY c)
  | k+1=>(repK c mn a may k).bind fun o=>catO c o (if ((k:Nat):Int)<mn then a else may)
noncomputable def nodeO (c:Nat) (cs:List (List Sp)) (k:Int) (s:List Sp) (mn mx:Int) (L:Option (List Dfa)):Option Dfa:=
 if k=1 then some (zBY c)
 else if k=2 then canO c (beh (zJg cs s) 0)
 else if k=3∨k=4∨k=7 then L.bind fun l=>match l with|d::ds=>foldK c k d ds|[]=>none
 else if k=5 then L.bind fun l=>match l with|d::_=>stO c d|[]=>none
 else if k=6 then L.bind fun l=>match l with|d::_=>(prsO c false d (zBY c)).bind fun m=>repK c mn d m mx.toNat|[]=>none
 else if k=8 then L.bind fun l=>match l with|d::_=>canO c fun w=>fl (beh d d.start w)|[]=>none
 else if k=9 then L.bind fun l=>match l with|d::_=>some d|[]=>none
 else some (zGc c)
def zIh (o:Option Dfa):Option Dfa:=o.bind fun d=>if 200<d.next.length then none else some d
mutual
noncomputable def trN (c:Nat) (cs:List (List Sp)):Re→Option Dfa
  | .mk k s a mn mx _=>nodeO c cs k s mn mx (trL c cs a)
noncomputable def trL (c:Nat) (cs:List (List Sp)):List Re→Option (List Dfa)
  | []=>some []
  | t::ts=>(zIh (trN c cs t)).bind fun d=>(trL c cs ts).map fun l=>d::l
end
noncomputable def trO (c:Nat) (cs:List (List Sp)) (t:Re):Option Dfa:=zIh (trN c cs t)
theorem zFv (c:Nat) (cs:List (List Sp)) (t:Re):trN c cs t=nodeO c cs t.kind t.set t.mn t.mx (trL c cs t.args):=by cases t;simp only[trN];rfl
theorem zEN (c:Nat) (cs:List (List Sp)) (t:Re) (ts:List Re):trL c cs (t::ts)=(trO c cs t).bind fun d=>(trL c cs ts).map fun l=>d::l:=by simp only[trL];rfl
theorem zEj {c:Nat} {cs:List (List Sp)}:∀{ts:List Re} {i:Nat} {x:Re},ts[i]?=some x→trO c cs x=none→trL c cs ts=none
  | [],i,x,h,_=>by simp at h
  | t::ts,0,x,h,h0=>by simp at h;subst h;rw[zEN,h0];rfl
  | t::ts,i+1,x,h,h0=>by rw[zEN,zEj (ts:=ts) (i:=i) (by simpa using h) h0];cases trO c cs t<;>rfl
theorem zEi {c:Nat} {cs:List (List Sp)} {x:Re} {d:Dfa} (hx:trO c cs x=some d):∀{ts:List Re} {ds:List Dfa},trL c cs ts=some ds→trL c cs (ts++[x])=some (ds++[d])
  | [],ds,h=>by simp only[trL,Option.some.injEq] at h;subst h;rw[List.nil_append,zEN,hx];simp[trL]
  | t::ts,ds,h=>by
    rw[zEN] at h;cases e:trO c cs t with
    | none=>rw[e] at h;cases h
    | some e1=>
      rw[e] at h;cases e2:trL c cs ts with
      | none=>rw[e2] at h;cases h
      | some l=>
        rw[e2] at h;simp only[Option.bind_some,Option.map_some,Option.some.injEq] at h;subst h;rw[List.cons_append,zEN,e,zEi hx e2];rfl
theorem zJO {c:Nat} {k:Int} {e:Dfa}:∀{ds:List Dfa} {d:Dfa},foldK c k d (ds++[e])=(foldK c k d ds).bind fun d'=>opK c k d' e
  | [],d=>by simp[foldK]
  | x::ds,d=>by
    simp only[List.cons_append,foldK];cases opK c k d x with
    | none=>rfl
    | some y=>simp only[Option.bind_some];exact zJO
theorem zJP {c:Nat} {k:Int}:∀{ds es:List Dfa} {d:Dfa},foldK c k d ds=none→foldK c k d (ds++es)=none
  | [],es,d,h=>by simp[foldK] at h
  | x::ds,es,d,h=>by
    simp only[List.cons_append,foldK] at h⊢;cases e:opK c k d x with
    | none=>rfl
    | some y=>rw[e] at h;simp only[Option.bind_some] at h⊢;exact zJP h
theorem zHe {c:Nat} {mn:Int} {a m:Dfa} {k:Nat} (h:repK c mn a m k=none):∀j,k≤j→repK c mn a m j=none
  | 0,hj=>by rw[show k=0 by omega] at h;cases h
  | j+1,hj=>by
    by_cases e:k=j+1
    · rw[←e];exact h
    · rw[repK,zHe h j qO];rfl
end Go.Proofs
namespace Go.Proofs
open Go Go.Eng Go.Sort
set_option maxRecDepth 100000
theorem zBW.put {S M:Nat→Prop} {w w':World} {d:Dfa} {vs:List Value} (h:zBW S w d vs) (c:Chg M w w') (hM:∀b,S b→¬M b):zBW S w' d vs:=(h.chg c fun b hb _=>hM b hb).mono fun _ hb=>hb.1
theorem zJb.mono {S S':Nat→Prop} {w:World} {d:Dfa} {r:Value} (hs:∀b,S b→S' b) (h:zJb S d r w):zJb S' d r w:=by
 obtain ⟨ea,ec,na,nc,h1,h2⟩:=h;exact ⟨ea,ec,na,nc,h1,h2.mono hs⟩
def zIX (c:Nat) (cs:List (List Sp)) (x:Re):Prop:=∀(w:World) (bt:Nat) (ca:Option Addr) (cc:Nat) (vs:List Value),Blk w bt #[.slice ca cs.length cc] 108→zBv w (.slice ca cs.length cc) cs→zBB w x vs→
 zRI prog lgC 105 #[.pointer (some ⟨bt,0,none⟩),.agg vs.toArray] w (fun r w'=>(∃d,trN c cs x=some d∧GoodD c d∧zJb (fun b=>w.heap.size≤b∧b<w'.heap.size) d r w')∧Ext w w') fun w'=>trN c cs x=none∧Ext w w'
def zIm (c:Nat) (cs:List (List Sp)) (x:Re):Prop:=∀(w:World) (bt:Nat) (ca:Option Addr) (cc:Nat) (vs:List Value),Blk w bt #[.slice ca cs.length cc] 108→zBv w (.slice ca cs.length cc) cs→zBB w x vs→
 zRI prog lgC 70 #[.pointer (some ⟨bt,0,none⟩),.agg vs.toArray] w (fun r w'=>(∃d,trO c cs x=some d∧GoodD c d∧d.next.length≤200∧zJb (fun b=>w.heap.size≤b∧b<w'.heap.size) d r w')∧Ext w w') fun w'=>trO c cs x=none∧Ext w w'
theorem zJd {c:Nat} {cs:List (List Sp)} {x:Re} {d:Dfa} (h:trN c cs x=some d):(¬200<d.next.length→trO c cs x=some d)∧(200<d.next.length→trO c cs x=none):=by
 unfold trO zIh;rw[h];exact ⟨fun h1=>by rw[Option.bind_some,if_neg h1],fun h1=>by rw[Option.bind_some,if_pos h1]⟩
theorem zVZ {c:Nat} {cs:List (List Sp)} {x:Re} (h:trN c cs x=none):trO c cs x=none:=by
 unfold trO zIh;rw[h];rfl
theorem zVy (c:Nat) (cs:List (List Sp)) (x:Re) (hx:zIX c cs x):zIm c cs x:=by
 intro w0 bt ca cc vs hT hC ht;have ad:=ht;obtain ⟨sa,sc,aa,ac,rfl,_,_,_⟩:=ht.form;refine zDj func70 rfl ntmps70 (leT rfl) ?_;have E:Chg zAh w0 w0:=Chg.refl _ _;refine zAA (zBQ (v:=(.agg (R6 x sa sc aa ac))) (c:=(R6 x sa sc aa ac)) qD rfl rfl ?_);intro bb wb Nb;have Fb:=Nb.ge E;have Ob_bt:=Nb.lt hT;replace hT:=Nb.keep hT;replace E:=E.ext Nb.ext;have Bb:=Nb.blk;refine zBH (c:=#[(I6 0),(.slice none 0 0),(.slice none 0 0)]) qD zBf rfl ?_;intro br wr Nr;have Fr:=Nr.ge E;have Or_bt:=Nr.lt hT;have Or_bb:=Nr.lt Bb;replace hT:=Nr.keep hT;replace Bb:=Nr.keep Bb;replace E:=E.ext Nr.ext;have Br:=Nr.blk;refine zAB (zAA (qM _ rfl (qV (zAK (vs:=[(I6 x.kind),(.slice sa x.set.length sc),(.slice aa x.args.length ac),(I6 x.mn),(I6 x.mx),(.bool x.neg)]) rfl zBc zAw rfl (Bb.cells rfl)) ?_)));obtain ⟨n9,ab⟩:∃n9,n9=(wr).heap.size:=⟨_,rfl⟩;have hlt:br<n9∧w0.heap.size≤n9:=⟨by rw[ab];exact Br.lt,by rw[ab];exact E.size⟩;refine zBd rfl rfl qD (zAQ func105 kQ kQ rfl) (((hx _ bt ca cc _ hT (hC.ext E) (zBB.ext E x ad)).mono (R':=fun r w'=>(∃d,trN c cs x=some d∧GoodD c d∧zJb (fun b=>n9≤b) d r w')∧Ext _ w') (fun r w' h=>⟨by obtain ⟨d,h1,h2,h3⟩:=h.1;exact ⟨d,h1,h2,h3.mono fun b hb=>by rw[ab];exact hb.1⟩,h.2⟩) (fun _ h=>h))) (fun w' h=>And.intro rfl ⟨zVZ h.1,E.ext h.2⟩) ?_;rintro _ w9 ⟨⟨d,hd,gd,ea,ec,na,nc,rfl,hD⟩,X9⟩;replace hT:=X9.keep hT;replace Bb:=X9.keep Bb;replace Br:=X9.keep Br;replace E:=E.ext X9;refine zAd (v:=(.agg #[(I6 d.start),(.slice ea d.accept.length ec),(.slice na d.next.length nc)])) (c:=#[(I6 d.start),(.slice ea d.accept.length ec),(.slice na d.next.length nc)]) (n:=3) qD zBf rfl zAe rfl rfl rfl qS ?_;intro bd wd Nd;have Fd:=Nd.ge E;have Od_bt:=Nd.lt hT;have Od_bb:=Nd.lt Bb;have Od_br:=Nd.lt Br;replace hT:=Nd.keep hT;replace Bb:=Nd.keep Bb;replace Br:=Nd.keep Br;replace hD:=hD.ext Nd.ext;replace E:=E.ext Nd.ext;have Bd:=Nd.blk;refine zAB (zAH (zAA (qF bd 0 2 rfl underlying34 rfl zBu rfl (qV (zAI rfl zBi (Bd.cell rfl)) (qV (zAJ underlying32 rfl) (qV (zDB rfl rfl) (zAB (qC rfl (fun h0=>?_) (fun h0=>?_)))))))))
 ·refine zAF (qV (zBA (ps:=[]) (v:=(.agg #[])) rfl qK) (qV (zHf (t:=104) (v:=(.agg #[])) underlying104 rfl) (zLu rfl (zPd (u:=104) (v:=(.agg #[])) rfl) (And.intro rfl ⟨(zJd hd).2 qO,E⟩))))
 ·refine zAO (zAC (zAA (qV (zAK (vs:=[(I6 d.start),(.slice ea d.accept.length ec),(.slice na d.next.length nc)]) rfl zAx zAe rfl (Bd.cells rfl)) (zAb (b:=br) (o:=0) (c':=#[(I6 d.start),(.slice ea d.accept.length ec),(.slice na d.next.length nc)]) rfl rfl qS zAe rfl Br qL rfl ?_))));intro w2 S2;replace hD:=hD.put S2.chg fun y h1 h=>by have h':y=br:=h;omega
  replace hT:=S2.keep qO hT;replace Bb:=S2.keep qO Bb;replace Bd:=S2.keep qO Bd;replace E:=S2.step E qQ;replace Br:=S2.blk;refine zAB (zAV (zCo (zBm results70 (vs:=[(.int .i64 d.start),(.slice ea d.accept.length ec),(.slice na d.next.length nc)]) (b:=br) rfl zAx zAe rfl (Br.cells rfl) ?_)));exact ⟨⟨d,(zJd hd).1 qO,gd,qO,_,_,_,_,rfl,(zBW.chg hD (Chg.refl zAh _) fun _ _ _ f=>f).mono fun b hb=>⟨qO,hb.2⟩⟩,E⟩
end Go.Proofs
namespace Go.Proofs
open Go Go.Eng Go.Sort
set_option maxRecDepth 100000
theorem zSn {t y:Re} (h:t.args.length=1) (hy:t.args[0]?=some y):t.args=[y]:=by
  match t.args,h,hy with
  | [a],_,e=>simp at e;rw[e]
section
variable {c : Nat} {cs : List (List Sp)} {t y : Re}
theorem zJe (h:t.args.length=1) (hy:t.args[0]?=some y):trL c cs t.args=(trO c cs y).map fun d=>[d]:=by
 rw[zSn h hy,zEN];cases trO c cs y<;>simp[trL]
theorem zWu (hk:t.kind=1):trN c cs t=some (zBY c):=by rw[zFv,nodeO,if_pos hk]
theorem zVc (hk:t.kind=2):trN c cs t=canO c (beh (zJg cs t.set) 0):=by rw[zFv,nodeO,if_neg qO,if_pos hk]
theorem zTq (hk:t.kind=5) (h:t.args.length=1) (hy:t.args[0]?=some y):trN c cs t=(trO c cs y).bind (stO c):=by
 rw[zFv,nodeO,if_neg qO,if_neg qO,if_neg qO,if_pos hk,zJe h hy];cases trO c cs y<;>rfl
theorem zTp (hk:t.kind=6) (h:t.args.length=1) (hy:t.args[0]?=some y):trN c cs t=(trO c cs y).bind fun d=>(prsO c false d (zBY c)).bind fun m=>repK c t.mn d m t.mx.toNat:=by
 rw[zFv,nodeO,if_neg qO,if_neg qO,if_neg qO,if_neg qO,if_pos hk,zJe h hy];cases trO c cs y<;>rfl
theorem zTo (hk:t.kind=8) (h:t.args.length=1) (hy:t.args[0]?=some y):trN c cs t=(trO c cs y).bind fun d=>canO c fun w=>fl (beh d d.start w):=by
 rw[zFv,nodeO,if_neg qO,if_neg qO,if_neg qO,if_neg qO,if_neg qO,if_pos hk,zJe h hy];cases trO c cs y<;>rfl
theorem zVb (hk:t.kind=9) (h:t.args.length=1) (hy:t.args[0]?=some y):trN c cs t=trO c cs y:=by
 rw[zFv,nodeO,if_neg qO,if_neg qO,if_neg qO,if_neg qO,if_neg qO,if_neg qO,if_pos hk,zJe h hy];cases trO c cs y<;>rfl
theorem zWv (h:¬(1≤t.kind∧t.kind≤9)):trN c cs t=some (zGc c):=by
 rw[zFv,nodeO,if_neg qO,if_neg qO,if_neg qO,if_neg qO,if_neg qO,if_neg qO,if_neg qO]
end
theorem zTm (cs:List (List Sp)) (x:Re) (hc:1≤cs.length∧cs.length≤16) (hN:NodeI x) (hk:x.kind=1):zIX cs.length cs x:=by
 intro w0 bt ca cc vs hT hC ht;have ht0:=ht;obtain ⟨sa,sc,aa,ac,rfl,ag,ae,ad⟩:=ht.form;have hcl:cs.length≤16:=hc.2;refine zDj func105 rfl ntmps105 (leT rfl) ?_;have E:Chg zAh w0 w0:=Chg.refl _ _;refine zAA (zBQ (v:=(.agg (R6 x sa sc aa ac))) (c:=(R6 x sa sc aa ac)) qD rfl rfl ?_);intro bb wb Nb;have Fb:=Nb.ge E;have Ob_bt:=Nb.lt hT;replace hT:=Nb.keep hT;replace E:=E.ext Nb.ext;have Bb:=Nb.blk;refine zBH (c:=#[(I6 0),(.slice none 0 0),(.slice none 0 0)]) qD zBf rfl ?_;intro br wr Nr;have Fr:=Nr.ge E;have Or_bt:=Nr.lt hT;have Or_bb:=Nr.lt Bb;replace hT:=Nr.keep hT;replace Bb:=Nr.keep Bb;replace E:=E.ext Nr.ext;have Br:=Nr.blk;refine zAB (zAA (qM _ rfl (qV (zBh rfl) (qF bt 0 0 rfl underlying108 rfl zHK rfl (qV (zAI rfl zDY (hT.cell rfl)) (qV (zAJ underlying35 rfl) (qA _ rfl (zAB (zAH (zAA (qF bb 0 0 rfl underlying26 rfl zAy rfl (qV (zAI rfl zAo (Bb.cell rfl)) (zAB (zAS (zAA (qV (zAs rfl rfl) (qA _ rfl (zAB ?_))))))))))))))))));have af:(decide ((x.kind:Int)=1))=true:=decide_eq_true hk;refine zAk (cbk af) (zAA (qM _ rfl ?_));obtain ⟨n9,ab⟩:∃n9,n9=(wr).heap.size:=⟨_,rfl⟩;have hlt:br<n9∧w0.heap.size≤n9:=⟨by rw[ab];exact Br.lt,by rw[ab];exact E.size⟩;refine qE rfl (zAQ func152 kQ kQ rfl) (((zKL _ cs.length hc).mono (R':=fun r w'=>zJb (fun b=>n9≤b) (zBY cs.length) r w'∧Ext _ w') (fun r w' h=>⟨h.1.mono fun b hb=>by rw[ab];exact hb,h.2⟩))) ?_;rintro _ w9 ⟨⟨ea,ec,na,nc,rfl,hD⟩,X9⟩;replace hT:=X9.keep hT;replace Bb:=X9.keep Bb;replace Br:=X9.keep Br;replace E:=E.ext X9;refine zAb (b:=br) (o:=0) (c':=#[(I6 ((zBY cs.length).start)),(.slice ea ((zBY cs.length).accept.length) ec),(.slice na ((zBY cs.length).next.length) nc)]) rfl rfl qS zAe rfl Br qL rfl ?_;intro w2 S2;replace hD:=hD.put S2.chg fun y h1 h=>by have h':y=br:=h;omega
 replace hT:=S2.keep qO hT;replace Bb:=S2.keep qO Bb;replace E:=S2.step E qQ;replace Br:=S2.blk;refine zAB (zAV (zAi (zAU (zCo (zBm results105 (vs:=[(.int .i64 ((zBY cs.length).start)),(.slice ea ((zBY cs.length).accept.length) ec),(.slice na ((zBY cs.length).next.length) nc)]) (b:=br) rfl zAx zAe rfl (Br.cells rfl) ?_)))));exact ⟨⟨_,zWu hk,zGi _,_,_,_,_,rfl,(zBW.chg hD (Chg.refl zAh _) fun _ _ _ f=>f).mono fun b hb=>⟨qO,hb.2⟩⟩,E⟩
theorem zTe (cs:List (List Sp)) (x:Re) (hc:1≤cs.length∧cs.length≤16) (hN:NodeI x) (hk:x.kind=9) (hof:∀y∈x.args,zIm cs.length cs y):zIX cs.length cs x:=by
 intro w0 bt ca cc vs hT hC ht;have ht0:=ht;obtain ⟨sa,sc,aa,ac,rfl,ar,am,ae⟩:=ht.form;have hcl:cs.length≤16:=hc.2;have h1:=hN.one qO;obtain ⟨y,hy⟩:=zAN (l:=x.args) (i:=0) qO;obtain ⟨ab,ao,rfl,af⟩:=zFo ae qO;obtain ⟨us,al,ai⟩:=af.get hy;have ah:=ai;obtain ⟨ysa,ysc,yaa,yac,rfl,_,_,_⟩:=ai.form;refine zDj func105 rfl ntmps105 (leT rfl) ?_;have E:Chg zAh w0 w0:=Chg.refl _ _;refine zAA (zBQ (v:=(.agg (R6 x sa sc (some ⟨ab,ao,none⟩) ac))) (c:=(R6 x sa sc (some ⟨ab,ao,none⟩) ac)) qD rfl rfl ?_);intro bb wb Nb;have Fb:=Nb.ge E;have Ob_bt:=Nb.lt hT;replace hT:=Nb.keep hT;replace E:=E.ext Nb.ext;have Bb:=Nb.blk;refine zBH (c:=#[(I6 0),(.slice none 0 0),(.slice none 0 0)]) qD zBf rfl ?_;intro br wr Nr;have Fr:=Nr.ge E;have Or_bt:=Nr.lt hT;have Or_bb:=Nr.lt Bb;replace hT:=Nr.keep hT;replace Bb:=Nr.keep Bb;replace E:=E.ext Nr.ext;have Br:=Nr.blk;refine zAB (zAA (qM _ rfl (qV (zBh rfl) (qF bt 0 0 rfl underlying108 rfl zHK rfl (qV (zAI rfl zDY (hT.cell rfl)) (qV (zAJ underlying35 rfl) (qA _ rfl (zAB (zAH (zAA (qF bb 0 0 rfl underlying26 rfl zAy rfl (qV (zAI rfl zAo (Bb.cell rfl)) (zAB (zAS (zAA (qV (zAs rfl rfl) (qA _ rfl (zAB ?_))))))))))))))))));have an:(decide ((x.kind:Int)=1))=false:=decide_eq_false qO;refine zAP (cbk an) (zAA (qV (zAs rfl rfl) (qA _ rfl (zAB ?_))));have aj:(decide ((x.kind:Int)=2))=false:=decide_eq_false qO;refine zAP (cbk aj) (zAH (zAA (qV (zAs rfl rfl) (qA _ rfl (zAB ?_)))));have ap:(decide ((x.kind:Int)=3))=false:=decide_eq_false qO;refine zAP (cbk ap) (zAA (qV (zAs rfl rfl) (qA _ rfl (zAB ?_))));have av:(decide ((x.kind:Int)=4))=false:=decide_eq_false qO;refine zAP (cbk av) (zAF (qV (zAs rfl rfl) (qA _ rfl (zAB (zAC ?_)))));have au:(decide ((x.kind:Int)=7))=false:=decide_eq_false qO;refine zAP (cbk au) (zAA (qV (zAs rfl rfl) (qA _ rfl (zAB ?_))));have aq:(decide ((x.kind:Int)=5))=false:=decide_eq_false qO;refine zAP (cbk aq) (zAA (qV (zAs rfl rfl) (qA _ rfl (zAB ?_))));have ak:(decide ((x.kind:Int)=6))=false:=decide_eq_false qO;refine zAP (cbk ak) (zAA (qV (zAs rfl rfl) (qA _ rfl (zAB ?_))));have aw:(decide ((x.kind:Int)=8))=false:=decide_eq_false qO;refine zAP (cbk aw) (zAA (qV (zAs rfl rfl) (qA _ rfl (zAB ?_))));have ax:(decide ((x.kind:Int)=9))=true:=decide_eq_true hk;refine zAk (cbk ax) (zAA (qM _ rfl (qF bb 0 2 rfl underlying26 rfl zFw rfl (qV (zAI rfl zEQ (Bb.cell rfl)) (qV (zAD (b:=ab) (o:=ao) (len:=x.args.length) (cap:=ac) (i:=0) (o':=ao+0*6) rfl rfl rfl underlying24 zAw qO qO) (qV (zAK rfl zBc zAw rfl (al.ext E)) ?_))))));obtain ⟨n9,ag⟩:∃n9,n9=(wr).heap.size:=⟨_,rfl⟩;have hlt:br<n9∧w0.heap.size≤n9:=⟨by rw[ag];exact Br.lt,by rw[ag];exact E.size⟩;refine zBd rfl rfl qD (zAQ func70 kQ kQ rfl) (((hof y (List.mem_of_getElem? hy) _ bt ca cc _ hT (hC.ext E) (zBB.ext E y ah)).mono (R':=fun r w'=>(∃d,trO cs.length cs y=some d∧GoodD cs.length d∧d.next.length≤200∧zJb (fun b=>n9≤b) d r w')∧Ext _ w') (fun r w' h=>⟨by obtain ⟨d,h1,h2,h3,h4⟩:=h.1;exact ⟨d,h1,h2,h3,h4.mono fun b hb=>by rw[ag];exact hb.1⟩,h.2⟩) (fun _ h=>h))) (fun w' h=>And.intro rfl ⟨by rw[zVb hk h1 hy];exact h.1,E.ext h.2⟩) ?_;rintro _ w9 ⟨⟨d,hd,gd,hd2,ea,ec,na,nc,rfl,hD⟩,X9⟩;replace hT:=X9.keep hT;replace Bb:=X9.keep Bb;replace Br:=X9.keep Br;replace E:=E.ext X9;refine zAb (b:=br) (o:=0) (c':=#[(I6 d.start),(.slice ea d.accept.length ec),(.slice na d.next.length nc)]) rfl rfl qS zAe rfl Br qL rfl ?_;intro w10 ad;replace hD:=hD.put ad.chg fun y h1 h=>by have h':y=br:=h;omega
 replace hT:=ad.keep qO hT;replace Bb:=ad.keep qO Bb;replace E:=ad.step E qQ;replace Br:=ad.blk;refine zAB (zAV (zAi (zAU (zCo (zBm results105 (vs:=[(.int .i64 d.start),(.slice ea d.accept.length ec),(.slice na d.next.length nc)]) (b:=br) rfl zAx zAe rfl (Br.cells rfl) ?_)))));exact ⟨⟨_,by rw[zVb hk h1 hy];exact hd,gd,_,_,_,_,rfl,(zBW.chg hD (Chg.refl zAh _) fun _ _ _ f=>f).mono fun b hb=>⟨qO,hb.2⟩⟩,E⟩
theorem zTf (cs:List (List Sp)) (x:Re) (hc:1≤cs.length∧cs.length≤16) (hN:NodeI x) (hk:x.kind=8) (hof:∀y∈x.args,zIm cs.length cs y):zIX cs.length cs x:=by
 intro w0 bt ca cc vs hT hC ht;have ht0:=ht;obtain ⟨sa,sc,aa,ac,rfl,az,an,ad⟩:=ht.form;have hcl:cs.length≤16:=hc.2;have h1:=hN.one qO;obtain ⟨y,hy⟩:=zAN (l:=x.args) (i:=0) qO;obtain ⟨ab,ao,rfl,ah⟩:=zFo ad qO;obtain ⟨us,aw,aj⟩:=ah.get hy;have ai:=aj;obtain ⟨ysa,ysc,yaa,yac,rfl,_,_,_⟩:=aj.form;refine zDj func105 rfl ntmps105 (leT rfl) ?_;have E:Chg zAh w0 w0:=Chg.refl _ _;refine zAA (zBQ (v:=(.agg (R6 x sa sc (some ⟨ab,ao,none⟩) ac))) (c:=(R6 x sa sc (some ⟨ab,ao,none⟩) ac)) qD rfl rfl ?_);intro bb wb Nb;have Fb:=Nb.ge E;have Ob_bt:=Nb.lt hT;replace hT:=Nb.keep hT;replace E:=E.ext Nb.ext;have Bb:=Nb.blk;refine zBH (c:=#[(I6 0),(.slice none 0 0),(.slice none 0 0)]) qD zBf rfl ?_;intro br wr Nr;have Fr:=Nr.ge E;have Or_bt:=Nr.lt hT;have Or_bb:=Nr.lt Bb;replace hT:=Nr.keep hT;replace Bb:=Nr.keep Bb;replace E:=E.ext Nr.ext;have Br:=Nr.blk;refine zAB (zAA (qM _ rfl (qV (zBh rfl) (qF bt 0 0 rfl underlying108 rfl zHK rfl (qV (zAI rfl zDY (hT.cell rfl)) (qV (zAJ underlying35 rfl) (qA _ rfl (zAB (zAH (zAA (qF bb 0 0 rfl underlying26 rfl zAy rfl (qV (zAI rfl zAo (Bb.cell rfl)) (zAB (zAS (zAA (qV (zAs rfl rfl) (qA _ rfl (zAB ?_))))))))))))))))));have ap:(decide ((x.kind:Int)=1))=false:=decide_eq_false qO;refine zAP (cbk ap) (zAA (qV (zAs rfl rfl) (qA _ rfl (zAB ?_))));have av:(decide ((x.kind:Int)=2))=false:=decide_eq_false qO;refine zAP (cbk av) (zAH (zAA (qV (zAs rfl rfl) (qA _ rfl (zAB ?_)))));have ax:(decide ((x.kind:Int)=3))=false:=decide_eq_false qO;refine zAP (cbk ax) (zAA (qV (zAs rfl rfl) (qA _ rfl (zAB ?_))));have a1:(decide ((x.kind:Int)=4))=false:=decide_eq_false qO;refine zAP (cbk a1) (zAF (qV (zAs rfl rfl) (qA _ rfl (zAB (zAC ?_)))));have a0:(decide ((x.kind:Int)=7))=false:=decide_eq_false qO;refine zAP (cbk a0) (zAA (qV (zAs rfl rfl) (qA _ rfl (zAB ?_))));have aq:(decide ((x.kind:Int)=5))=false:=decide_eq_false qO;refine zAP (cbk aq) (zAA (qV (zAs rfl rfl) (qA _ rfl (zAB ?_))));have am:(decide ((x.kind:Int)=6))=false:=decide_eq_false qO;refine zAP (cbk am) (zAA (qV (zAs rfl rfl) (qA _ rfl (zAB ?_))));have ar:(decide ((x.kind:Int)=8))=true:=decide_eq_true hk;refine zAk (cbk ar) (zAA (qM _ rfl (qF bb 0 2 rfl underlying26 rfl zFw rfl (qV (zAI rfl zEQ (Bb.cell rfl)) (qV (zAD (b:=ab) (o:=ao) (len:=x.args.length) (cap:=ac) (i:=0) (o':=ao+0*6) rfl rfl rfl underlying24 zAw qO qO) (qV (zAK rfl zBc zAw rfl (aw.ext E)) ?_))))));obtain ⟨n9,ae⟩:∃n9,n9=(wr).heap.size:=⟨_,rfl⟩;have hlt:br<n9∧w0.heap.size≤n9:=⟨by rw[ae];exact Br.lt,by rw[ae];exact E.size⟩;refine zBd rfl rfl qD (zAQ func70 kQ kQ rfl) (((hof y (List.mem_of_getElem? hy) _ bt ca cc _ hT (hC.ext E) (zBB.ext E y ai)).mono (R':=fun r w'=>(∃d,trO cs.length cs y=some d∧GoodD cs.length d∧d.next.length≤200∧zJb (fun b=>n9≤b) d r w')∧Ext _ w') (fun r w' h=>⟨by obtain ⟨d,h1,h2,h3,h4⟩:=h.1;exact ⟨d,h1,h2,h3,h4.mono fun b hb=>by rw[ae];exact hb.1⟩,h.2⟩) (fun _ h=>h))) (fun w' h=>And.intro rfl ⟨by rw[zTo hk h1 hy,h.1];rfl,E.ext h.2⟩) ?_;rintro _ w9 ⟨⟨d,hd,gd,hd2,ea,ec,na,nc,rfl,hD⟩,X9⟩;replace hT:=X9.keep hT;replace Bb:=X9.keep Bb;replace Br:=X9.keep Br;replace E:=E.ext X9;obtain ⟨n8,ag⟩:∃n8,n8=(w9).heap.size:=⟨_,rfl⟩;have au:br<n8∧n9≤n8:=⟨by rw[ag];exact Br.lt,by rw[ag,ae];exact X9.size⟩;refine qE rfl (zAQ func54 kQ kQ rfl) ((zQj _ _ cs.length d _ gd.ok hD.at' ⟨by have:=gd.ok.st;omega,qO,hc.1,hc.2⟩).mono (R':=fun r w'=>zWq cs.length (fun w=>fl (beh d d.start w)) (d.next.length+1) n8 r w'∧Ext _ w') (fun r w' h=>by rw[ag];exact h)) ?_;rintro _ ay ⟨⟨C,ca,cc,ma,mc,ak,hCl,al,rfl,a2⟩,af⟩;replace hT:=af.keep hT;replace Bb:=af.keep Bb;replace Br:=af.keep Br;replace E:=E.ext af;have hD:zBW (fun b=>n9≤b) ay C _:=(zBW.of_new a2).mono fun b hb=>by have:=hb.1;omega
 refine zAb (b:=br) (o:=0) (c':=#[(I6 C.start),(.slice ca C.accept.length cc),(.slice ma C.next.length mc)]) rfl rfl qS zAe rfl Br qL rfl ?_;intro w9 S9;replace hD:=hD.put S9.chg fun y h1 h=>by have h':y=br:=h;omega
 replace hT:=S9.keep qO hT;replace Bb:=S9.keep qO Bb;replace E:=S9.step E qQ;replace Br:=S9.blk;refine zAB (zAV (zAi (zAU (zCo (zBm results105 (vs:=[(.int .i64 C.start),(.slice ca C.accept.length cc),(.slice ma C.next.length mc)]) (b:=br) rfl zAx zAe rfl (Br.cells rfl) ?_)))));exact ⟨⟨_,by rw[zTo hk h1 hy,hd];exact zFL ak,(zGI ak qO al),_,_,_,_,rfl,(zBW.chg hD (Chg.refl zAh _) fun _ _ _ f=>f).mono fun b hb=>⟨qO,hb.2⟩⟩,E⟩
theorem zTi (cs:List (List Sp)) (x:Re) (hc:1≤cs.length∧cs.length≤16) (hN:NodeI x) (hk:x.kind=5) (hof:∀y∈x.args,zIm cs.length cs y):zIX cs.length cs x:=by
 intro w0 bt ca cc vs hT hC ht;have ht0:=ht;obtain ⟨sa,sc,aa,ac,rfl,a3,au,ae⟩:=ht.form;have hcl:cs.length≤16:=hc.2;have h1:=hN.one qO;obtain ⟨y,hy⟩:=zAN (l:=x.args) (i:=0) qO;obtain ⟨ab,ao,rfl,ai⟩:=zFo ae qO;obtain ⟨us,a1,aq⟩:=ai.get hy;have ap:=aq;obtain ⟨ysa,ysc,yaa,yac,rfl,_,_,_⟩:=aq.form;refine zDj func105 rfl ntmps105 (leT rfl) ?_;have E:Chg zAh w0 w0:=Chg.refl _ _;refine zAA (zBQ (v:=(.agg (R6 x sa sc (some ⟨ab,ao,none⟩) ac))) (c:=(R6 x sa sc (some ⟨ab,ao,none⟩) ac)) qD rfl rfl ?_);intro bb wb Nb;have Fb:=Nb.ge E;have Ob_bt:=Nb.lt hT;replace hT:=Nb.keep hT;replace E:=E.ext Nb.ext;have Bb:=Nb.blk;refine zBH (c:=#[(I6 0),(.slice none 0 0),(.slice none 0 0)]) qD zBf rfl ?_;intro br wr Nr;have Fr:=Nr.ge E;have Or_bt:=Nr.lt hT;have Or_bb:=Nr.lt Bb;replace hT:=Nr.keep hT;replace Bb:=Nr.keep Bb;replace E:=E.ext Nr.ext;have Br:=Nr.blk;refine zAB (zAA (qM _ rfl (qV (zBh rfl) (qF bt 0 0 rfl underlying108 rfl zHK rfl (qV (zAI rfl zDY (hT.cell rfl)) (qV (zAJ underlying35 rfl) (qA _ rfl (zAB (zAH (zAA (qF bb 0 0 rfl underlying26 rfl zAy rfl (qV (zAI rfl zAo (Bb.cell rfl)) (zAB (zAS (zAA (qV (zAs rfl rfl) (qA _ rfl (zAB ?_))))))))))))))))));have aw:(decide ((x.kind:Int)=1))=false:=decide_eq_false qO;refine zAP (cbk aw) (zAA (qV (zAs rfl rfl) (qA _ rfl (zAB ?_))));have az:(decide ((x.kind:Int)=2))=false:=decide_eq_false qO;refine zAP (cbk az) (zAH (zAA (qV (zAs rfl rfl) (qA _ rfl (zAB ?_)))));have a2:(decide ((x.kind:Int)=3))=false:=decide_eq_false qO;refine zAP (cbk a2) (zAA (qV (zAs rfl rfl) (qA _ rfl (zAB ?_))));have a5:(decide ((x.kind:Int)=4))=false:=decide_eq_false qO;refine zAP (cbk a5) (zAF (qV (zAs rfl rfl) (qA _ rfl (zAB (zAC ?_)))));have a4:(decide ((x.kind:Int)=7))=false:=decide_eq_false qO;refine zAP (cbk a4) (zAA (qV (zAs rfl rfl) (qA _ rfl (zAB ?_))));have ax:(decide ((x.kind:Int)=5))=true:=decide_eq_true hk;refine zAk (cbk ax) (zAA (qM _ rfl (qF bb 0 2 rfl underlying26 rfl zFw rfl (qV (zAI rfl zEQ (Bb.cell rfl)) (qV (zAD (b:=ab) (o:=ao) (len:=x.args.length) (cap:=ac) (i:=0) (o':=ao+0*6) rfl rfl rfl underlying24 zAw qO qO) (qV (zAK rfl zBc zAw rfl (a1.ext E)) ?_))))));obtain ⟨n9,af⟩:∃n9,n9=(wr).heap.size:=⟨_,rfl⟩;have hlt:br<n9∧w0.heap.size≤n9:=⟨by rw[af];exact Br.lt,by rw[af];exact E.size⟩;refine zBd rfl rfl qD (zAQ func70 kQ kQ rfl) (((hof y (List.mem_of_getElem? hy) _ bt ca cc _ hT (hC.ext E) (zBB.ext E y ap)).mono (R':=fun r w'=>(∃d,trO cs.length cs y=some d∧GoodD cs.length d∧d.next.length≤200∧zJb (fun b=>n9≤b) d r w')∧Ext _ w') (fun r w' h=>⟨by obtain ⟨d,h1,h2,h3,h4⟩:=h.1;exact ⟨d,h1,h2,h3,h4.mono fun b hb=>by rw[af];exact hb.1⟩,h.2⟩) (fun _ h=>h))) (fun w' h=>And.intro rfl ⟨by rw[zTq hk h1 hy,h.1];rfl,E.ext h.2⟩) ?_;rintro _ w9 ⟨⟨d,hd,gd,hd2,ea,ec,na,nc,rfl,hD⟩,X9⟩;replace hT:=X9.keep hT;replace Bb:=X9.keep Bb;replace Br:=X9.keep Br;replace E:=E.ext X9;have ay:n9≤(w9).heap.size:=by rw[af];exact X9.size
 obtain ⟨o9,an⟩:∃o9,o9=stO cs.length d:=⟨_,rfl⟩;refine qE rfl (zAQ func155 kQ kQ rfl) ((zWx _ cs.length d _ gd hD.at' hc).mono (R':=fun r w'=>opG cs.length (fun b=>n9≤b) o9 r w'∧Ext _ w') (fun r w' h=>⟨by rw[an];exact h.1.mono fun b hb=>by have:=hb.1;omega,h.2⟩)) ?_;rintro _ w29 ⟨⟨s9,ak,aj,al,ah,rfl,a0⟩,ag⟩;replace hT:=ag.keep hT;replace Bb:=ag.keep Bb;replace Br:=ag.keep Br;replace E:=E.ext ag;refine qV (zAa rfl rfl) (qV (zAa rfl rfl) (zBd rfl rfl qD (zAQ func153 kQ kQ rfl) (zHq _ o9.isSome s9.start ak aj s9.accept.length al s9.next.length ah) (fun w' h=>And.intro rfl ⟨by rw[zTq hk h1 hy,hd];exact an.symm.trans (Option.not_isSome_iff_eq_none.1 (by rw[h.1];decide)),E.ext h.2⟩) ?_));rintro _ w39 ⟨⟨ar,rfl⟩,ad⟩;replace hT:=ad.keep hT;replace Bb:=ad.keep Bb;replace Br:=ad.keep Br;replace E:=E.ext ad;obtain ⟨D,am⟩:=Option.isSome_iff_exists.1 ar;obtain ⟨av,gD,a6⟩:=a0 D am;rw[av] at am;have hD:=a6.ext ad;refine zAb (b:=br) (o:=0) (c':=#[(I6 s9.start),(.slice ak s9.accept.length al),(.slice aj s9.next.length ah)]) rfl rfl qS zAe rfl Br qL rfl ?_;intro w7 S7;replace hD:=hD.put S7.chg fun y h1 h=>by have h':y=br:=h;omega
 replace hT:=S7.keep qO hT;replace Bb:=S7.keep qO Bb;replace E:=S7.step E qQ;replace Br:=S7.blk;refine zAB (zAV (zAi (zAU (zCo (zBm results105 (vs:=[(.int .i64 s9.start),(.slice ak s9.accept.length al),(.slice aj s9.next.length ah)]) (b:=br) rfl zAx zAe rfl (Br.cells rfl) ?_)))));exact ⟨⟨_,by rw[zTq hk h1 hy,hd];exact an.symm.trans am,gD,_,_,_,_,rfl,(zBW.chg hD (Chg.refl zAh _) fun _ _ _ f=>f).mono fun b hb=>⟨qO,hb.2⟩⟩,E⟩
theorem zTn (cs:List (List Sp)) (x:Re) (hc:1≤cs.length∧cs.length≤16) (hN:NodeI x) (hk:¬(1≤x.kind∧x.kind≤9)):zIX cs.length cs x:=by
  intro w0 bt ca cc vs hT hC ht;have ht0:=ht;obtain ⟨sa,sc,aa,ac,rfl,ap,ag,ae⟩:=ht.form;have hcl:cs.length≤16:=hc.2;refine zDj func105 rfl ntmps105 (leT rfl) ?_;have E:Chg zAh w0 w0:=Chg.refl _ _;refine zAA (zBQ (v:=(.agg (R6 x sa sc aa ac))) (c:=(R6 x sa sc aa ac)) qD rfl rfl ?_);intro bb wb Nb;have Fb:=Nb.ge E;have Ob_bt:=Nb.lt hT;replace hT:=Nb.keep hT;replace E:=E.ext Nb.ext;have Bb:=Nb.blk;refine zBH (c:=#[(I6 0),(.slice none 0 0),(.slice none 0 0)]) qD zBf rfl ?_;intro br wr Nr;have Fr:=Nr.ge E;have Or_bt:=Nr.lt hT;have Or_bb:=Nr.lt Bb;replace hT:=Nr.keep hT;replace Bb:=Nr.keep Bb;replace E:=E.ext Nr.ext;have Br:=Nr.blk;refine zAB (zAA (qM _ rfl (qV (zBh rfl) (qF bt 0 0 rfl underlying108 rfl zHK rfl (qV (zAI rfl zDY (hT.cell rfl)) (qV (zAJ underlying35 rfl) (qA _ rfl (zAB (zAH (zAA (qF bb 0 0 rfl underlying26 rfl zAy rfl (qV (zAI rfl zAo (Bb.cell rfl)) (zAB (zAS (zAA (qV (zAs rfl rfl) (qA _ rfl (zAB ?_))))))))))))))))));have ah:(decide ((x.kind:Int)=1))=false:=decide_eq_false qO;refine zAP (cbk ah) (zAA (qV (zAs rfl rfl) (qA _ rfl (zAB ?_))));have am:(decide ((x.kind:Int)=2))=false:=decide_eq_false qO;refine zAP (cbk am) (zAH (zAA (qV (zAs rfl rfl) (qA _ rfl (zAB ?_)))));have an:(decide ((x.kind:Int)=3))=false:=decide_eq_false qO;refine zAP (cbk an) (zAA (qV (zAs rfl rfl) (qA _ rfl (zAB ?_))));have ar:(decide ((x.kind:Int)=4))=false:=decide_eq_false qO;refine zAP (cbk ar) (zAF (qV (zAs rfl rfl) (qA _ rfl (zAB (zAC ?_)))));have aq:(decide ((x.kind:Int)=7))=false:=decide_eq_false qO;refine zAP (cbk aq) (zAA (qV (zAs rfl rfl) (qA _ rfl (zAB ?_))));have ai:(decide ((x.kind:Int)=5))=false:=decide_eq_false qO;refine zAP (cbk ai) (zAA (qV (zAs rfl rfl) (qA _ rfl (zAB ?_))));have af:(decide ((x.kind:Int)=6))=false:=decide_eq_false qO;refine zAP (cbk af) (zAA (qV (zAs rfl rfl) (qA _ rfl (zAB ?_))));have ak:(decide ((x.kind:Int)=8))=false:=decide_eq_false qO;refine zAP (cbk ak) (zAA (qV (zAs rfl rfl) (qA _ rfl (zAB ?_))));have al:(decide ((x.kind:Int)=9))=false:=decide_eq_false qO;refine zAP (cbk al) (zAO (zAR (zAC (zAA (zAc (ps:=[(0,(I6 (-1)))]) (c:=#[(I6 (-1))]) qD rfl underlying22 zAy zDI qD qD qK ?_)))));intro be we Ne;have Fe:=Ne.ge E;have Oe_bt:=Ne.lt hT;have Oe_bb:=Ne.lt Bb;have Oe_br:=Ne.lt Br;replace hT:=Ne.keep hT;replace Bb:=Ne.keep Bb;replace Br:=Ne.keep Br;replace E:=E.ext Ne.ext;have Be:=Ne.blk;refine zAc (ps:=[(0,(I6 (-1)))]) (c:=#[(I6 (-1))]) qD rfl underlying22 zAy zDI qD qD qK ?_;intro bm wm Nm;have Fm:=Nm.ge E;have Om_bt:=Nm.lt hT;have Om_bb:=Nm.lt Bb;have Om_br:=Nm.lt Br;have Om_be:=Nm.lt Be;replace hT:=Nm.keep hT;replace Bb:=Nm.keep Bb;replace Br:=Nm.keep Br;replace Be:=Nm.keep Be;replace E:=E.ext Nm.ext;have Bm:=Nm.blk;refine qM _ rfl ?_;obtain ⟨n9,ad⟩:∃n9,n9=(wm).heap.size:=⟨_,rfl⟩;have aj:br<n9∧w0.heap.size≤n9∧br<be∧w0.heap.size≤be:=⟨by rw[ad];exact Br.lt,by rw[ad];exact E.size,qO,qO⟩;refine qE rfl (zAQ func74 kQ kQ rfl) (zGB _ bm 1 cs.length (-1) _ Bm hc.1 qO) ?_;rintro _ w9 ⟨⟨g,rfl,ao,hG⟩,X9⟩;replace hT:=X9.keep hT;replace Bb:=X9.keep Bb;replace Br:=X9.keep Br;replace Be:=X9.keep Be;replace Bm:=X9.keep Bm;replace E:=E.ext X9;have hgg:n9≤g:=by rw[ad];exact ao
  refine zAc (ps:=[(0,(.slice (some ⟨g,0,none⟩) cs.length cs.length))]) (c:=#[(.slice (some ⟨g,0,none⟩) cs.length cs.length)]) qD rfl underlying32 zBL zEg qD qD qK ?_;intro bn wn Nn;have Fn:=Nn.ge E;have On_bt:=Nn.lt hT;have On_bb:=Nn.lt Bb;have On_br:=Nn.lt Br;have On_be:=Nn.lt Be;have On_bm:=Nn.lt Bm;have On_g:=Nn.lt hG;replace hT:=Nn.keep hT;replace Bb:=Nn.keep Bb;replace Br:=Nn.keep Br;replace Be:=Nn.keep Be;replace Bm:=Nn.keep Bm;replace hG:=Nn.keep hG;replace E:=E.ext Nn.ext;have Bn:=Nn.blk;refine qV (zBA (ps:=[(1,(.slice (some ⟨be,0,none⟩) 1 1)),(2,(.slice (some ⟨bn,0,none⟩) 1 1))]) (v:=(.agg #[(I6 0),(.slice (some ⟨be,0,none⟩) 1 1),(.slice (some ⟨bn,0,none⟩) 1 1)])) rfl qK) (zAb (b:=br) (o:=0) (c':=#[(I6 0),(.slice (some ⟨be,0,none⟩) 1 1),(.slice (some ⟨bn,0,none⟩) 1 1)]) rfl rfl qS zAe rfl Br qL rfl ?_);intro w10 ab;replace hT:=ab.keep qO hT;replace Bb:=ab.keep qO Bb;replace Be:=ab.keep qO Be;replace Bm:=ab.keep qO Bm;replace hG:=ab.keep qO hG;replace Bn:=ab.keep qO Bn;replace E:=ab.step E qQ;replace Br:=ab.blk;refine zAB (zAV (zCo (zBm results105 (vs:=[(.int .i64 0),(.slice (some ⟨be,0,none⟩) 1 1),(.slice (some ⟨bn,0,none⟩) 1 1)]) (b:=br) rfl zAx zAe rfl (Br.cells rfl) ?_)));exact ⟨⟨zGc cs.length,zWv hk,zQR _,_,_,_,_,rfl,(zBW.chg (zIK (S:=fun b=>w0.heap.size≤b) (d:=zGc cs.length) (vs:=[.slice (some ⟨g,0,none⟩) cs.length cs.length]) Be Bn aj.2.2.2 qO rfl ⟨(by decide:1≤1000000),(by decide:1≤1000000)⟩ (fun i u l hu hi=>by
    cases i with
    | zero=>simp only[zGc,List.getElem?_cons_zero,Option.some.injEq] at hu hi;subst hu;subst hi;exact ⟨g,_,by rw[List.length_replicate],qO,by rw[List.length_replicate];omega,hG⟩
    | succ i=>simp[zGc] at hi)) (Chg.refl zAh _) fun _ _ _ f=>f)⟩,E⟩
end Go.Proofs
namespace Go.Proofs
open Go Go.Eng Go.Sort
set_option maxRecDepth 100000
def zXY (b:Bool):Int:=if b=true then 1 else -1
theorem zOB {cs:List (List Sp)} {s l:List Sp} {i:Nat} (h:cs[i]?=some l):(setRow cs s)[i]?=some (zXY (inS s (zBM l))):=by
 unfold setRow zXY;rw[List.getElem?_map,h];rfl
theorem zOC {cs:List (List Sp)} {s:List Sp} {row:List Int} (hl:row.length=cs.length) (h:∀j,j<cs.length→row[j]?=(setRow cs s)[j]?):row=setRow cs s:=by
 refine List.ext_getElem? fun j=>?_;by_cases hj:j<cs.length
 ·exact h j hj
 ·rw[List.getElem?_eq_none qO,List.getElem?_eq_none (by simp[setRow];omega)]
theorem zMz {cs:List (List Sp)} {s l:List Sp} {row:List Int} {i:Nat} (hl:row.length=cs.length) (hi:cs[i]?=some l) (h:∀j,j<i→row[j]?=(setRow cs s)[j]?) {row':List Int} (hr:row'=row.set i (zXY (inS s (zBM l)))):row'.length=cs.length∧∀j,j<i+1→row'[j]?=(setRow cs s)[j]?:=by
 subst hr;have hlt:=zAE hi;refine ⟨by simp[hl],fun j hj=>?_⟩;by_cases e:j=i
 ·subst e;rw[List.getElem?_set_self qO,zOB hi]
 ·rw[List.getElem?_set_ne (Ne.symm e)];exact h j qO
theorem zTl (cs:List (List Sp)) (x:Re) (hc:1≤cs.length∧cs.length≤16) (hk:x.kind=2) (hne:∀l∈cs,l≠[]):zIX cs.length cs x:=by
  intro w0 bt ca cc vs hT hC ht;have ht0:=ht;obtain ⟨sa,sc,aa,ac,rfl,ar,bc,az⟩:=ht.form;have hcl:cs.length≤16:=hc.2;obtain ⟨cb,co,rfl,aq⟩:=zCY hC qO;refine zDj func105 rfl ntmps105 (leT rfl) ?_;have E:Chg zAh w0 w0:=Chg.refl _ _;refine zAA (zBQ (v:=(.agg (R6 x sa sc aa ac))) (c:=(R6 x sa sc aa ac)) qD rfl rfl ?_);intro bb wb Nb;have Fb:=Nb.ge E;have Ob_bt:=Nb.lt hT;replace hT:=Nb.keep hT;replace E:=E.ext Nb.ext;have Bb:=Nb.blk;refine zBH (c:=#[(I6 0),(.slice none 0 0),(.slice none 0 0)]) qD zBf rfl ?_;intro br wr Nr;have Fr:=Nr.ge E;have Or_bt:=Nr.lt hT;have Or_bb:=Nr.lt Bb;replace hT:=Nr.keep hT;replace Bb:=Nr.keep Bb;replace E:=E.ext Nr.ext;have Br:=Nr.blk;refine zAB (zAA (qM _ rfl (qV (zBh rfl) (qF bt 0 0 rfl underlying108 rfl zHK rfl (qV (zAI rfl zDY (hT.cell rfl)) (qV (zAJ underlying35 rfl) (qA _ rfl (zAB (zAH (zAA (qF bb 0 0 rfl underlying26 rfl zAy rfl (qV (zAI rfl zAo (Bb.cell rfl)) (zAB (zAS (zAA (qV (zAs rfl rfl) (qA _ rfl (zAB ?_))))))))))))))))));have a5:(decide ((x.kind:Int)=1))=false:=decide_eq_false qO;refine zAP (cbk a5) (zAA (qV (zAs rfl rfl) (qA _ rfl (zAB ?_))));have bj:(decide ((x.kind:Int)=2))=true:=decide_eq_true hk;refine zAk (cbk bj) (zAA (qM _ rfl (zEx (n:=cs.length) (z:=(I6 0)) (bytes:=8) qD underlying22 zAy zJU zDI rfl rfl rfl qO qO ?_)));intro bo wo No;have Fo:=No.ge E;have Oo_bt:=No.lt hT;have Oo_bb:=No.lt Bb;have Oo_br:=No.lt Br;replace hT:=No.keep hT;replace Bb:=No.keep Bb;replace Br:=No.keep Br;replace E:=E.ext No.ext;have Bo:=No.blk;refine qA _ rfl (zAB (zAH (zAA (qM _ rfl (qV (zBh rfl) (qF bt 0 0 rfl underlying108 rfl zHK rfl (qV (zAI rfl zDY (hT.cell rfl)) (qV (zAJ underlying35 rfl) (qM _ rfl (zAB (zAS ?_)))))))))));have Bo:Blk (wo) bo ((List.replicate cs.length (0:Int)).map (Value.int .i64)).toArray 3:=by rw[List.map_replicate];exact Bo
  refine zAp (fun nn_ σ W3=>∃(i:Nat) (ad:List Int),(∃jj_,σ=zCT jj_ [(3,(P6 bb 0)),(4,(P6 br 0)),(5,(I6 (cs.length:Int))),(6,(.slice (some ⟨bo,0,none⟩) cs.length cs.length)),(37,(.slice (some ⟨cb,co,none⟩) cs.length cc)),(38,(I6 (cs.length:Int))),(39,(I6 (i:Int)))])∧Chg zAh w0 W3∧Blk W3 bt #[(.slice (some ⟨cb,co,none⟩) cs.length cc)] 108∧Blk W3 bb (R6 x sa sc aa ac) 26∧Blk W3 br #[(I6 0),(.slice none 0 0),(.slice none 0 0)] 34∧Blk W3 bo ((ad.map (Value.int .i64)).toArray) 3∧(i≤cs.length)∧(ad.length=cs.length)∧(∀j,j<i→ad[j]?=(setRow cs x.set)[j]?)∧nn_=cs.length - i) (n:=cs.length - 0) ?_ ?_
  · exact ⟨0,List.replicate cs.length 0,zAz.out ⟨rfl,rfl,rfl,rfl,rfl,rfl,rfl,trivial⟩,E,hT,Bb,Br,Bo,Nat.zero_le _,qP,(fun j h=>absurd h qO),rfl⟩
  · clear E hT Bb Br Bo;rintro _ _ W3 ⟨i,ad,⟨j3,rfl⟩,E,hT,Bb,Br,Bo,hi,am,ap,rfl⟩;refine zAA (qV (zBF rfl rfl) (zAB (zAH (qC rfl (fun av=>?_) (fun av=>?_)))))
    · obtain ⟨l,hl⟩:=zAN (l:=cs) (i:=i) qO;obtain ⟨la,lc,af,ba⟩:=aq i l hl;have ah:=hne l (List.mem_of_getElem? hl);obtain ⟨lb,lo,rfl,bg⟩:=zBa ba (List.length_pos_iff.2 ah);have hll:=List.length_pos_iff.2 ah;obtain ⟨s0,ak⟩:=zAN (l:=l) (i:=0) qO;have bi:s0.1=zBM l:=by cases l with|nil=>cases ak|cons a b=>simp at ak;rw[←ak];rfl
      refine zAO (zAC (zAH (zAS (zAA (qM _ rfl (qV (zAD (b:=cb) (o:=co) (len:=cs.length) (cap:=cc) (i:=i) (o':=co+i) rfl rfl rfl underlying35 zCd qO qO) (qV (zAI rfl zCZ (E.cell (fun f=>f) af)) (qA _ rfl (qA _ rfl (zAB ?_))))))))));have a8:w0.heap.size≤W3.heap.size:=E.size;have al:bt<W3.heap.size:=hT.lt;have aj:bb<W3.heap.size:=Bb.lt;have ai:br<W3.heap.size:=Br.lt;have an:bo<W3.heap.size:=Bo.lt;refine zAH ?_;obtain ⟨bk,ab⟩:∃Fs:List Fact,Fs=[.eq (.slice (some ⟨bo,0,none⟩) cs.length cs.length),.eq (I6 (i:Int)),.eq (P6 bb 1),.eq (.slice sa x.set.length sc),.eq (.slice (some ⟨lb,lo,none⟩) l.length lc),.eq (.pointer (some ⟨lb,lo+0*2,none⟩)),.eq (.pointer (some ⟨lb,lo+0*2,none⟩)),.eq (I6 (zBM l)),.eq (.bool (inS x.set (zBM l))),.eq (I6 (if inS x.set (zBM l)=true then 0 else -1)),.eq undef,.eq undef]:=⟨_,rfl⟩;refine zVD [true,true,true,true,true,true,true,true,true,true,false,false] [10,11] [44,45,46,47,48,49,50,51,52,53,209,210] [[],[],[],[2],[],[4],[5],[6],[3,7],[8],[],[]] bk ab mixed qK qK qK qK ?_ ?_
      · intro wd X0;refine DagStepsP.cons (fun s' w' X U H=>Or.inl ⟨?_,?_⟩) ?_
        · exact zAL rfl
        · exact zAt (zAl (U 6 rfl)) (Ext.refl _) rfl
        refine DagStepsP.cons (fun s' w' X U H=>Or.inl ⟨?_,?_⟩) ?_
        · exact zAL rfl
        · exact zAt (zAl (U 7 rfl)) (Ext.refl _) rfl
        refine DagStepsP.cons (fun s' w' X U H=>Or.inl ⟨?_,?_⟩) ?_
        · exact zAL rfl
        · exact zAt (zAZ (U 3 rfl) underlying26 rfl zCd rfl) (Ext.refl _) rfl
        refine DagStepsP.cons (fun s' w' X U H=>Or.inl ⟨?_,?_⟩) ?_
        · exact zAL rfl
        · have a6:s' 46=(.pointer (some ⟨bb,1,none⟩)):=H 2 rfl 46 (.eq (.pointer (some ⟨bb,1,none⟩))) rfl (by rw[ab];rfl);exact zAt (zAI a6 zCZ (((X0.trans X).keep Bb).cell rfl)) (Ext.refl _) rfl
        refine DagStepsP.cons (fun s' w' X U H=>Or.inl ⟨?_,?_⟩) ?_
        · exact zAL rfl
        · exact zAt (zAl (U 8 rfl)) (Ext.refl _) rfl
        refine DagStepsP.cons (fun s' w' X U H=>Or.inl ⟨?_,?_⟩) ?_
        · exact zAL rfl
        · have a2:s' 48=(.slice (some ⟨lb,lo,none⟩) l.length lc):=H 4 rfl 48 (.eq (.slice (some ⟨lb,lo,none⟩) l.length lc)) rfl (by rw[ab];rfl);exact zAt (zAD (i:=0) a2 rfl rfl underlying23 zBq qO qO) (Ext.refl _) rfl
        refine DagStepsP.cons (fun s' w' X U H=>Or.inl ⟨?_,?_⟩) ?_
        · exact zAL rfl
        · have a4:s' 49=(.pointer (some ⟨lb,lo+0*2,none⟩)):=H 5 rfl 49 (.eq (.pointer (some ⟨lb,lo+0*2,none⟩))) rfl (by rw[ab];rfl);exact zAt (zAZ a4 underlying44 rfl zAy rfl) (Ext.refl _) rfl
        refine DagStepsP.cons (fun s' w' X U H=>Or.inl ⟨?_,?_⟩) ?_
        · exact zAL rfl
        · have bf:s' 50=(.pointer (some ⟨lb,lo+0*2,none⟩)):=H 6 rfl 50 (.eq (.pointer (some ⟨lb,lo+0*2,none⟩))) rfl (by rw[ab];rfl);exact zAt (zAI bf zAo ((by have h9:=((bg 0 s0 ak).ext (Ext.trans E (X0.trans X))).at0;rw[bi] at h9;exact h9))) (Ext.refl _) rfl
        refine DagStepsP.cons (fun s' w' X U H=>Or.inl ⟨?_,?_⟩) ?_
        · exact zAL rfl
        · have a3:s' 47=(.slice sa x.set.length sc):=H 3 rfl 47 (.eq (.slice sa x.set.length sc)) rfl (by rw[ab];rfl);have a1:s' 51=(.int .i64 (zBM l)):=H 7 rfl 51 (.eq (.int .i64 (zBM l))) rfl (by rw[ab];rfl);exact zCg (zAQ func47 kQ kQ (zOu a3 a1)) ((zXK _ _ x.set (zBM l) (zCI.ext ar (Ext.trans E (X0.trans X)))))
        refine DagStepsP.cons (fun s' w' X U H=>Or.inl ⟨?_,?_⟩) ?_
        · exact zAL rfl
        · have bd:s' 52=(.bool (inS x.set (zBM l))):=H 8 rfl 52 (.eq (.bool (inS x.set (zBM l)))) rfl (by rw[ab];rfl);exact zCg (zAQ func88 kQ kQ (zOv bd)) ((zGM (inS x.set (zBM l)) _))
        refine DagStepsP.tail (DagStepsP.tail ?_);exact DagStepsP.nil
      · intro s' w5 X5 U H;obtain ⟨j5,rfl⟩:=zAz.out (σ:=s') (l:=[(3,(.pointer (some ⟨bb,0,none⟩))),(4,(.pointer (some ⟨br,0,none⟩))),(5,(.int .i64 ((cs.length:Nat):Int))),(6,(.slice (some ⟨bo,0,none⟩) cs.length cs.length)),(7,(.int .i64 ((i:Nat):Int))),(37,(.slice (some ⟨cb,co,none⟩) cs.length cc)),(38,(.int .i64 ((cs.length:Nat):Int))),(39,(.int .i64 ((i:Nat):Int))),(44,(.slice (some ⟨bo,0,none⟩) cs.length cs.length)),(45,(.int .i64 ((i:Nat):Int))),(53,(.int .i64 (if inS x.set (zBM l)=true then 0 else -1)))]) ⟨U 3 rfl,U 4 rfl,U 5 rfl,U 6 rfl,U 7 rfl,U 37 rfl,U 38 rfl,U 39 rfl,(show s' 44=(.slice (some ⟨bo,0,none⟩) cs.length cs.length) from H 0 rfl 44 (.eq (.slice (some ⟨bo,0,none⟩) cs.length cs.length)) rfl (by rw[ab];rfl)),(show s' 45=(.int .i64 ((i:Nat):Int)) from H 1 rfl 45 (.eq (.int .i64 ((i:Nat):Int))) rfl (by rw[ab];rfl)),(show s' 53=(.int .i64 (if inS x.set (zBM l)=true then 0 else -1)) from H 9 rfl 53 (.eq (.int .i64 (if inS x.set (zBM l)=true then 0 else -1))) rfl (by rw[ab];rfl)),trivial⟩;clear U H;replace hT:=X5.keep hT;replace Bb:=X5.keep Bb;replace Br:=X5.keep Br;replace Bo:=X5.keep Bo;replace E:=E.ext X5;refine qV (zAD (b:=bo) (o:=0) (len:=cs.length) (cap:=cs.length) (i:=i) (o':=0+i) rfl rfl rfl underlying22 zAy qO qO) (zBC (b:=bo) (o:=0+i) (c':=((ad.set i (if inS x.set (zBM l)=true then 0 else -1)).map (Value.int .i64)).toArray) (v:=(I6 (if inS x.set (zBM l)=true then 0 else -1))) rfl rfl rfl zAy Bo (by simp;omega) (zCX _) ?_);intro w6 S6;replace hT:=S6.keep qO hT;replace Bb:=S6.keep qO Bb;replace Br:=S6.keep qO Br;replace E:=S6.step E qQ;replace Bo:=S6.blk;refine zAB (zAC (zAA (qM _ rfl (qM _ rfl (qV (zAD (b:=bo) (o:=0) (len:=cs.length) (cap:=cs.length) (i:=i) (o':=0+i) rfl rfl rfl underlying22 zAy qO qO) (qV (zAI (v:=(I6 (if inS x.set (zBM l)=true then 0 else -1))) rfl zAo (Bo.cell (by simp[am,zAE hl]))) ?_))))));refine qV (zAs rfl rfl) (zAB (qC rfl (fun hq=>?_) (fun hq=>?_)))
        · refine zAF (qM _ rfl (qM _ rfl (qV (zAD (b:=bo) (o:=0) (len:=cs.length) (cap:=cs.length) (i:=i) (o':=0+i) rfl rfl rfl underlying22 zAy qO qO) (zBC (b:=bo) (o:=0+i) (c':=(((ad.set i (if inS x.set (zBM l)=true then 0 else -1)).set i 1).map (Value.int .i64)).toArray) (v:=(I6 1)) rfl rfl rfl zAy Bo (by simp;omega) (zCX _) ?_))));intro w8 S8;replace hT:=S8.keep qO hT;replace Bb:=S8.keep qO Bb;replace Br:=S8.keep qO Br;replace E:=S8.step E qQ;replace Bo:=S8.blk;have hb:inS x.set (zBM l)=true:=by cases e:inS x.set (zBM l);rw[e] at hq;simp at hq;rfl
          obtain ⟨h5,h6⟩:=zMz (row':=(ad.set i (if inS x.set (zBM l)=true then 0 else -1)).set i 1) am hl ap (by rw[hb,List.set_set];rfl);refine zAB (zAR (zAC (zAF (qV (zAv rfl rfl (zBb qO)) (qM _ rfl (zAB (zAC ?_)))))));exact ⟨cs.length - (i+1),qO,i+1,(ad.set i (if inS x.set (zBM l)=true then 0 else -1)).set i 1,zAz.out ⟨rfl,rfl,rfl,rfl,rfl,rfl,rfl,trivial⟩,E,hT,Bb,Br,Bo,qO,h5,h6,rfl⟩
        · have hb:inS x.set (zBM l)=false:=by cases e:inS x.set (zBM l);rfl;rw[e] at hq;simp at hq
          obtain ⟨h5,h6⟩:=zMz (row':=ad.set i (if inS x.set (zBM l)=true then 0 else -1)) am hl ap (by rw[hb];rfl);refine zAO (zAR (zAC (zAF (qV (zAv rfl rfl (zBb qO)) (qM _ rfl (zAB (zAC ?_)))))));exact ⟨cs.length - (i+1),qO,i+1,ad.set i (if inS x.set (zBM l)=true then 0 else -1),zAz.out ⟨rfl,rfl,rfl,rfl,rfl,rfl,rfl,trivial⟩,E,hT,Bb,Br,Bo,qO,h5,h6,rfl⟩
    · have hii:i=cs.length:=qO
      have au:=zOC am (fun j hj=>ap j qO);subst au;refine zAn (zAT (zAT (zAg (zAC (zAA (zAc (ps:=[(0,(I6 (-1))),(1,(I6 0))]) (c:=#[(I6 (-1)),(I6 0)]) qD rfl underlying22 zAy zDI qD qD qK ?_))))));intro be we Ne;have Fe:=Ne.ge E;have Oe_bt:=Ne.lt hT;have Oe_bb:=Ne.lt Bb;have Oe_br:=Ne.lt Br;have Oe_bo:=Ne.lt Bo;replace hT:=Ne.keep hT;replace Bb:=Ne.keep Bb;replace Br:=Ne.keep Br;replace Bo:=Ne.keep Bo;replace E:=E.ext Ne.ext;have Be:=Ne.blk;refine qM _ rfl (zAc (ps:=[(0,(I6 (-1)))]) (c:=#[(I6 (-1))]) qD rfl underlying22 zAy zDI qD qD qK ?_);intro bm wm Nm;have Fm:=Nm.ge E;have Om_bt:=Nm.lt hT;have Om_bb:=Nm.lt Bb;have Om_br:=Nm.lt Br;have Om_bo:=Nm.lt Bo;have Om_be:=Nm.lt Be;replace hT:=Nm.keep hT;replace Bb:=Nm.keep Bb;replace Br:=Nm.keep Br;replace Bo:=Nm.keep Bo;replace Be:=Nm.keep Be;replace E:=E.ext Nm.ext;have Bm:=Nm.blk;refine qM _ rfl ?_;obtain ⟨n9,ag⟩:∃n9,n9=(wm).heap.size:=⟨_,rfl⟩;have av:br<n9∧w0.heap.size≤n9∧bo<n9∧be<n9:=⟨by rw[ag];exact Br.lt,by rw[ag];exact E.size,by rw[ag];exact Bo.lt,by rw[ag];exact Be.lt⟩;refine qE rfl (zAQ func74 kQ kQ rfl) (zGB _ bm 1 cs.length (-1) _ Bm hc.1 qO) ?_;rintro _ w9 ⟨⟨g,rfl,bp,hG⟩,X9⟩;replace hT:=X9.keep hT;replace Bb:=X9.keep Bb;replace Br:=X9.keep Br;replace Bo:=X9.keep Bo;replace Be:=X9.keep Be;replace Bm:=X9.keep Bm;replace E:=E.ext X9;have hgg:n9≤g:=by rw[ag];exact bp
      refine zAc (ps:=[(0,(.slice (some ⟨bo,0,none⟩) cs.length cs.length)),(1,(.slice (some ⟨g,0,none⟩) cs.length cs.length))]) (c:=#[(.slice (some ⟨bo,0,none⟩) cs.length cs.length),(.slice (some ⟨g,0,none⟩) cs.length cs.length)]) qD rfl underlying32 zBL zEg qD qD qK ?_;intro bn wn Nn;have Fn:=Nn.ge E;have On_bt:=Nn.lt hT;have On_bb:=Nn.lt Bb;have On_br:=Nn.lt Br;have On_bo:=Nn.lt Bo;have On_be:=Nn.lt Be;have On_bm:=Nn.lt Bm;have On_g:=Nn.lt hG;replace hT:=Nn.keep hT;replace Bb:=Nn.keep Bb;replace Br:=Nn.keep Br;replace Bo:=Nn.keep Bo;replace Be:=Nn.keep Be;replace Bm:=Nn.keep Bm;replace hG:=Nn.keep hG;replace E:=E.ext Nn.ext;have Bn:=Nn.blk;refine qV (zBA (ps:=[(1,(.slice (some ⟨be,0,none⟩) 2 2)),(2,(.slice (some ⟨bn,0,none⟩) 2 2))]) (v:=(.agg #[(I6 0),(.slice (some ⟨be,0,none⟩) 2 2),(.slice (some ⟨bn,0,none⟩) 2 2)])) rfl qK) ?_;obtain ⟨n8,ao⟩:∃n8,n8=(wn).heap.size:=⟨_,rfl⟩;have bh:br<n8∧w0.heap.size≤n8:=⟨by rw[ao];exact Br.lt,by rw[ao];exact E.size⟩;have ax:(setRow cs x.set).length=cs.length:=by simp[setRow]
      refine qE rfl (zAQ func37 kQ kQ rfl) ((zGR _ 2 cs.length (zJg cs x.set) _ (zNc cs x.set).ok (zIK (S:=fun _=>True) (d:=zJg cs x.set) (vs:=[.slice (some ⟨bo,0,none⟩) cs.length cs.length,.slice (some ⟨g,0,none⟩) cs.length cs.length]) Be Bn trivial trivial rfl ⟨(by decide:2≤1000000),(by decide:2≤1000000)⟩ (fun i u l hu hi=>by
        match i with
        | 0=>simp only[zJg,List.getElem?_cons_zero,Option.some.injEq] at hu hi;subst hu;subst hi;exact ⟨bo,_,by rw[ax],trivial,by rw[ax];omega,Bo⟩
        | 1=>simp only[zJg,List.getElem?_cons_zero,List.getElem?_cons_succ,Option.some.injEq] at hu hi;subst hu;subst hi;exact ⟨g,_,by rw[List.length_replicate],trivial,by rw[List.length_replicate];omega,hG⟩
        | i+2=>simp[zJg] at hi)).at' ⟨qD,hc⟩ (zNc cs x.set).acc).mono (R':=fun r w'=>zWq cs.length (beh (zJg cs x.set) 0) 2 n8 r w'∧Ext _ w') (fun r w' h=>by rw[ao];exact h)) ?_
      rintro _ a7 ⟨⟨C,ca,aw,ma,mc,ay,hCl,a0,rfl,a9⟩,ae⟩;replace hT:=ae.keep hT;replace Bb:=ae.keep Bb;replace Br:=ae.keep Br;replace Bo:=ae.keep Bo;replace Be:=ae.keep Be;replace Bm:=ae.keep Bm;replace hG:=ae.keep hG;replace Bn:=ae.keep Bn;replace E:=E.ext ae;have hD:zBW (fun b=>n8≤b) a7 C _:=(zBW.of_new a9).mono fun b hb=>by have:=hb.1;omega
      refine zAb (b:=br) (o:=0) (c':=#[(I6 C.start),(.slice ca C.accept.length aw),(.slice ma C.next.length mc)]) rfl rfl qS zAe rfl Br qL rfl ?_;intro w9 S9;replace hD:=hD.put S9.chg fun y h1 h=>by have h':y=br:=h;omega
      replace hT:=S9.keep qO hT;replace Bb:=S9.keep qO Bb;replace Bo:=S9.keep qO Bo;replace Be:=S9.keep qO Be;replace Bm:=S9.keep qO Bm;replace hG:=S9.keep qO hG;replace Bn:=S9.keep qO Bn;replace E:=S9.step E qQ;replace Br:=S9.blk;refine zAB (zAV (zAi (zAU (zCo (zBm results105 (vs:=[(.int .i64 C.start),(.slice ca C.accept.length aw),(.slice ma C.next.length mc)]) (b:=br) rfl zAx zAe rfl (Br.cells rfl) ?_)))));exact ⟨⟨_,by rw[zVc hk];exact zFL ay,(zGI ay qO a0),_,_,_,_,rfl,(zBW.chg hD (Chg.refl zAh _) fun _ _ _ f=>f).mono fun b hb=>⟨qO,hb.2⟩⟩,E⟩
end Go.Proofs
