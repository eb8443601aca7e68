/- Contracts and plain lemmas, part 3. -/
import Derived.Test.YtdbomjjhpidajaaGreatDoorZl2
open Go.Proofs.Tryz
set_option maxHeartbeats 16000000
set_option linter.unusedVariables false
namespace Go.Proofs
open Go Go.Eng Go.Sort
set_option maxRecDepth 100000
def kcS (k:ByteArray):List Value:=[.string k]
def kcP (k:Int×Int):List Value:=[.int .i64 k.1,.int .i64 k.2]
theorem zDP {α:Type} {kc:α→List Value} {sz:Nat} (hk:∀k,(kc k).length=sz) {w:World} {b:Nat}:∀{l:List α} {o i:Nat} {k:α},zBE w b o (l.map kc).flatten→l[i]?=some k→zBE w b (o+i*sz) (kc k)
  | [],_,_,_,_,h=>by simp at h
  | q::l,o,0,k,h,hi=>by
    simp at hi;subst hi;intro j v hv;rw[Nat.zero_mul,Nat.add_zero];exact h j v (by rw[List.map_cons,List.flatten_cons,List.getElem?_append_left (zAE hv)];exact hv)
  | q::l,o,i+1,k,h,hi=>by
    have h2:zBE w b (o+sz) (l.map kc).flatten:=fun j v hv=>by
      have:=h (sz+j) v (by rw[List.map_cons,List.flatten_cons,List.getElem?_append_right (by rw[hk];omega),hk,show sz+j - sz=j by omega];exact hv)
      rwa [←Nat.add_assoc] at this
    have:=zDP hk h2 (i:=i) (k:=k) (by simpa using hi)
    rwa [show o+(i+1)*sz=o+sz+i*sz by rw[Nat.add_mul];omega]
def Rch {α:Type} (c:Nat) (stp:α→Nat→Option α) (a0 k:α):Prop:=∃w,inW c w∧zHP stp a0 w=some k
def zWe (base:Nat) (D:Dfa) (r:Value) (w:World):Prop:=∃ea ec na nc vs,r=.agg #[.int .i64 D.start,.slice ea D.accept.length ec,.slice na D.next.length nc]∧OutSt w base (.slice ea D.accept.length ec) (.slice na D.next.length nc) vs D.accept D.next
structure ExpOf {α:Type} (c most:Nat) (stp:α→Nat→Option α) (acc:α→Int) (a0:α) (D:Dfa):Prop where
 ok:OkD D.next.length c D
 most:D.next.length≤most
 start:D.start=0
 beh:∀w,inW c w→beh D 0 w=zRA stp acc a0 w
 acc:∀x∈D.accept,x<2147483648
def zJa {α:Type} (c most:Nat) (stp:α→Nat→Option α) (acc:α→Int) (first:α) (base:Nat) (r:Value) (w:World):Prop:=
 (zIb c stp first most∧∃D v,(∀mx,zIb c stp first mx→ExpOf c mx stp acc first D)∧r=.tuple #[v,.bool true]∧zWe base D v w)∨(¬zIb c stp first most∧r=.tuple #[.agg #[.int .i64 0,.slice none 0 0,.slice none 0 0],.bool false])
theorem OutSt.low {w:World} {base b0:Nat} {E N:Value} {vs:List Value} {acc:List Int} {rows:List (List Int)} (h:OutSt w base E N vs acc rows) (hb:b0≤base):OutSt w b0 E N vs acc rows:=
 ⟨zEq h.e hb,⟨zEq h.n.o hb,h.n.len,fun i v p hv hp=>zEq (h.n.inn i v p hv hp) hb,h.n.apo⟩,h.en,h.ei⟩
theorem zUf (w0:World) (first:ByteArray) (c most:Nat) (sv av:Value) (stp:ByteArray→Nat→Option ByteArray) (acc:ByteArray→Int) (hc:1≤c∧c≤16) (hm:1≤most∧most≤20000) (hac:∀k,Rch c stp first k→-1≤acc k∧acc k<2147483648)
  (hs:∀w k x,Ext w0 w→Rch c stp first k→x<c→zCG prog sv #[.string k,.int .i64 ((x:Nat):Int)] w fun r w'=>(∃q,r=.tuple #[.string q,.bool (stp k x).isSome]∧∀b,stp k x=some b→q=b)∧Ext w w')
  (ha:∀w k,Ext w0 w→Rch c stp first k→zCG prog av #[.string k] w fun r w'=>r=.int .i64 (acc k)∧Ext w w') :
  Ret prog 38 #[.string first,.int .i64 ((c:Nat):Int),sv,av,.int .i64 ((most:Nat):Int)] w0 fun r w=>zJa c most stp acc first w0.heap.size r w∧Ext w0 w:=by
 have cr:∀k,(kcS k).length=1:=fun _=>rfl;refine qR func38 rfl ntmps38 rfl (fun E=>(zAA (zBH (c:=#[(I6 0),(.slice none 0 0),(.slice none 0 0)]) qD zBf rfl ?_)));intro br wr Nr;have Fr:=Nr.ge E;replace E:=E.ext Nr.ext;have Br:=Nr.blk;refine qA (.bool false) rfl (zAB (zAA (qM (.string first) rfl (zAc (ps:=[(0,(.string first))]) (c:=#[(.string first)]) qD rfl underlying114 zVI zWg qD qD qK ?_))));intro bs ws Ns;have Fs:=Ns.ge E;have Os_br:=Ns.lt Br;replace Br:=Ns.keep Br;replace E:=E.ext Ns.ext;have Bs:=Ns.blk;refine qA (.slice (some ⟨bs,0,none⟩) 1 1) rfl (zAB (zAA (zEW zKa zEz qD ?_)));intro bm wm Nm;have Fm:=Nm.ge E;have Om_br:=Nm.lt Br;have Om_bs:=Nm.lt Bs;replace Br:=Nm.keep Br;replace Bs:=Nm.keep Bs;replace E:=E.ext Nm.ext;intro Mm;refine qM (.string first) rfl (zHO (k:=first) (v:=0) underlying80 (zHF underlying9) Mm rfl rfl rfl ?_);intro w1 S1 H1;replace Br:=S1.keep qO Br;replace Bs:=S1.keep qO Bs;replace E:=S1.step E qQ;replace Mm:=H1;refine qM (.map (some bm)) rfl (qA (.map (some bm)) rfl (zAB (zAA (zBH (c:=#[(I6 0),(.slice none 0 0),(.slice none 0 0)]) qD zBf rfl ?_))));intro bd wd Nd;have Fd:=Nd.ge E;have Od_br:=Nd.lt Br;have Od_bs:=Nd.lt Bs;have Od_bm:=Nd.ltM Mm;replace Br:=Nd.keep Br;replace Bs:=Nd.keep Bs;replace Mm:=Nd.keepM Mm;replace E:=E.ext Nd.ext;have Bd:=Nd.blk;refine zAB (zAH (zAA (qA (I6 0) rfl (zAB (zAS ?_)))));obtain ⟨n1,c1⟩:∃n1,n1=bs:=⟨_,rfl⟩;obtain ⟨n2,ar⟩:∃n2,n2=(wd).heap.size:=⟨_,rfl⟩;have d7:br<n2∧bs<n2∧bm<n2∧bd<n2:=⟨by rw[ar];exact Br.lt,by rw[ar];exact Bs.lt,by rw[ar];exact Mm.lt,by rw[ar];exact Bd.lt⟩;have cj:w0.heap.size≤n1∧w0.heap.size≤n2:=qO
 have df:(wd).ownsRow n1 9 1 (.slice (some ⟨bs,0,none⟩) 1 1) 1 ([first].map kcS).flatten:=zJn (base:=n1) Bs qO;refine zAp (fun nn_ σ W2=>∃(i:Nat) (ab:List (List Int)) (ks:List ByteArray) (ac:List Int) (vs:List Value) (sa ea ag:Option Addr) (ae sn ec af:Nat),(∃jj_,σ=zCT jj_ [(1,(I6 (c:Int))),(2,sv),(3,av),(4,(I6 (most:Int))),(10,(P6 br 0)),(13,(.map (some bm))),(14,(P6 bd 0)),(15,(I6 (i:Int))),(12,(.slice sa sn ae))])∧Chg zAh w0 W2∧Blk W2 br #[(I6 0),(.slice none 0 0),(.slice none 0 0)] 34∧zCC W2 bm zKa zEz (zBN ks 0)∧Blk W2 bd (#[Value.int .i64 0,.slice ea i ec,.slice ag i af]) 34∧(ExpP c stp first ks ab [])∧(ab.length=i)∧(ks.length≤most)∧(sn=ks.length)∧(i≤sn)∧(ac=(ks.take i).map acc)∧(W2.ownsRow n1 9 1 (.slice sa sn ae) sn (ks.map kcS).flatten)∧(OutSt W2 n2 (.slice ea i ec) (.slice ag i af) vs ac ab)∧(∀b,(Value.slice sa sn ae).ownBlock=some b→¬zGv (.slice ea i ec) (.slice ag i af) vs b∧b≠bm∧b≠bd)∧(n2≤W2.heap.size)∧nn_=most - i) (n:=most - 0) ?_ ?_
 ·exact ⟨0,[],[first],[],[],some ⟨bs,0,none⟩,none,none,1,1,0,0,zAz.out ⟨rfl,rfl,rfl,rfl,rfl,rfl,rfl,rfl,rfl,trivial⟩,E,Br,Mm,Bd,ExpP.start _ _ _,rfl,hm.1,rfl,qO,rfl,df,OutSt.start _ _,(fun b hb=>⟨(fun h=>by rcases h with h|h|⟨i,v,h,_⟩;cases h;cases h;simp at h),(by have c6:bs=b:=Option.some.inj hb;omega),(by have c6:bs=b:=Option.some.inj hb;omega)⟩),qO,rfl⟩
 ·clear E Br Mm Bd;rintro _ _ W2 ⟨i,ab,ks,ac,vs,sa,ea,ag,ae,sn,ec,af,⟨j2,rfl⟩,E,Br,Mm,Bd,hC,bz,a3,a9,dl,az,hS,hO,ah,ak,rfl⟩;refine zAH (zAA (qM (I6 (i:Int)) rfl (qM (.slice sa sn ae) rfl (qV (zAJ (ad:=sa) (n:=sn) (cap:=ae) underlying114 rfl) (qV (zBF (k:=.i64) (a:=(i:Int)) (b:=(sn:Int)) rfl rfl) (zAB (qC rfl (fun di=>?_) (fun di=>?_))))))))
  ·obtain ⟨k,al⟩:=zAN (l:=ks) (i:=i) qO;have c0:=hC.rch k (List.mem_of_getElem? al);obtain ⟨sb,rfl,dv,hsc⟩:=zBe hS qO;obtain ⟨z0,hz0⟩:∃z0,z0=(W2).heap.size:=⟨_,rfl⟩;have d3:n2≤z0:=qO
   have b0:∀b,zGv (.slice ea i ec) (.slice ag i af) vs b→b<z0:=fun b hb=>by have:=(hO.lt hb).2;omega
   have dw:∀b,(Value.slice (some ⟨sb,0,none⟩) sn ae).ownBlock=some b→b<z0:=fun b hb=>by have:=(hS.lt b hb).2;omega
   refine zAO (zAC (zAH (zAS (zAA (qM (I6 (c:Int)) rfl (zEx (n:=c) (z:=(I6 0)) (bytes:=8) qD underlying22 zAy zJU zDI rfl rfl rfl qO qO ?_))))));intro bq wq Nq;have Fq:=Nq.ge E;have Oq_br:=Nq.lt Br;have Oq_bm:=Nq.ltM Mm;have Oq_bd:=Nq.lt Bd;replace Br:=Nq.keep Br;replace Mm:=Nq.keepM Mm;replace Bd:=Nq.keep Bd;replace hS:=zAj hS Nq.ext;replace hO:=hO.ext Nq.ext;replace ak:=Nat.le_trans ak Nq.ext.size;replace E:=E.ext Nq.ext;have Bq:=Nq.blk;refine qA (.slice (some ⟨bq,0,none⟩) c c) rfl (zAB (zAH (zAA (qM (I6 (c:Int)) rfl (qM (I6 0) rfl (zAB (zAS ?_)))))));have hqz:z0≤bq:=by have:=Nq.eq;omega
   rw[show List.replicate c (Value.int .i64 0)=(List.replicate c (0:Int)).map (Value.int .i64) by simp] at Bq;refine zAp (fun nn_ σ W4=>∃(x:Nat) (R:List Int) (ks:List ByteArray) (sa:Option Addr) (ae sn:Nat),(∃jj_,σ=zCT jj_ [(1,(I6 (c:Int))),(2,sv),(3,av),(4,(I6 (most:Int))),(10,(P6 br 0)),(13,(.map (some bm))),(14,(P6 bd 0)),(15,(I6 (i:Int))),(16,(.slice (some ⟨bq,0,none⟩) c c)),(35,(I6 (c:Int))),(36,(I6 (x:Int))),(12,(.slice sa sn ae))])∧Chg zAh w0 W4∧Blk W4 br #[(I6 0),(.slice none 0 0),(.slice none 0 0)] 34∧zCC W4 bm zKa zEz (zBN ks 0)∧Blk W4 bd (#[Value.int .i64 0,.slice ea i ec,.slice ag i af]) 34∧Blk W4 bq ((R.map (Value.int .i64)).toArray) 3∧(x≤c)∧(R.length=c)∧(ExpP c stp first ks ab (R.take x))∧(ks.length≤most)∧(ks[i]?=some k)∧(sn=ks.length)∧((ks.take i).map acc=ac)∧(W4.ownsRow n1 9 1 (.slice sa sn ae) sn (ks.map kcS).flatten)∧(OutSt W4 n2 (.slice ea i ec) (.slice ag i af) vs ac ab)∧(∀b,(Value.slice sa sn ae).ownBlock=some b→¬zGv (.slice ea i ec) (.slice ag i af) vs b∧b≠bm∧b≠bd∧b≠bq)∧(n2≤W4.heap.size)∧nn_=c - x) (n:=c - 0) ?_ ?_
   ·exact ⟨0,List.replicate c 0,ks,some ⟨sb,0,none⟩,ae,sn,zAz.out ⟨rfl,rfl,rfl,rfl,rfl,rfl,rfl,rfl,rfl,rfl,rfl,rfl,trivial⟩,E,Br,Mm,Bd,Bq,Nat.zero_le _,qP,(by simpa using hC),a3,al,a9,az.symm,hS,hO,(fun b hb=>⟨(ah b hb).1,(ah b hb).2.1,(ah b hb).2.2,fun e=>by have:=dw b hb;omega⟩),ak,rfl⟩
   ·clear E Br Mm Bd Bq;rintro _ _ W4 ⟨x,R,ks,sa,ae,sn,⟨j4,rfl⟩,E,Br,Mm,Bd,Bq,hx,bg,hC,a3,al,a9,bx,hS,hO,ah,ak,rfl⟩;refine zAA (qV (zBF (k:=.i64) (a:=(x:Int)) (b:=(c:Int)) rfl rfl) (zAB (zAH (qC rfl (fun cd=>?_) (fun cd=>?_)))))
    ·obtain ⟨aj,rfl,_,bb⟩:=zBe hS (by have:=zAE al;omega);have dx:i<sn:=by have:=zAE al;omega
     have ch:(W4).cell? ⟨aj,0+i,none⟩=some (.string k):=by have h9:=zDP cr bb al 0 _ rfl;rwa [Nat.mul_one,Nat.add_zero] at h9
     refine zAO (zAC (zAH (zAS (zAA (qM (I6 (x:Int)) rfl (qA (I6 (x:Int)) rfl (zAB (zAA (qM sv rfl (qM (.slice (some ⟨aj,0,none⟩) sn ae) rfl (qM (I6 (i:Int)) rfl (qV (zAD (b:=aj) (o:=0) (len:=sn) (cap:=ae) (i:=i) (o':=0+i) rfl rfl rfl underlying114 zVI qO qO) (qV (zAI (v:=(.string k)) rfl zQX (ch)) (qM (I6 (x:Int)) rfl (zDD (fv:=sv) (vs:=[(.string k),(I6 (x:Int))]) qD rfl rfl (hs _ k x E c0 qO) ?_)))))))))))))));rintro _ w9 ⟨⟨q,rfl,hq⟩,X9⟩;replace Br:=X9.keep Br;replace Mm:=X9.keepM Mm;replace Bd:=X9.keep Bd;replace Bq:=X9.keep Bq;replace E:=E.ext X9;have hS:=zAj hS X9;have hO:=hO.ext X9;have ak:=Nat.le_trans ak X9.size;have be:(R.take x).length=x:=by simp;omega
     have a2:ks[ab.length]?=some k:=by rw[bz];exact al
     have dk:=zBt (L:=R) (s:=x) (x:=-1) qO;refine qM (.tuple #[(.string q),(.bool ((stp k x).isSome))]) rfl (qV (zAa (vs:=#[(.string q),(.bool ((stp k x).isSome))]) (v:=(.string q)) rfl rfl) (qV (zAa (vs:=#[(.string q),(.bool ((stp k x).isSome))]) (v:=(.bool ((stp k x).isSome))) rfl rfl) (qA (.string q) rfl (qA (.bool ((stp k x).isSome)) rfl (zAB (zAH (zAA (qM (.slice (some ⟨bq,0,none⟩) c c) rfl (qM (I6 (x:Int)) rfl (qV (zAD (b:=bq) (o:=0) (len:=c) (cap:=c) (i:=x) (o':=0+x) rfl rfl rfl underlying22 zAy qO qO) (zBC (b:=bq) (o:=0+x) (c':=((R.set x (-1)).map (Value.int .i64)).toArray) (v:=(I6 (-1))) rfl rfl rfl zAy Bq (by simp;omega) (zCX _) ?_)))))))))));intro w6 S6;replace hS:=zAq hS S6.chg fun b hb h=>(ah b hb).2.2.2 h;replace hO:=hO.chg S6.chg fun b hb h=>by have:=b0 b hb;have h':b=bq:=h;omega
     replace ak:=Nat.le_trans ak S6.chg.size;replace Br:=S6.keep qO Br;replace Mm:=S6.keepM qO Mm;replace Bd:=S6.keep qO Bd;replace E:=S6.step E qQ;replace Bq:=S6.blk;refine zAB (zAA (qM (.bool ((stp k x).isSome)) rfl (qV (zCa (b:=(stp k x).isSome) rfl) (zAB (zBD (b:=!((stp k x).isSome)) rfl (fun au=>?_) (fun au=>?_))))))
     ·have cb:=au;replace au:=by simpa using au
      have ci:stp k x=none:=by simpa using au
      have da:zIo stp ks k (R.take x).length (-1):=by unfold zIo;rw[be,ci]
      refine zAn (zAT (zAg (zAC (zAF (qV (zAv (k:=.i64) (a:=(x:Int)) (b:=1) (c:=(x:Int)+1) rfl rfl (zBb qO)) (qM (I6 ((x:Int)+1)) rfl (zAB (zAC ?_))))))));exact ⟨c - (x+1),qO,x+1,R.set x (-1),ks,some ⟨aj,0,none⟩,ae,sn,zAz.out ⟨rfl,rfl,rfl,rfl,rfl,rfl,rfl,rfl,rfl,rfl,rfl,rfl,trivial⟩,E,Br,Mm,Bd,Bq,qO,(by simp[bg]),(by rw[dk];exact hC.add a2 da),a3,al,a9,bx,hS,hO,ah,ak,rfl⟩
     ·have cb:=au;replace au:=by simpa using au
      obtain ⟨q',cc⟩:=Option.isSome_iff_exists.1 (show (stp k x).isSome=true by simpa using au);have c4:=hq q' cc;subst c4;refine zAO (zAC (zAA (qM (.map (some bm)) rfl (qM (.string q) rfl (zBo (v:=(.tuple #[(I6 ((zBr (zBN ks 0) q).getD 0)),(.bool ((zBr (zBN ks 0) q).isSome))])) rfl rfl qD (zEY (k:=q) (z:=0) underlying80 (zHF underlying9) zDI Mm rfl rfl) (qM (.tuple #[(I6 ((zBr (zBN ks 0) q).getD 0)),(.bool ((zBr (zBN ks 0) q).isSome))]) rfl (qV (zAa (vs:=#[(I6 ((zBr (zBN ks 0) q).getD 0)),(.bool ((zBr (zBN ks 0) q).isSome))]) (v:=(I6 ((zBr (zBN ks 0) q).getD 0))) rfl rfl) (qV (zAa (vs:=#[(I6 ((zBr (zBN ks 0) q).getD 0)),(.bool ((zBr (zBN ks 0) q).isSome))]) (v:=(.bool ((zBr (zBN ks 0) q).isSome))) rfl rfl) (qA (I6 ((zBr (zBN ks 0) q).getD 0)) rfl (qA (.bool ((zBr (zBN ks 0) q).isSome)) rfl (zAB (zGU (fun σ W8=>∃(aw:List ByteArray) (j:Nat) (bp:Option Addr) (bw ba:Nat),(∃jj_,σ=zCT jj_ [(1,(I6 (c:Int))),(2,sv),(3,av),(4,(I6 (most:Int))),(10,(P6 br 0)),(13,(.map (some bm))),(14,(P6 bd 0)),(15,(I6 (i:Int))),(16,(.slice (some ⟨bq,0,none⟩) c c)),(17,(I6 (x:Int))),(35,(I6 (c:Int))),(36,(I6 (x:Int))),(12,(.slice bp ba bw)),(20,(I6 (j:Int)))])∧Chg zAh w0 W8∧Blk W8 br #[(I6 0),(.slice none 0 0),(.slice none 0 0)] 34∧zCC W8 bm zKa zEz (zBN aw 0)∧Blk W8 bd (#[Value.int .i64 0,.slice ea i ec,.slice ag i af]) 34∧Blk W8 bq (((R.set x (-1)).map (Value.int .i64)).toArray) 3∧(ExpP c stp first aw ab (R.take x++[(j:Int)]))∧(aw.length≤most)∧(aw[i]?=some k)∧(ba=aw.length)∧((aw.take i).map acc=ac)∧(W8.ownsRow n1 9 1 (.slice bp ba bw) ba (aw.map kcS).flatten)∧(OutSt W8 n2 (.slice ea i ec) (.slice ag i af) vs ac ab)∧(∀b,(Value.slice bp ba bw).ownBlock=some b→¬zGv (.slice ea i ec) (.slice ag i af) vs b∧b≠bm∧b≠bd∧b≠bq)∧(n2≤W8.heap.size)) ?_ ?_))))))))))))
      ·skip
       refine zAA (qM (.bool ((zBr (zBN ks 0) q).isSome)) rfl (qV (zCa (b:=(zBr (zBN ks 0) q).isSome) rfl) (zAB (zBD (b:=!((zBr (zBN ks 0) q).isSome)) rfl (fun ai=>?_) (fun ai=>?_)))))
       ·have bt:=ai;replace ai:=by simpa using ai
        have d4:zBr (zBN ks 0) q=none:=by simpa using ai
        obtain ⟨b1,b2⟩:=zGe d4;have ck:=hC.new a2 qO (by rw[be];exact cc) b1;refine zAA (qM (.slice (some ⟨aj,0,none⟩) sn ae) rfl (qV (zAJ (ad:=some ⟨aj,0,none⟩) (n:=sn) (cap:=ae) underlying114 rfl) (qA (I6 (sn:Int)) rfl (zAB (zAH (zAA (qM (I6 (sn:Int)) rfl (qM (I6 (most:Int)) rfl (qV (zAs (k:=.i64) (a:=(sn:Int)) (b:=(most:Int)) rfl rfl) (zAB (qC rfl (fun bu=>?_) (fun bu=>?_))))))))))))
        ·refine zAA (qV (zBA (ps:=[]) (v:=(.agg #[(I6 0),(.slice none 0 0),(.slice none 0 0)])) rfl qK) (zAb (b:=br) (o:=0) (c':=#[(I6 0),(.slice none 0 0),(.slice none 0 0)]) rfl rfl qS zAe rfl Br qL rfl ?_));intro w11 bv;replace Mm:=bv.keepM qO Mm;replace Bd:=bv.keep qO Bd;replace Bq:=bv.keep qO Bq;replace E:=bv.step E qQ;replace Br:=bv.blk;refine qA (.bool false) rfl (zAB (zAV (zAU (zAU (zAi (zAU (zAU (zAi (zAU (zAi (zAU (zAU (zAi (zAU (zAu results38 (vs:=[(.int .i64 0),(.slice none 0 0),(.slice none 0 0)]) (b:=br) (v':=(.bool false)) rfl zAx zAe rfl (Br.cells rfl) rfl ?_)))))))))))))));exact ⟨.inr ⟨fun hF=>by have h9:=hF _ ck.nd ck.rch;rw[List.length_append,List.length_singleton] at h9;omega,rfl⟩,E⟩
        ·refine zAO (zAC (zAA (qM (.map (some bm)) rfl (qM (.string q) rfl (qM (I6 (sn:Int)) rfl (zDJ (k:=q) (v:=(sn:Int)) underlying80 (zHF underlying9) Mm rfl rfl rfl ?_))))));intro w12 a6 dr;replace hS:=zAq hS a6.chg fun b hb h=>(ah b hb).2.1 h;replace hO:=hO.chg a6.chg fun b hb h=>by have:=(hO.lt hb).1;have h':b=bm:=h;omega
         replace ak:=Nat.le_trans ak a6.chg.size;replace Br:=a6.keep qO Br;replace Bd:=a6.keep qO Bd;replace Bq:=a6.keep qO Bq;replace E:=a6.step E qQ;replace Mm:=dr;refine zAB (zAF (qM (.slice (some ⟨aj,0,none⟩) sn ae) rfl (qM (.string q) rfl (zAc (ps:=[(0,(.string q))]) (c:=#[(.string q)]) qD rfl underlying114 zVI zWg qD qD qK ?_))));intro b13 c9 am;have F13:=am.ge E;have O13_br:=am.lt Br;have O13_bm:=am.ltM Mm;have O13_bd:=am.lt Bd;have O13_bq:=am.lt Bq;replace Br:=am.keep Br;replace Mm:=am.keepM Mm;replace Bd:=am.keep Bd;replace Bq:=am.keep Bq;replace hS:=zAj hS am.ext;replace hO:=hO.ext am.ext;replace ak:=Nat.le_trans ak am.ext.size;replace E:=E.ext am.ext;have dz:=am.blk;have d8:bq<(c9).heap.size:=Bq.lt;refine zBp (base:=n1) (n:=sn) (m:=1) (xs:=(ks.map kcS).flatten) (news:=[(.string q)]) (size:=1) (bytes:=16) (v:=(.slice (some ⟨aj,0,none⟩) sn ae)) qD underlying114 zVI byt9 zWg rfl qD rfl hS rfl (rfl) (dz.cells rfl) qS (by unfold maxLen;omega) qO (qO) ?_;intro v7 w59 cv bc dq;replace Br:=bc.keep (fun h=>by have:=(hS.lt _ h).1;omega) Br;replace Mm:=bc.keepM (fun h=>(ah _ h).2.1 rfl) Mm;replace Bd:=bc.keep (fun h=>(ah _ h).2.2.1 rfl) Bd;replace Bq:=bc.keep (fun h=>(ah _ h).2.2.2 rfl) Bq;replace E:=E.step bc (fun x hx h=>absurd (hS.lt x h).1 qO);obtain ⟨cq,cy,rfl⟩:=zBO cv;rw[a9,b2] at Mm;refine qA (.slice cq (sn+1) cy) rfl (zAB (zAC ?_));exact ⟨ks++[q],sn,cq,cy,sn+1,zAz.out ⟨rfl,rfl,rfl,rfl,rfl,rfl,rfl,rfl,rfl,rfl,rfl,rfl,rfl,rfl,trivial⟩,E,Br,Mm,Bd,Bq,(by rw[a9];exact ck),(by rw[List.length_append,List.length_singleton];omega),(by rw[List.getElem?_append_left (zAE al)];exact al),(by simp;omega),(by rw[List.take_append_of_le_length (by have:=zAE al;omega)];exact bx),(by rw[List.map_append,List.flatten_append];exact cv),hO.chg bc (fun b hb h=>(ah b h).1 hb),(fun b hb=>by rcases dq b hb with h9|h9;exact ah b h9;exact ⟨fun ho=>by have:=(hO.lt ho).2;omega,qO,qO,qO⟩),Nat.le_trans ak bc.size⟩
       ·have bt:=ai;replace ai:=by simpa using ai
        have dm:(zBr (zBN ks 0) q).isSome=true:=by simpa using ai
        obtain ⟨v9,cx⟩:=Option.isSome_iff_exists.1 dm;obtain ⟨j9,rfl,c5⟩:=zHz cx;rw[show (zBr (zBN ks 0) q).getD 0=((j9:Nat):Int) from by rw[cx];rfl];refine zAO (zAC ?_);exact ⟨ks,j9,some ⟨aj,0,none⟩,ae,sn,zAz.out ⟨rfl,rfl,rfl,rfl,rfl,rfl,rfl,rfl,rfl,rfl,rfl,rfl,rfl,rfl,trivial⟩,E,Br,Mm,Bd,Bq,hC.add a2 (by unfold zIo;rw[be,cc];exact ⟨j9,rfl,c5⟩),a3,al,a9,bx,hS,hO,ah,ak⟩
      ·clear E Br Mm Bd Bq;rintro _ W8 ⟨aw,j,bp,bw,ba,⟨j8,rfl⟩,E,Br,Mm,Bd,Bq,eb,co,cf,ce,b9,b7,b4,bi,a7⟩;have b3:=zBt (L:=R.set x (-1)) (s:=x) (x:=((j:Nat):Int)) (by simp;omega);refine zAF (qM (.slice (some ⟨bq,0,none⟩) c c) rfl (qM (I6 (x:Int)) rfl (qM (I6 (j:Int)) rfl (qV (zAD (b:=bq) (o:=0) (len:=c) (cap:=c) (i:=x) (o':=0+x) rfl rfl rfl underlying22 zAy qO qO) (zBC (b:=bq) (o:=0+x) (c':=(((R.set x (-1)).set x (j:Int)).map (Value.int .i64)).toArray) (v:=(I6 (j:Int))) rfl rfl rfl zAy Bq (by simp;omega) (zCX _) ?_)))));intro w14 a0;replace b7:=zAq b7 a0.chg fun b hb h=>(bi b hb).2.2.2 h;replace b4:=b4.chg a0.chg fun b hb h=>by have:=b0 b hb;have h':b=bq:=h;omega
       replace a7:=Nat.le_trans a7 a0.chg.size;replace Br:=a0.keep qO Br;replace Mm:=a0.keepM qO Mm;replace Bd:=a0.keep qO Bd;replace E:=a0.step E qQ;replace Bq:=a0.blk;refine zAB (zAR (zAC (zAF (qV (zAv (k:=.i64) (a:=(x:Int)) (b:=1) (c:=(x:Int)+1) rfl rfl (zBb qO)) (qM (I6 ((x:Int)+1)) rfl (zAB (zAC ?_)))))));exact ⟨c - (x+1),qO,x+1,(R.set x (-1)).set x ((j:Nat):Int),aw,bp,bw,ba,zAz.out ⟨rfl,rfl,rfl,rfl,rfl,rfl,rfl,rfl,rfl,rfl,rfl,rfl,trivial⟩,E,Br,Mm,Bd,Bq,qO,(by simp[bg]),(by rw[b3,List.take_set_of_le (Nat.le_refl x)];exact eb),co,cf,ce,b9,b7,b4,bi,a7,rfl⟩
    ·have ds:x=c:=qO
     rw[ds,show R.take c=R by rw[←bg,List.take_length]] at hC;obtain ⟨n4,ct⟩:∃n4,n4=(W4).heap.size:=⟨_,rfl⟩;have dx:=zAE al;obtain ⟨aj,rfl,_,bb⟩:=zBe hS qO;have ch:(W4).cell? ⟨aj,0+i,none⟩=some (.string k):=by have h9:=zDP cr bb al 0 _ rfl;rwa [Nat.mul_one,Nat.add_zero] at h9
     have bo:ac.length=i:=by rw[←bx,List.length_map,List.length_take];omega
     have an:(W4).ownsRow n2 TDI 1 (.slice ea i ec) i (ac.map (Value.int .i64)):=by have h9:=hO.e;rwa [bo] at h9
     have ap:(W4).ownsRow n2 zDg 1 (.slice ag i af) i vs:=hO.n.on (by rw[List.length_map];omega);have dc:=a3;have c3:=Bq.lt;have dd:=zFD (base:=bq) Bq (Nat.le_refl _) bg;refine zAn (zAT (zAT (zAg (zAC ?_))));obtain ⟨cg,aa⟩:∃Fs:List zEF,Fs=[(fun _ v _=>v=(P6 bd 2)),(fun _ v _=>v=(.slice ag i af)),(fun _ v _=>v=(.slice (some ⟨bq,0,none⟩) c c)),(fun _=>zDx zDg #[.slice (some ⟨bq,0,none⟩) c c] n4),(fun _=>zDH n2 zDg 1 (i+1) (vs++[Value.slice (some ⟨bq,0,none⟩) c c]) (.slice ag i af) n4),(fun _ v _=>v=(P6 bd 1)),(fun _ v _=>v=(.slice ea i ec)),(fun _ v _=>v=av),(fun _ v _=>v=(.slice (some ⟨aj,0,none⟩) sn ae)),(fun _ v _=>v=(I6 (i:Int))),(fun _ v _=>v=(.pointer (some ⟨aj,0+i,none⟩))),(fun _ v _=>v=(.string k)),(fun _ v _=>v=(I6 (acc k))),(fun _=>zDx TDI #[.int .i64 (acc k)] n4),(fun s v w=>zDH n2 TDI 1 (i+1) (ac.map (Value.int .i64)++[Value.int .i64 (acc k)]) (.slice ea i ec) n4 v w∧∀b,(s 84).ownBlock=some b→v.ownBlock≠some b),(fun _ v _=>v=(P6 bd 2))]:=⟨_,rfl⟩;refine zGt (two 4 14 (fun b=>(Value.slice ag i af).ownBlock=some b) (fun b=>(Value.slice ea i ec).ownBlock=some b)) 16 [80,81,82,83,84,85,86,87,88,89,90,91,92,93,94,95] [[],[0],[],[2],[1,3],[],[5],[],[],[],[8,9],[10],[4,7,11],[12],[6,12,13],[0,1,2,3,4,5,6]] [[],[0],[],[2],[1,0,3,2],[],[5],[],[],[],[8,9],[10,8,9],[4,1,0,3,2,7,11,10,8,9],[12,4,1,0,3,2,7,11,10,8,9],[6,5,12,4,1,0,3,2,7,11,10,8,9,13],[0,1,2,3,4,5,6]] cg aa qK mixed qK qK qK ?_ ?_
     ·intro wd X0;refine DagStepsX.cons (zBI.eq) (fun _ _ _ _ _ h=>h) (fun s' w' X U H=>?_) ?_
      ·exact zAX (zAZ (b:=bd) (o:=0) (o':=2) (U 14 rfl) underlying34 rfl zBu rfl) (Chg.refl _ _) rfl
      refine DagStepsX.cons (zBI.eq) (fun _ _ _ _ _ h=>h) (fun s' w' X U H=>?_) ?_
      ·have dp:=H 0 rfl 80 _ rfl (by rw[aa];rfl);exact zAX (zAI (v:=(.slice ag i af)) dp zBi ((Chg.keep X (fun h=>(fun h=>h.elim (fun h=>by have:=(ap.lt _ h).1;omega) (fun h=>by have:=(an.lt _ h).1;omega)) (zEK.or h)) (X0.keep Bd)).cell rfl)) (Chg.refl _ _) rfl
      refine DagStepsX.cons (zBI.eq) (fun _ _ _ _ _ h=>h) (fun s' w' X U H=>?_) ?_
      ·exact zAX (zAl (v:=(.slice (some ⟨bq,0,none⟩) c c)) (U 16 rfl)) (Chg.refl _ _) rfl
      refine DagStepsX.cons (zCV (fun y h=>by have:=(ap.lt y h).2;omega) (fun y h=>by have:=(an.lt y h).2;omega)) (zIY.const) (fun s' w' X U H=>?_) ?_
      ·have c7:=H 2 rfl 82 _ rfl (by rw[aa];rfl);exact zCD (hs:=n4) underlying32 zBL zEg c7 qD qD qK (by have:=X0.size;have:=X.size;omega)
      refine DagStepsX.cons (zGT (fun k hk hm=>hk.elim (fun h=>hO.en k hm h) (fun h=>by have:=(an.lt k hm).2;omega))) (zIY.const) (fun s' w' X U H=>?_) ?_
      ·have c2:=H 1 rfl 81 _ rfl (by rw[aa];rfl);obtain ⟨b83,dg,d9,g83⟩:=(show ((fun _=>zDx zDg #[.slice (some ⟨bq,0,none⟩) c c] n4):zEF) s' (s' 83) w' from H 3 rfl 83 ((fun _=>zDx zDg #[.slice (some ⟨bq,0,none⟩) c c] n4)) rfl (by rw[aa];rfl));exact zBj (hs:=n4) underlying32 zBL zMk zEg rfl qD c2 (zAj (zAj ap X0) (X.mono (fun y _ h=>zEK.none rfl rfl h))) dg rfl (d9.cells rfl) qS (by unfold maxLen;omega) qO (by have:=X0.size;have:=X.size;omega) (fun y h=>h) (by have:=X0.size;have:=X.size;omega)
      refine DagStepsX.cons (zBI.eq) (fun _ _ _ _ _ h=>h) (fun s' w' X U H=>?_) ?_
      ·exact zAX (zAZ (b:=bd) (o:=0) (o':=1) (U 14 rfl) underlying34 rfl zBL rfl) (Chg.refl _ _) rfl
      refine DagStepsX.cons (zBI.eq) (fun _ _ _ _ _ h=>h) (fun s' w' X U H=>?_) ?_
      ·have d5:=H 5 rfl 85 _ rfl (by rw[aa];rfl);exact zAX (zAI (v:=(.slice ea i ec)) d5 zBP ((Chg.keep X (fun h=>(fun h=>h.elim (fun h=>by have:=(ap.lt _ h).1;omega) (fun h=>by have:=(an.lt _ h).1;omega)) (zEK.or h)) (X0.keep Bd)).cell rfl)) (Chg.refl _ _) rfl
      refine DagStepsX.cons (zBI.eq) (fun _ _ _ _ _ h=>h) (fun s' w' X U H=>?_) ?_
      ·exact zAX (zAl (v:=av) (U 3 rfl)) (Chg.refl _ _) rfl
      refine DagStepsX.cons (zBI.eq) (fun _ _ _ _ _ h=>h) (fun s' w' X U H=>?_) ?_
      ·exact zAX (zAl (v:=(.slice (some ⟨aj,0,none⟩) sn ae)) (U 12 rfl)) (Chg.refl _ _) rfl
      refine DagStepsX.cons (zBI.eq) (fun _ _ _ _ _ h=>h) (fun s' w' X U H=>?_) ?_
      ·exact zAX (zAl (v:=(I6 (i:Int))) (U 15 rfl)) (Chg.refl _ _) rfl
      refine DagStepsX.cons (zBI.eq) (fun _ _ _ _ _ h=>h) (fun s' w' X U H=>?_) ?_
      ·have de:=H 8 rfl 88 _ rfl (by rw[aa];rfl);have d2:=H 9 rfl 89 _ rfl (by rw[aa];rfl);exact zAX (zAD (b:=aj) (o:=0) (len:=sn) (cap:=ae) (i:=i) (o':=0+i) de d2 rfl underlying114 zVI qO qO) (Chg.refl _ _) rfl
      refine DagStepsX.cons (zBI.eq) (fun _ _ _ _ _ h=>h) (fun s' w' X U H=>?_) ?_
      ·have d1:=H 10 rfl 90 _ rfl (by rw[aa];rfl);exact zAX (zAI (v:=(.string k)) d1 zQX (Chg.cell X (fun h=>(zEK.or h).elim (fun h=>(ah _ rfl).1 (.inr (.inl h))) (fun h=>(ah _ rfl).1 (.inl h))) (X0.cell ch))) (Chg.refl _ _) rfl
      refine DagStepsX.cons (zBI.eq) (fun _ _ _ _ _ h=>h) (fun s' w' X U H=>?_) ?_
      ·have dt:=H 7 rfl 87 _ rfl (by rw[aa];rfl);have du:=H 11 rfl 91 _ rfl (by rw[aa];rfl);exact zFq (fv:=av) (vs:=[.string k]) dt (zOv du) ((ha w' k ((E.ext X0).step X (fun y hy h=>(zEK.or h).elim (fun h=>by have:=(ap.lt y h).1;omega) (fun h=>by have:=(an.lt y h).1;omega))) c0).mono (fun v w h=>⟨h.1,Ext.chg h.2⟩))
      refine DagStepsX.cons (zCV (fun y h=>by have:=(ap.lt y h).2;omega) (fun y h=>by have:=(an.lt y h).2;omega)) (zIY.const) (fun s' w' X U H=>?_) ?_
      ·have dy:=H 12 rfl 92 _ rfl (by rw[aa];rfl);exact zCD (hs:=n4) underlying22 zAy zDI dy qD qD qK (by have:=X0.size;have:=X.size;omega)
      refine DagStepsX.cons (zGS rfl) (fun s1 s2 h v w h2=>⟨h2.1,by have:=h 4 84 rfl rfl;rw[this];exact h2.2⟩) (fun s' w' X U H=>?_) ?_
      ·have dj:=H 6 rfl 86 _ rfl (by rw[aa];rfl);obtain ⟨b93,d0,c8,g93⟩:=(show ((fun _=>zDx TDI #[.int .i64 (acc k)] n4):zEF) s' (s' 93) w' from H 13 rfl 93 ((fun _=>zDx TDI #[.int .i64 (acc k)] n4)) rfl (by rw[aa];rfl));exact zGr (H 4 rfl 84 _ rfl (by rw[aa];rfl)) (zBj (hs:=w'.heap.size) underlying22 zAy zJU zDI rfl qD dj (zAq (zAj an X0) (X.mono (fun y _ h=>zEK.fst rfl h)) (fun k hk hm=>hO.en k hk hm)) d0 rfl (c8.cells rfl) qS (by unfold maxLen;omega) qO (by have:=X0.size;have:=X.size;omega) (fun y h=>h) (Nat.le_refl _)) (by have:=X0.size;have:=X.size;omega) (fun k h1 h2=>h1.elim (fun h=>hO.en k h2 h) (fun h=>by have:=(an.lt k h2).2;omega))
      refine DagStepsX.cons (zBI.eq) (fun _ _ _ _ _ h=>h) (fun s' w' X U H=>?_) ?_
      ·exact zAX (zAZ (b:=bd) (o:=0) (o':=2) (U 14 rfl) underlying34 rfl zBu rfl) (Chg.refl _ _) rfl
      exact DagStepsX.nil
     ·intro s' dh cw X0 ay U H;replace ay:=ay.mono (M':=fun y=>(fun b=>(Value.slice ag i af).ownBlock=some b) y∨(fun b=>(Value.slice ea i ec).ownBlock=some b) y) (fun y _ h=>by obtain ⟨j,h⟩:=h;rcases zEw h with h|h;exact .inl h.2;exact .inr h.2);obtain ⟨⟨a8,a4,cu⟩,cz,b5⟩:=(show ((fun _=>zDH n2 zDg 1 (i+1) (vs++[Value.slice (some ⟨bq,0,none⟩) c c]) (.slice ag i af) n4):zEF) s' (s' 84) cw from H 4 84 ((fun _=>zDH n2 zDg 1 (i+1) (vs++[Value.slice (some ⟨bq,0,none⟩) c c]) (.slice ag i af) n4)) rfl (by rw[aa];rfl));obtain ⟨⟨⟨bf,bh,cp⟩,cs,b6⟩,ca⟩:=(show ((fun s v w=>zDH n2 TDI 1 (i+1) (ac.map (Value.int .i64)++[Value.int .i64 (acc k)]) (.slice ea i ec) n4 v w∧∀b,(s 84).ownBlock=some b→v.ownBlock≠some b):zEF) s' (s' 94) cw from H 14 94 ((fun s v w=>zDH n2 TDI 1 (i+1) (ac.map (Value.int .i64)++[Value.int .i64 (acc k)]) (.slice ea i ec) n4 v w∧∀b,(s 84).ownBlock=some b→v.ownBlock≠some b)) rfl (by rw[aa];rfl));have db:s' 95=(.pointer (some ⟨bd,2,none⟩)):=H 15 95 ((fun _ v _=>v=(.pointer (some ⟨bd,2,none⟩)))) rfl (by rw[aa];rfl);obtain ⟨j15,rfl⟩:=zAz.out (σ:=s') (l:=[(1,(.int .i64 ((c:Nat):Int))),(2,sv),(3,av),(4,(.int .i64 ((most:Nat):Int))),(10,(.pointer (some ⟨br,0,none⟩))),(12,(.slice (some ⟨aj,0,none⟩) sn ae)),(13,(.map (some bm))),(14,(.pointer (some ⟨bd,0,none⟩))),(15,(.int .i64 ((i:Nat):Int))),(84,(.slice a8 (i+1) a4)),(94,(.slice bf (i+1) bh)),(95,(.pointer (some ⟨bd,2,none⟩)))]) ⟨U 1 rfl,U 2 rfl,U 3 rfl,U 4 rfl,U 10 rfl,U 12 rfl,U 13 rfl,U 14 rfl,U 15 rfl,cu,cp,db,trivial⟩;clear U H;replace Br:=Chg.keep ay (fun h=>h.elim (fun h=>by have:=(ap.lt _ h).1;omega) (fun h=>by have:=(an.lt _ h).1;omega)) (X0.keep Br);replace Mm:=Chg.keepM ay (fun h=>h.elim (fun h=>by have:=(ap.lt _ h).1;omega) (fun h=>by have:=(an.lt _ h).1;omega)) (X0.keepM Mm);replace Bd:=Chg.keep ay (fun h=>h.elim (fun h=>by have:=(ap.lt _ h).1;omega) (fun h=>by have:=(an.lt _ h).1;omega)) (X0.keep Bd);replace Bq:=Chg.keep ay (fun h=>h.elim (fun h=>by have:=b0 _ (.inr (.inl h));omega) (fun h=>by have:=b0 _ (.inl h);omega)) (X0.keep Bq);have cm:=Chg.trans (Ext.chg X0) ay;replace E:=(E.ext X0).step ay (fun y hy h=>h.elim (fun h=>by have:=(ap.lt y h).1;omega) (fun h=>by have:=(an.lt y h).1;omega));rw[cu] at cz b5 ca;rw[cp] at cs b6 ca;have a5:=hO.push (y:=acc k) (N':=.slice a8 (i+1) a4) (E':=.slice bf (i+1) bh) dd bg.symm qO (fun b hb=>by have:=b0 b hb;omega) cm (by rw[bz];exact cz) (fun k hk=>by rw[←ct];exact b5 k hk) (by rw[bo,List.map_append];exact cs) (fun k hk=>by rw[←ct];exact b6 k hk) ca;have bk:=zAq hS cm (fun b hb h=>h.elim (fun h=>(ah b hb).1 (.inr (.inl h))) (fun h=>(ah b hb).1 (.inl h)));have ao:=Nat.le_trans ak cm.size;have cn:∀b,(Value.slice (some ⟨aj,0,none⟩) sn ae).ownBlock=some b→¬zGv (.slice bf (i+1) bh) (.slice a8 (i+1) a4) (vs++[.slice (some ⟨bq,0,none⟩) c c]) b∧b≠bm∧b≠bd:=fun b hb=>⟨fun ho=>zHS ⟨(ah b hb).1,(ah b hb).2.2.2⟩ (by have:=(hS.lt b hb).2;omega) b5 b6 ho,(ah b hb).2.1,(ah b hb).2.2.1⟩;refine zBC (b:=bd) (o:=2) (c':=#[(I6 0),(.slice ea i ec),(.slice a8 (i+1) a4)]) (v:=(.slice a8 (i+1) a4)) rfl rfl rfl zBu Bd qP rfl ?_;intro w16 ax;replace a5:=a5.chg ax.chg fun b hb h=>by have:=(a5.lt hb).1;have h':b=bd:=h;omega
      replace bk:=zAq bk ax.chg fun b hb h=>(ah b hb).2.2.1 h;replace ao:=Nat.le_trans ao ax.chg.size;replace Br:=ax.keep qO Br;replace Mm:=ax.keepM qO Mm;replace Bq:=ax.keep qO Bq;replace E:=ax.step E qQ;replace Bd:=ax.blk;refine qF bd 0 1 rfl underlying34 rfl zBL rfl (zBC (b:=bd) (o:=1) (c':=#[(I6 0),(.slice bf (i+1) bh),(.slice a8 (i+1) a4)]) (v:=(.slice bf (i+1) bh)) rfl rfl rfl zBL Bd qP rfl ?_);intro w17 a1;replace a5:=a5.chg a1.chg fun b hb h=>by have:=(a5.lt hb).1;have h':b=bd:=h;omega
      replace bk:=zAq bk a1.chg fun b hb h=>(ah b hb).2.2.1 h;replace ao:=Nat.le_trans ao a1.chg.size;replace Br:=a1.keep qO Br;replace Mm:=a1.keepM qO Mm;replace Bq:=a1.keep qO Bq;replace E:=a1.step E qQ;replace Bd:=a1.blk;refine zAB (zAR (zAC (zAF (qM (I6 (i:Int)) rfl (qV (zAv (k:=.i64) (a:=(i:Int)) (b:=1) (c:=(i:Int)+1) rfl rfl (zBb qO)) (qA (I6 ((i:Int)+1)) rfl (zAB (zAC ?_))))))));exact ⟨most - (i+1),qO,i+1,ab++[R],ks,ac++[acc k],vs++[.slice (some ⟨bq,0,none⟩) c c],some ⟨aj,0,none⟩,bf,a8,ae,sn,bh,a4,zAz.out ⟨rfl,rfl,rfl,rfl,rfl,rfl,rfl,rfl,rfl,trivial⟩,E,Br,Mm,Bd,hC.rowed bg,(by simp[bz]),a3,a9,qO,(by rw[zDq al,List.map_append,bx];rfl),bk,a5,cn,ao,rfl⟩
  ·have dn:i=ks.length:=qO
   have cl:ab.length=ks.length:=qO
   obtain ⟨b8,d6⟩:=hC.done (acc:=acc) cl (fun k hk=>(hac k (hC.rch k hk)).1);have aq:ac=ks.map acc:=by rw[az,dn,List.take_length]
   refine zAn (zAT (zAT (zAg (zAC (zAA (qV (zAK (vs:=[(I6 0),(.slice ea i ec),(.slice ag i af)]) rfl zAx zAe rfl (Bd.cells rfl)) (zAb (b:=br) (o:=0) (c':=#[(I6 0),(.slice ea i ec),(.slice ag i af)]) rfl rfl qS zAe rfl Br qL rfl ?_)))))));intro w18 bj;replace hO:=hO.chg bj.chg fun b hb h=>by have:=(hO.lt hb).1;have h':b=br:=h;omega
   replace Mm:=bj.keepM qO Mm;replace Bd:=bj.keep qO Bd;replace E:=bj.step E qQ;replace Br:=bj.blk;refine qA (.bool true) rfl (zAB (zAV (zAu results38 (vs:=[(.int .i64 0),(.slice ea i ec),(.slice ag i af)]) (b:=br) (v':=(.bool true)) rfl zAx zAe rfl (Br.cells rfl) rfl (⟨.inl ⟨(hC.all cl).mono a3,⟨0,ac,ab⟩,_,fun mx ed=>⟨?_,?_,rfl,?_,?_⟩,rfl,?_⟩,E⟩))))
   ·rw[aq];show OkD ab.length c _;rw[cl];exact b8
   ·show ab.length≤mx;have:=ed ks hC.nd hC.rch;omega
   ·rw[aq];exact d6
   ·intro x hx;have hx:x∈ac:=hx;rw[aq] at hx;obtain ⟨u,hu,rfl⟩:=List.mem_map.1 hx;exact (hac u (hC.rch u hu)).2
   ·have bn:ac.length=i:=by rw[aq,List.length_map];omega
    exact ⟨ea,ec,ag,af,vs,by show Value.agg #[_,_,_]=.agg #[_,.slice ea ac.length ec,.slice ag ab.length af];rw[bn,bz],by show OutSt _ _ (.slice ea ac.length ec) (.slice ag ab.length af) vs ac ab;rw[bn,bz];exact hO.low cj.2⟩
end Go.Proofs
namespace Go.Proofs
open Go Go.Eng
set_option maxRecDepth 100000
theorem zPA {S:Type} (F:S→Re→Bool×S) (Inv:S→World→Prop) (M:Nat→Prop) (bd:Nat) (fv:Value) (wb:World)
    (hM:∀b,M b→wb.heap.size≤b∧b<bd) (hst:∀s w w',Inv s w→Ext w w'→Inv s w')
    (hf:∀s w t vs,bd≤w.heap.size→Ext wb w→Inv s w→zBB wb t vs→zCG prog fv #[.agg vs.toArray] w fun v w'=>v=.bool (F s t).1∧Chg M w w'∧Inv (F s t).2 w') :
    ∀n t,t.size≤n→∀s w0 vs,bd≤w0.heap.size→Ext wb w0→Inv s w0→zBB wb t vs→
      Ret prog 42 #[.agg vs.toArray,fv] w0 fun v w'=>v=.bool (zCc F t s).1∧Chg M w0 w'∧Inv (zCc F t s).2 w':=by
  have ae:∀{w w':World},Ext wb w→Chg M w w'→Ext wb w':=fun e c=>Chg.step e c fun x hx hm=>by have:=(hM x hm).1;omega
  intro n
  induction n with
  | zero=>intro t ht;have:=t.size_pos;omega
  | succ n ih=>
  intro t hn s w0 vs hbd hE hI ht;obtain ⟨sa,sc,aa,ac,rfl,ak,ao,ah⟩:=ht.form;rw[zEM];refine zDc func42 rfl ntmps42 (leT rfl) ?_;have E:Chg M w0 w0:=Chg.refl _ _;refine zAA (zBQ (v:=(.agg (R6 t sa sc aa ac))) (c:=(R6 t sa sc aa ac)) qD rfl rfl ?_);intro b1 w1 N1;have F1:=N1.ge E;replace hI:=hst _ _ _ hI N1.ext;replace E:=E.ext N1.ext;have B1:=N1.blk;refine qA (.bool false) rfl (zAB (zAH (zAA (qM fv rfl (qV (zAK (vs:=[(I6 t.kind),(.slice sa t.set.length sc),(.slice aa t.args.length ac),(I6 t.mn),(I6 t.mx),(.bool t.neg)]) rfl zBc zAw rfl (B1.cells rfl)) (zDD (fv:=fv) (vs:=[(.agg (R6 t sa sc aa ac))]) qD rfl rfl (hf s _ t _ (by have:=N1.size;omega) (hE.trans N1.ext) hI ht) ?_))))));rintro _ w2 ⟨rfl,C2,hI⟩;replace B1:=C2.keep (fun h=>by have:=(hM _ h).2;omega) B1;replace E:=E.trans C2;have hE2:Ext wb w2:=ae hE E;have z2:bd≤w2.heap.size:=by have:=C2.size;have:=N1.size;omega
  refine qV (zCa (b:=(F s t).1) rfl) (zAB (zBD (b:=!((F s t).1)) rfl (fun h=>?_) (fun h=>?_)))
  · have kh:=h;replace h:=by simpa using h
    refine zAA (qA (.bool false) rfl (zAB (zAV (zAU (zAY results42 (v:=(.bool false)) rfl ?_)))));exact ⟨by rw[if_neg (by simp[h])],E,by rw[if_neg (by simp[h])];exact hI⟩
  · have kh:=h;replace h:=by simpa using h
    rw[if_pos (by simpa using h)];generalize (F s t).2=s1 at hI⊢;refine zAO (zAC (zAH (zAA (qF b1 0 2 rfl underlying26 rfl zFw rfl (qV (zAI (v:=(.slice aa t.args.length ac)) rfl zEQ (B1.cell rfl)) (qV (zAJ (ad:=aa) (n:=t.args.length) (cap:=ac) underlying24 rfl) (qM (I6 0) rfl (zAB (zAS (zAp (fun nn_ σ W3=>∃(k:Nat) (s':S),(∃jj_,σ=zCT jj_ [(1,fv),(12,(.slice aa t.args.length ac)),(13,(I6 (t.args.length:Int))),(14,(I6 (k:Int)))])∧Chg M w0 W3∧Blk W3 b1 (R6 t sa sc aa ac) 26∧(k≤t.args.length)∧(bd≤W3.heap.size)∧(Inv s' W3)∧(zCS F t.args s1=zCS F (t.args.drop k) s')∧nn_=t.args.length - k) (n:=t.args.length - 0) ?_ ?_))))))))))
    · exact ⟨0,s1,zAz.out ⟨rfl,rfl,rfl,rfl,trivial⟩,E,B1,Nat.zero_le _,z2,hI,rfl,rfl⟩
    · clear E B1;rintro _ _ W3 ⟨k,s',⟨j3,rfl⟩,E,B1,hk,hz,hI,ab,rfl⟩;refine zAA (qV (zBF (k:=.i64) (a:=(k:Int)) (b:=(t.args.length:Int)) rfl rfl) (zAB (zAH (qC rfl (fun aj=>?_) (fun aj=>?_)))))
      · have af:k<t.args.length:=qO
        obtain ⟨x,hx⟩:∃x,t.args[k]?=some x:=⟨_,List.getElem?_eq_getElem af⟩;obtain ⟨b,o,rfl,ai⟩:∃b o,aa=some ⟨b,o,none⟩∧zCx wb b o t.args:=by
          rcases ah with h|h
          · rw[h] at af;simp at af
          · exact h
        obtain ⟨us,al,ag⟩:=ai.get hx;have am:Ext wb _:=ae hE E;refine zAO (zAC (zAH (zAS (zAA (qV (zAD (b:=b) (o:=o) (len:=t.args.length) (cap:=ac) (i:=k) (o':=o+k*6) rfl rfl rfl underlying24 zAw qO qO) (qV (zAK (vs:=us) rfl zBc zAw ag.len (al.ext am)) ?_))))));have hsz:=Re.size_arg hx;refine zAd (v:=(.agg us.toArray)) (c:=us.toArray) (n:=6) qD zEH rfl zAw rfl rfl (by simpa using ag.len) (by simpa using zBB.one ag) ?_;intro b5 w5 N5;have F5:=N5.ge E;have O5_b1:=N5.lt B1;replace B1:=N5.keep B1;replace hI:=hst _ _ _ hI N5.ext;replace E:=E.ext N5.ext;have B5:=N5.blk;refine zAB (zAA (qV (zAK (vs:=us) rfl zBc zAw ag.len (B5.cells qP)) (qM fv rfl (qE rfl (zAQ (vs:=[(.agg us.toArray),fv]) func42 kQ kQ rfl) (ih x qO s' _ us (by have:=N5.size;omega) (ae hE E) hI ag) ?_))));rintro _ w9 ⟨rfl,C9,hI⟩;replace B1:=C9.keep (fun h=>by have:=(hM _ h).2;omega) B1;replace B5:=C9.keep (fun h=>by have:=(hM _ h).2;omega) B5;replace E:=E.trans C9;have aq:t.args.drop k=x::t.args.drop (k+1):=by rw[List.drop_eq_getElem_cons af];rw[List.getElem?_eq_getElem af] at hx;cases hx;rfl
        rw[aq,zCb] at ab;refine qV (zCa (b:=(zCc F x s').1) rfl) (zAB (zBD (b:=!((zCc F x s').1)) rfl (fun h2=>?_) (fun h2=>?_)))
        · have ap:=h2;replace h2:=by simpa using h2
          refine zAA (qA (.bool false) rfl (zAB (zAV (zAi (zAU (zAU (zAi (zAU (zAY results42 (v:=(.bool false)) rfl ?_)))))))));exact ⟨by rw[ab,if_neg (by simp[h2])],E,by rw[ab,if_neg (by simp[h2])];exact hI⟩
        · have ap:=h2;replace h2:=by simpa using h2
          rw[if_pos (by simpa using h2)] at ab;refine zAO (zAR (zAC (zAF (qV (zAv (k:=.i64) (a:=(k:Int)) (b:=1) (c:=(k:Int)+1) rfl rfl (zBb qO)) (qM (I6 ((k:Int)+1)) rfl (zAB (zAC ?_)))))));exact ⟨t.args.length - (k+1),qO,k+1,(zCc F x s').2,zAz.out ⟨rfl,rfl,rfl,rfl,trivial⟩,E,B1,qO,(by have:=C9.size;have:=N5.size;omega),hI,ab,rfl⟩
      · have an:k=t.args.length:=qO
        rw[an,List.drop_length] at ab;refine zAn (zAT (zAT (zAg (zAC (zAA (qA (.bool true) rfl (zAB (zAV (zAY results42 (v:=(.bool true)) rfl ?_)))))))));exact ⟨by rw[ab];rfl,E,by rw[ab];exact hI⟩
end Go.Proofs
namespace Go.Proofs
open Go Go.Eng
set_option maxRecDepth 100000
def zCU (t:Re):Int:=if t.kind<0∨10<t.kind then 1 else if zFd t=false then 3 else if t.kind=2 then (if zBR t.set≠0 then zBR t.set else if (t.set.length:Int)=0 then 3 else 0)
 else if t.kind=6 then (if t.mn<0∨t.mx<t.mn∨8<t.mx then 1 else 0) else if t.kind=9 then (if t.mn<0∨9<t.mn then 1 else 0) else 0
theorem zWB (wb w0:World) (t:Re) (vs:List Value) (ht:zBB wb t vs) (hE:Ext wb w0) :
  Ret prog 103 #[.agg vs.toArray] w0 fun v w=>v=.int .i64 (zCU t)∧Ext w0 w:=by
 have a0:=ht;obtain ⟨sa,sc,aa,ac,rfl,ao,a2,ay⟩:=ht.form;refine qR func103 rfl ntmps103 rfl (fun E=>(zAA (zBQ (v:=(.agg (R6 t sa sc aa ac))) (c:=(R6 t sa sc aa ac)) qD rfl rfl ?_)));intro b1 w1 N1;replace E:=E.ext N1.ext;have B1:=N1.blk;refine qA (I6 0) rfl (zAB (zAH (zAA (qF b1 0 0 rfl underlying26 rfl zAy rfl (qV (zAI (v:=(I6 t.kind)) rfl zAo (B1.cell rfl)) ?_)))));obtain ⟨e2,av⟩:∃e,(decide ((t.kind:Int)<0))=e:=⟨_,rfl⟩;refine qV ((zBF (k:=.i64) (a:=t.kind) (b:=0) rfl rfl).trans (by rw[av];try rfl)) (qM (.bool e2) rfl (qG (.bool e2) (nU e2 (P6 b1 0)) (by cases e2<;>first|exact gA|exact gB|exact .inl ⟨rfl,zAZ (b:=b1) (o:=0) (o':=0) rfl underlying26 rfl zAy rfl⟩) (qG (.bool e2) (nU e2 (I6 t.kind)) (by cases e2<;>first|exact gA|exact gB|exact .inl ⟨rfl,zAI (v:=(I6 t.kind)) rfl zAo (B1.cell rfl)⟩) ?_)));obtain ⟨e3,ar⟩:∃e,(decide ((10:Int)<t.kind))=e:=⟨_,rfl⟩;refine qG (.bool e2) (nU e2 (.bool e3)) (by cases e2<;>first|exact gA|exact gB|exact .inl ⟨rfl,(zDB (k:=.i64) (a:=t.kind) (b:=10) rfl rfl).trans (by rw[ar];try rfl)⟩) ?_;obtain ⟨e4,aw⟩:∃e,(e2 || e3)=e:=⟨_,rfl⟩;refine qV (zAr (b:=e2) (v:=.bool e4) rfl (by rw[←aw];cases e2<;>rfl)) (zAB ?_);subst aw;subst ar;subst av;refine zBD (b:=((decide ((t.kind:Int)<0)) || (decide ((10:Int)<t.kind)))) rfl (fun hk=>?_) (fun hk=>?_)
 ·have a5:=hk;simp at hk;refine zAA (qA (I6 1) rfl (zAB (zAV (zAU (zAY results103 (v:=(.int .i64 1)) rfl ?_)))));exact ⟨zBJ (by unfold zCU;rw[if_pos qO]),E⟩
 ·have a5:=hk;simp at hk;refine zAO (zAC (zAH (zAA (qV (zAK (vs:=[(I6 t.kind),(.slice sa t.set.length sc),(.slice aa t.args.length ac),(I6 t.mn),(I6 t.mx),(.bool t.neg)]) rfl zBc zAw rfl (B1.cells rfl)) (qE rfl (zAQ (vs:=[(.agg (R6 t sa sc aa ac))]) func151 kQ kQ rfl) (zWM wb _ t _ a0) ?_)))));rintro _ w9 ⟨rfl,X9⟩;replace B1:=X9.keep B1;replace E:=E.ext X9;refine qV (zCa (b:=zFd t) rfl) (zAB (zBD (b:=!(zFd t)) rfl (fun hf=>?_) (fun hf=>?_)))
  ·have a3:=hf;replace hf:=by simpa using hf
   refine zAA (qA (I6 3) rfl (zAB (zAV (zAU (zAY results103 (v:=(.int .i64 3)) rfl ?_)))));exact ⟨zBJ (by unfold zCU;rw[if_neg qO,if_pos hf]),E⟩
  ·have a3:=hf;replace hf:=by simpa using hf
   have hN:zCU t=if t.kind=2 then (if zBR t.set≠0 then zBR t.set else if (t.set.length:Int)=0 then 3 else 0) else if t.kind=6 then (if t.mn<0∨t.mx<t.mn∨8<t.mx then 1 else 0) else if t.kind=9 then (if t.mn<0∨9<t.mn then 1 else 0) else 0:=by unfold zCU;rw[if_neg qO,if_neg (by simp[hf])]
   rw[hN];refine zAO (zAC (zAH (zAA (qF b1 0 0 rfl underlying26 rfl zAy rfl (qV (zAI (v:=(I6 t.kind)) rfl zAo (B1.cell rfl)) (zAB (zAS (zAA (qV (zAs (k:=.i64) (a:=t.kind) (b:=2) rfl rfl) (qA (.bool (decide ((t.kind:Int)=2))) rfl (zAB (qC rfl (fun h2=>?_) (fun h2=>?_)))))))))))))
   ·rw[if_pos h2];refine zAH (zAA (qF b1 0 1 rfl underlying26 rfl zCd rfl (qV (zAI (v:=(.slice sa t.set.length sc)) rfl zCZ (B1.cell rfl)) (qE rfl (zAQ (vs:=[(.slice sa t.set.length sc)]) func44 kQ kQ rfl) (zJh _ _ t.set ((ao.ext hE).ext E)) ?_))));rintro _ w10 ⟨rfl,ax⟩;replace B1:=ax.keep B1;replace E:=E.ext ax;refine qA (I6 (zBR t.set)) rfl (zAB (zAA (qM (I6 (zBR t.set)) rfl (qV (zDA (k:=.i64) (a:=zBR t.set) (b:=0) rfl rfl) (zAB (qC rfl (fun h3=>?_) (fun h3=>?_)))))))
    ·refine zAA (qM (I6 (zBR t.set)) rfl (qA (I6 (zBR t.set)) rfl (zAB (zAV (zAU (zAi (zAU (zAY results103 (v:=(.int .i64 (zBR t.set))) rfl ?_))))))));exact ⟨zBJ (by rw[if_pos h3]),E⟩
    ·rw[if_neg h3];refine zAO (zAC (zAA (qF b1 0 1 rfl underlying26 rfl zCd rfl (qV (zAI (v:=(.slice sa t.set.length sc)) rfl zCZ (B1.cell rfl)) (qV (zAJ (ad:=sa) (n:=t.set.length) (cap:=sc) underlying23 rfl) (qV (zAs (k:=.i64) (a:=(t.set.length:Int)) (b:=0) rfl rfl) (zAB (qC rfl (fun h4=>?_) (fun h4=>?_)))))))))
     ·refine zAA (qA (I6 3) rfl (zAB (zAV (zAi (zAU (zAY results103 (v:=(.int .i64 3)) rfl ?_))))));exact ⟨zBJ (by rw[if_pos h4]),E⟩
     ·refine zAO (zAR (zAC (zAA (qA (I6 0) rfl (zAB (zAV (zAY results103 (v:=(.int .i64 0)) rfl ?_)))))));exact ⟨zBJ (by rw[if_neg h4]),E⟩
   ·rw[if_neg h2];refine zAA (qV (zAs (k:=.i64) (a:=t.kind) (b:=6) rfl rfl) (qA (.bool (decide ((t.kind:Int)=6))) rfl (zAB (qC rfl (fun h6=>?_) (fun h6=>?_)))))
    ·rw[if_pos h6];refine zAA (qF b1 0 3 rfl underlying26 rfl zAy rfl (qV (zAI (v:=(I6 t.mn)) rfl zAo (B1.cell rfl)) ?_));obtain ⟨ab,ai⟩:∃e,(decide ((t.mn:Int)<0))=e:=⟨_,rfl⟩;refine qV ((zBF (k:=.i64) (a:=t.mn) (b:=0) rfl rfl).trans (by rw[ai];try rfl)) (qM (.bool ab) rfl (qG (.bool ab) (nU ab (P6 b1 3)) (by cases ab<;>first|exact gA|exact gB|exact .inl ⟨rfl,zAZ (b:=b1) (o:=0) (o':=3) rfl underlying26 rfl zAy rfl⟩) (qG (.bool ab) (nU ab (I6 t.mn)) (by cases ab<;>first|exact gA|exact gB|exact .inl ⟨rfl,zAI (v:=(I6 t.mn)) rfl zAo (B1.cell rfl)⟩) (qG (.bool ab) (nU ab (P6 b1 4)) (by cases ab<;>first|exact gA|exact gB|exact .inl ⟨rfl,zAZ (b:=b1) (o:=0) (o':=4) rfl underlying26 rfl zAy rfl⟩) (qG (.bool ab) (nU ab (I6 t.mx)) (by cases ab<;>first|exact gA|exact gB|exact .inl ⟨rfl,zAI (v:=(I6 t.mx)) rfl zAo (B1.cell rfl)⟩) ?_)))));obtain ⟨aq,ah⟩:∃e,(decide ((t.mx:Int)<t.mn))=e:=⟨_,rfl⟩;refine qG (.bool ab) (nU ab (.bool aq)) (by cases ab<;>first|exact gA|exact gB|exact .inl ⟨rfl,(zDB (k:=.i64) (a:=t.mn) (b:=t.mx) rfl rfl).trans (by rw[ah];try rfl)⟩) ?_;obtain ⟨ae,am⟩:∃e,(ab || aq)=e:=⟨_,rfl⟩;refine qV (zAr (b:=ab) (v:=.bool ae) rfl (by rw[←am];cases ab<;>rfl)) (qM (.bool ae) rfl (qG (.bool ae) (nU ae (P6 b1 4)) (by cases ae<;>first|exact gA|exact gB|exact .inl ⟨rfl,zAZ (b:=b1) (o:=0) (o':=4) rfl underlying26 rfl zAy rfl⟩) (qG (.bool ae) (nU ae (I6 t.mx)) (by cases ae<;>first|exact gA|exact gB|exact .inl ⟨rfl,zAI (v:=(I6 t.mx)) rfl zAo (B1.cell rfl)⟩) ?_)));obtain ⟨au,ag⟩:∃e,(decide ((8:Int)<t.mx))=e:=⟨_,rfl⟩;refine qG (.bool ae) (nU ae (.bool au)) (by cases ae<;>first|exact gA|exact gB|exact .inl ⟨rfl,(zDB (k:=.i64) (a:=t.mx) (b:=8) rfl rfl).trans (by rw[ag];try rfl)⟩) ?_;obtain ⟨a4,al⟩:∃e,(ae || au)=e:=⟨_,rfl⟩;refine qV (zAr (b:=ae) (v:=.bool a4) rfl (by rw[←al];cases ae<;>rfl)) (zAB ?_);subst al;subst ag;subst am;subst ah;subst ai;refine zBD (b:=(((decide ((t.mn:Int)<0)) || (decide ((t.mx:Int)<t.mn))) || (decide ((8:Int)<t.mx)))) rfl (fun h7=>?_) (fun h7=>?_)
     ·have az:=h7;simp at h7;refine zAA (qA (I6 1) rfl (zAB (zAV (zAi (zAU (zAY results103 (v:=(.int .i64 1)) rfl ?_))))));exact ⟨zBJ (by rw[if_pos qO]),E⟩
     ·have az:=h7;simp at h7;refine zAO (zAR (zAC (zAA (qA (I6 0) rfl (zAB (zAV (zAY results103 (v:=(.int .i64 0)) rfl ?_)))))));exact ⟨zBJ (by rw[if_neg qO]),E⟩
    ·rw[if_neg h6];refine zAA (qV (zAs (k:=.i64) (a:=t.kind) (b:=9) rfl rfl) (qA (.bool (decide ((t.kind:Int)=9))) rfl (zAB (qC rfl (fun h9=>?_) (fun h9=>?_)))))
     ·rw[if_pos h9];refine zAA (qF b1 0 3 rfl underlying26 rfl zAy rfl (qV (zAI (v:=(I6 t.mn)) rfl zAo (B1.cell rfl)) ?_));obtain ⟨af,aj⟩:∃e,(decide ((t.mn:Int)<0))=e:=⟨_,rfl⟩;refine qV ((zBF (k:=.i64) (a:=t.mn) (b:=0) rfl rfl).trans (by rw[aj];try rfl)) (qM (.bool af) rfl (qG (.bool af) (nU af (P6 b1 3)) (by cases af<;>first|exact gA|exact gB|exact .inl ⟨rfl,zAZ (b:=b1) (o:=0) (o':=3) rfl underlying26 rfl zAy rfl⟩) (qG (.bool af) (nU af (I6 t.mn)) (by cases af<;>first|exact gA|exact gB|exact .inl ⟨rfl,zAI (v:=(I6 t.mn)) rfl zAo (B1.cell rfl)⟩) ?_)));obtain ⟨ap,an⟩:∃e,(decide ((9:Int)<t.mn))=e:=⟨_,rfl⟩;refine qG (.bool af) (nU af (.bool ap)) (by cases af<;>first|exact gA|exact gB|exact .inl ⟨rfl,(zDB (k:=.i64) (a:=t.mn) (b:=9) rfl rfl).trans (by rw[an];try rfl)⟩) ?_;obtain ⟨a1,ak⟩:∃e,(af || ap)=e:=⟨_,rfl⟩;refine qV (zAr (b:=af) (v:=.bool a1) rfl (by rw[←ak];cases af<;>rfl)) (zAB ?_);subst ak;subst an;subst aj;refine zBD (b:=((decide ((t.mn:Int)<0)) || (decide ((9:Int)<t.mn)))) rfl (fun h8=>?_) (fun h8=>?_)
      ·have a6:=h8;simp at h8;refine zAA (qA (I6 1) rfl (zAB (zAV (zAi (zAU (zAY results103 (v:=(.int .i64 1)) rfl ?_))))));exact ⟨zBJ (by rw[if_pos qO]),E⟩
      ·have a6:=h8;simp at h8;refine zAO (zAR (zAC (zAA (qA (I6 0) rfl (zAB (zAV (zAY results103 (v:=(.int .i64 0)) rfl ?_)))))));exact ⟨zBJ (by rw[if_neg qO]),E⟩
     ·rw[if_neg h9];refine zAO (zAR (zAC (zAA (qA (I6 0) rfl (zAB (zAV (zAY results103 (v:=(.int .i64 0)) rfl ?_)))))));exact ⟨rfl,E⟩
def zSX:Int→Re→Bool×Int:=fun s _=>(true,IntKind.i64.wrap (s+1))
mutual
theorem zMq:∀(t:Re) (s:Int),0≤s→s+t.size≤9223372036854775807→zCc zSX t s=(true,s+t.size)
  | .mk k set args mn mx ng,s,h0,h1=>by
    simp only[Re.size] at h1⊢;rw[zEM];simp only[zSX,if_true,Re.args];rw[zBb qO];rw[zKi args (s+1) qO qO];simp;omega
theorem zKi:∀(ts:List Re) (s:Int),0≤s→s+Re.sizes ts≤9223372036854775807→zCS zSX ts s=(true,s+Re.sizes ts)
  | [],s,_,_=>by simp[zCS,Re.sizes]
  | t::ts,s,h0,h1=>by
    simp only[Re.sizes] at h1⊢;rw[zCb,zMq t s h0 qO];simp only[if_true];rw[zKi ts _ qO qO];simp;omega
end
theorem zTz (wb w0:World) (t:Re) (vs:List Value) (ht:zBB wb t vs) (b:Nat) (s:Int) (hB:Blk w0 b #[.int .i64 s] 3) :
  Ret prog 43 #[.agg vs.toArray,.pointer (some ⟨b,0,none⟩)] w0 fun v w=>v=.bool true∧Chg (fun x=>x=b) w0 w∧Blk w b #[.int .i64 (IntKind.i64.wrap (s+1))] 3:=by
 have ht0:=ht;obtain ⟨sa,sc,aa,ac,rfl,ad,ae,ab⟩:=ht.form;refine zDc func43 rfl ntmps43 (leT rfl) ?_;have E:Chg (fun x=>x=b) w0 w0:=Chg.refl _ _;refine zAA (zBQ (v:=(.agg (R6 t sa sc aa ac))) (c:=(R6 t sa sc aa ac)) qD rfl rfl ?_);intro b1 w1 N1;have F1:=N1.ge E;have O1_b:=N1.lt hB;replace hB:=N1.keep hB;replace E:=E.ext N1.ext;have B1:=N1.blk;refine qA (.bool false) rfl (zAB (zAA (qV (zAI (v:=(I6 s)) rfl zAo (hB.cell rfl)) (qV (zAv (k:=.i64) (a:=s) (b:=1) (c:=IntKind.i64.wrap (s+1)) rfl rfl (rfl)) (zBC (b:=b) (o:=0) (c':=#[(I6 (IntKind.i64.wrap (s+1)))]) (v:=(I6 (IntKind.i64.wrap (s+1)))) rfl rfl rfl zAy hB qP rfl ?_)))));intro w2 S2;replace B1:=S2.keep qO B1;replace E:=S2.step E qQ;replace hB:=S2.blk;refine zAB (zAA (qA (.bool true) rfl (zAB (zAV (zAY results43 (v:=(.bool true)) rfl ?_)))));exact ⟨rfl,E,hB⟩
theorem zTA (w0:World) (t:Re) (vs:List Value) (ht:zBB w0 t vs) (hs:t.size≤9223372036854775807) :
  Ret prog 15 #[.agg vs.toArray] w0 fun v w=>v=.int .i64 t.size∧Ext w0 w:=by
 have ad:=ht;have hw:=zMq t 0 qO qO;obtain ⟨sa,sc,aa,ac,rfl,ae,af,ab⟩:=ht.form;refine qR func15 rfl ntmps15 rfl (fun E=>(zAA (zBQ (v:=(.agg (R6 t sa sc aa ac))) (c:=(R6 t sa sc aa ac)) qD rfl rfl ?_)));intro b1 w1 N1;have F1:=N1.ge E;replace E:=E.ext N1.ext;have B1:=N1.blk;refine qA (I6 0) rfl (zAB (zAA (zAd (v:=(I6 0)) (c:=#[(I6 0)]) (n:=1) qD zDI rfl zAy rfl rfl rfl qS ?_)));intro b2 w2 N2;have F2:=N2.ge E;have O2_b1:=N2.lt B1;replace B1:=N2.keep B1;replace E:=E.ext N2.ext;have B2:=N2.blk;refine zAB (zAA (qV (zAK (vs:=[(I6 t.kind),(.slice sa t.set.length sc),(.slice aa t.args.length ac),(I6 t.mn),(I6 t.mx),(.bool t.neg)]) rfl zBc zAw rfl (B1.cells rfl)) (qV (zBV (vs:=[]) (us:=[(P6 b2 0)]) rfl rfl) ?_)));have hf:∀(s:Int) (w:World) (t:Re) (vs:List Value),b2+1≤w.heap.size→Ext w0 w→Blk w b2 #[.int .i64 s] 3→zBB w0 t vs→zCG prog (.func (.func 43) #[] #[.pointer (some ⟨b2,0,none⟩)]) #[.agg vs.toArray] w fun v w'=>v=.bool (zSX s t).1∧Chg (fun x=>x=b2) w w'∧Blk w' b2 #[.int .i64 (zSX s t).2] 3:=fun s w t vs _ _ hI ht=>zCG.mk (first:=#[]) (cap:=#[.pointer (some ⟨b2,0,none⟩)]) (args:=#[.agg vs.toArray]) func43 kQ kQ rfl (zTz w0 w t vs ht b2 s hI);refine qE rfl (zAQ (vs:=[(.agg (R6 t sa sc aa ac)),(.func (.func 43) #[] #[(P6 b2 0)])]) func42 kQ kQ rfl) (zPA zSX (fun s w=>Blk w b2 #[.int .i64 s] 3) (fun x=>x=b2) (b2+1) _ w0 (fun b hb=>qO) (fun s w w' hI e=>e.keep hI) hf t.size t (Nat.le_refl _) 0 _ _ (by have:=B2.lt;omega) E B2 ad) ?_;rintro _ w3 ⟨rfl,C3,B3⟩;replace B1:=C3.keep qO B1;replace E:=E.step C3 (by intro x hx hm;omega);refine zAB (zAA (qV (zAI (v:=(I6 ((zCc zSX t 0).2))) rfl zAo (B3.cell rfl)) (qA (I6 ((zCc zSX t 0).2)) rfl (zAB (zAV (zAY results15 (v:=(.int .i64 ((zCc zSX t 0).2))) rfl ?_))))));exact ⟨by rw[hw];simp,E⟩
end Go.Proofs
namespace Go.Proofs
open Go Go.Eng
set_option maxRecDepth 100000
def zFA (most:Int):Int×Int→Re→Bool×(Int×Int):=fun s t=>
 let n:=IntKind.i64.wrap (s.1+1)
 let e:=if most<n then 2 else zCU t
 (decide (e=0),(n,e))
def zCe (t:Re) (most:Int):Int:=(zCc (zFA most) t (0,0)).2.2
theorem zUd (wb w0:World) (t:Re) (vs:List Value) (ht:zBB wb t vs) (hE:Ext wb w0) (b1' b2' b3':Nat) (s:Int×Int) (most:Int) (h0:wb.heap.size≤b2') (h12:b2'<b1') (h13:b1'<b3')
  (hB1:Blk w0 b1' #[.int .i64 s.1] 3) (hB2:Blk w0 b2' #[.int .i64 most] 3) (hB3:Blk w0 b3' #[.int .i64 s.2] 29) :
  Ret prog 102 #[.agg vs.toArray,.pointer (some ⟨b1',0,none⟩),.pointer (some ⟨b2',0,none⟩),.pointer (some ⟨b3',0,none⟩)] w0
   fun v w=>v=.bool (zFA most s t).1∧Chg (fun x=>x=b1'∨x=b3') w0 w∧Blk w b1' #[.int .i64 (zFA most s t).2.1] 3∧Blk w b2' #[.int .i64 most] 3∧Blk w b3' #[.int .i64 (zFA most s t).2.2] 29:=by
 have ae:=ht;obtain ⟨sa,sc,aa,ac,rfl,af,ad,ab⟩:=ht.form;refine zDc func102 rfl ntmps102 (leT rfl) ?_;have E:Chg (fun x=>x=b1'∨x=b3') w0 w0:=Chg.refl _ _;refine zAA (zBQ (v:=(.agg (R6 t sa sc aa ac))) (c:=(R6 t sa sc aa ac)) qD rfl rfl ?_);intro b1 w1 N1;have O1_b1':=N1.lt hB1;have O1_b2':=N1.lt hB2;have O1_b3':=N1.lt hB3;replace hB1:=N1.keep hB1;replace hB2:=N1.keep hB2;replace hB3:=N1.keep hB3;replace E:=E.ext N1.ext;have B1:=N1.blk;refine qA (.bool false) rfl (zAB (zAH (zAA (qV (zAI (v:=(I6 s.1)) rfl zAo (hB1.cell rfl)) (qV (zAv (k:=.i64) (a:=s.1) (b:=1) (c:=IntKind.i64.wrap (s.1+1)) rfl rfl (rfl)) (zBC (b:=b1') (o:=0) (c':=#[(I6 (IntKind.i64.wrap (s.1+1)))]) (v:=(I6 (IntKind.i64.wrap (s.1+1)))) rfl rfl rfl zAy hB1 qP rfl ?_))))));intro w2 S2;replace hB2:=S2.keep qO hB2;replace hB3:=S2.keep qO hB3;replace B1:=S2.keep qO B1;replace E:=S2.step E qQ;replace hB1:=S2.blk;refine zAB (zAA (qV (zAI (v:=(I6 (IntKind.i64.wrap (s.1+1)))) rfl zAo (hB1.cell rfl)) (qV (zAI (v:=(I6 most)) rfl zAo (hB2.cell rfl)) (qV (zDB (k:=.i64) (a:=IntKind.i64.wrap (s.1+1)) (b:=most) rfl rfl) (zAB (qC rfl (fun h=>?_) (fun h=>?_)))))))
 ·refine zAF (zBC (b:=b3') (o:=0) (c':=#[(I6 2)]) (v:=(I6 2)) rfl rfl rfl zPQ hB3 qP rfl ?_);intro w4 S4;replace hB1:=S4.keep qO hB1;replace hB2:=S4.keep qO hB2;replace B1:=S4.keep qO B1;replace E:=S4.step E qQ;replace hB3:=S4.blk;refine zAB (zAC (zAA (qV (zAI (v:=(I6 2)) rfl zLW (hB3.cell rfl)) (qV (zAs (k:=.i64) (a:=2) (b:=0) rfl rfl) (qA (.bool false) rfl (zAB (zAV (zAY results102 (v:=(.bool false)) rfl ?_))))))));exact ⟨by simp[zFA,h],E,by simpa[zFA] using hB1,hB2,by simpa[zFA,h] using hB3⟩
 ·refine zAF (qV (zAK (vs:=[(I6 t.kind),(.slice sa t.set.length sc),(.slice aa t.args.length ac),(I6 t.mn),(I6 t.mx),(.bool t.neg)]) rfl zBc zAw rfl (B1.cells rfl)) (qE rfl (zAQ (vs:=[(.agg (R6 t sa sc aa ac))]) func103 kQ kQ rfl) (zWB wb _ t _ ae (Chg.step hE E fun x hx hm=>by rcases hm with hm|hm<;>omega)) ?_));rintro _ w9 ⟨rfl,X9⟩;replace hB1:=X9.keep hB1;replace hB2:=X9.keep hB2;replace hB3:=X9.keep hB3;replace B1:=X9.keep B1;replace E:=E.ext X9;refine zBC (b:=b3') (o:=0) (c':=#[(I6 (zCU t))]) (v:=(I6 (zCU t))) rfl rfl rfl zPQ hB3 qP rfl ?_;intro w5 S5;replace hB1:=S5.keep qO hB1;replace hB2:=S5.keep qO hB2;replace B1:=S5.keep qO B1;replace E:=S5.step E qQ;replace hB3:=S5.blk;refine zAB (zAC (zAA (qV (zAI (v:=(I6 (zCU t))) rfl zLW (hB3.cell rfl)) (qV (zAs (k:=.i64) (a:=zCU t) (b:=0) rfl rfl) (qA (.bool (decide ((zCU t:Int)=0))) rfl (zAB (zAV (zAY results102 (v:=(.bool (decide ((zCU t:Int)=0)))) rfl ?_))))))));exact ⟨by simp[zFA,h],E,by simpa[zFA] using hB1,hB2,by simpa[zFA,h] using hB3⟩
theorem zWO (w0:World) (t:Re) (vs:List Value) (ht:zBB w0 t vs) (most:Int) :
  Ret prog 62 #[.agg vs.toArray,.int .i64 most] w0 fun v w=>v=.int .i64 (zCe t most)∧Ext w0 w:=by
 have ae:=ht;obtain ⟨sa,sc,aa,ac,rfl,af,ad,ab⟩:=ht.form;refine qR func62 rfl ntmps62 rfl (fun E=>(zAA (zBQ (v:=(.agg (R6 t sa sc aa ac))) (c:=(R6 t sa sc aa ac)) qD rfl rfl ?_)));intro b1 w1 N1;have F1:=N1.ge E;replace E:=E.ext N1.ext;have B1:=N1.blk;refine zBQ (v:=(I6 most)) (c:=#[(I6 most)]) qD rfl rfl ?_;intro b2 w2 N2;have F2:=N2.ge E;have O2_b1:=N2.lt B1;replace B1:=N2.keep B1;replace E:=E.ext N2.ext;have B2:=N2.blk;refine qA (I6 0) rfl (zAB (zAA (zBH (c:=#[(I6 0)]) qD zDI rfl ?_)));intro b3 w3 N3;have F3:=N3.ge E;have O3_b1:=N3.lt B1;have O3_b2:=N3.lt B2;replace B1:=N3.keep B1;replace B2:=N3.keep B2;replace E:=E.ext N3.ext;have B3:=N3.blk;refine zBH (c:=#[(I6 0)]) qD zVO rfl ?_;intro b4 w4 N4;have F4:=N4.ge E;have O4_b1:=N4.lt B1;have O4_b2:=N4.lt B2;have O4_b3:=N4.lt B3;replace B1:=N4.keep B1;replace B2:=N4.keep B2;replace B3:=N4.keep B3;replace E:=E.ext N4.ext;have B4:=N4.blk;refine zBC (b:=b3) (o:=0) (c':=#[(I6 0)]) (v:=(I6 0)) rfl rfl rfl zAy B3 qP rfl ?_;intro w5 S5;replace B1:=S5.keep qO B1;replace B2:=S5.keep qO B2;replace B4:=S5.keep qO B4;replace E:=S5.step E qQ;replace B3:=S5.blk;refine zBC (b:=b4) (o:=0) (c':=#[(I6 0)]) (v:=(I6 0)) rfl rfl rfl zPQ B4 qP rfl ?_;intro w6 S6;replace B1:=S6.keep qO B1;replace B2:=S6.keep qO B2;replace B3:=S6.keep qO B3;replace E:=S6.step E qQ;replace B4:=S6.blk;refine zAB (zAA (qV (zAK (vs:=[(I6 t.kind),(.slice sa t.set.length sc),(.slice aa t.args.length ac),(I6 t.mn),(I6 t.mx),(.bool t.neg)]) rfl zBc zAw rfl (B1.cells rfl)) (qV (zBV (vs:=[]) (us:=[(P6 b3 0),(P6 b2 0),(P6 b4 0)]) rfl rfl) ?_)));have hf:∀(s:Int×Int) (w:World) (t:Re) (vs:List Value),b4+1≤w.heap.size→Ext w0 w→(Blk w b3 #[.int .i64 s.1] 3∧Blk w b2 #[.int .i64 most] 3∧Blk w b4 #[.int .i64 s.2] 29)→zBB w0 t vs→zCG prog (.func (.func 102) #[] #[.pointer (some ⟨b3,0,none⟩),.pointer (some ⟨b2,0,none⟩),.pointer (some ⟨b4,0,none⟩)]) #[.agg vs.toArray] w fun v w'=>v=.bool (zFA most s t).1∧Chg (fun x=>x=b3∨x=b4) w w'∧(Blk w' b3 #[.int .i64 (zFA most s t).2.1] 3∧Blk w' b2 #[.int .i64 most] 3∧Blk w' b4 #[.int .i64 (zFA most s t).2.2] 29):=fun s w t vs _ hE hI ht=>zCG.mk (first:=#[]) (cap:=#[.pointer (some ⟨b3,0,none⟩),.pointer (some ⟨b2,0,none⟩),.pointer (some ⟨b4,0,none⟩)]) (args:=#[.agg vs.toArray]) func102 kQ kQ rfl (zUd w0 w t vs ht hE b3 b2 b4 s most qO qO qO hI.1 hI.2.1 hI.2.2);refine qE rfl (zAQ (vs:=[(.agg (R6 t sa sc aa ac)),(.func (.func 102) #[] #[(P6 b3 0),(P6 b2 0),(P6 b4 0)])]) func42 kQ kQ rfl) (zPA (zFA most) (fun s w=>Blk w b3 #[.int .i64 s.1] 3∧Blk w b2 #[.int .i64 most] 3∧Blk w b4 #[.int .i64 s.2] 29) (fun x=>x=b3∨x=b4) (b4+1) _ w0 (fun b hb=>qO) (fun s w w' hI e=>⟨e.keep hI.1,e.keep hI.2.1,e.keep hI.2.2⟩) hf t.size t (Nat.le_refl _) (0,0) _ _ (by have:=B4.lt;omega) E ⟨B3,B2,B4⟩ ae) ?_;rintro _ w9 ⟨rfl,C9,B3',B2',B4'⟩;replace B1:=C9.keep qO B1;replace E:=E.step C9 (by intro x hx hm;omega);refine zAB (zAA (qV (zAI (v:=(I6 ((zCc (zFA most) t (0,0)).2.2))) rfl zLW (B4'.cell rfl)) (qA (I6 ((zCc (zFA most) t (0,0)).2.2)) rfl (zAB (zAV (zAY results62 (v:=(.int .i64 ((zCc (zFA most) t (0,0)).2.2))) rfl ?_))))));exact ⟨rfl,E⟩
theorem zKN (w0:World) (t:Re) (vs:List Value) (ht:zBB w0 t vs) :
  Ret prog 30 #[.agg vs.toArray] w0 fun v w=>v=.int .i64 (zCe t 40)∧Ext w0 w:=by
 have af:=ht;obtain ⟨sa,sc,aa,ac,rfl,ae,ad,ab⟩:=ht.form;refine qR func30 rfl ntmps30 rfl (fun E=>(zAA (zBQ (v:=(.agg (R6 t sa sc aa ac))) (c:=(R6 t sa sc aa ac)) qD rfl rfl ?_)));intro b1 w1 N1;replace E:=E.ext N1.ext;have B1:=N1.blk;refine qA (I6 0) rfl (zAB (zAA (qV (zAK (vs:=[(I6 t.kind),(.slice sa t.set.length sc),(.slice aa t.args.length ac),(I6 t.mn),(I6 t.mx),(.bool t.neg)]) rfl zBc zAw rfl (B1.cells rfl)) (qE rfl (zAQ (vs:=[(.agg (R6 t sa sc aa ac)),(I6 40)]) func62 kQ kQ rfl) (zWO _ t _ (zBB.ext E t af) 40) ?_))));rintro _ w9 ⟨rfl,X9⟩;replace B1:=X9.keep B1;replace E:=E.ext X9;refine qA (I6 (zCe t 40)) rfl (zAB (zAV (zAY results30 (v:=(.int .i64 (zCe t 40))) rfl ?_)));exact ⟨rfl,E⟩
end Go.Proofs
namespace Go.Proofs
open Go Go.Eng
set_option maxRecDepth 100000
theorem zPr (m:Nat) (h:m<4294967296):(BitVec.ofInt 32 (m:Int)).toNat=m:=by
 rw[BitVec.toNat_ofInt];omega
theorem zSj {P:Program} {w:World} (m n:Nat) (hm:m<4294967296) (hn:n<4294967296):(Op.intBits .and .u32 (m:Int) (n:Int)).run P w=.ok (.int .u32 ((m &&& n:Nat):Int)) w:=by
 have h1:m &&& n<4294967296:=Nat.lt_of_le_of_lt Nat.and_le_left hm;show Result.ok (Value.int .u32 (IntKind.u32.wrap ((BitVec.ofInt 32 (m:Int) &&& BitVec.ofInt 32 (n:Int):BitVec 32).toNat:Int))) w=_;rw[BitVec.toNat_and,zPr m hm,zPr n hn,zXb qO]
def zRL:List Nat:=[0,1,28,2,29,14,24,3,30,22,20,15,25,17,4,8,31,27,13,23,21,19,16,7,26,12,18,6,11,5,10,9]
def zMm (w:World):Prop:=∀(i v:Nat),zRL[i]?=some v→w.cell? ⟨0,i,none⟩=some (.int .u8 (v:Int))
theorem zMm.ext {w w':World} (h:zMm w) (e:Ext w w'):zMm w':=fun i v hv=>e.cell (h i v hv)
theorem shl1 {k:Nat} (h:k≤25):IntKind.u32.wrap (1*2 ^ (min ((k:Int)).toNat IntKind.u32.bits))=((2 ^ k:Nat):Int):=by
 have h1:(2:Nat) ^ k≤2 ^ 25:=Nat.pow_le_pow_right qO h;have h2:min ((k:Int)).toNat IntKind.u32.bits=k:=by simp[IntKind.bits];omega
 rw[h2,Int.one_mul,show ((2:Int) ^ k)=((2 ^ k:Nat):Int) from qP];simp only[Nat.reducePow] at h1;generalize (2:Nat) ^ k=p at h1⊢;exact zXb qO
end Go.Proofs
namespace Go.Proofs
open Go Go.Eng
set_option maxRecDepth 100000
mutual
def zFc:Re→Prop
  | .mk k set args mn mx ng=>zCU (.mk k set args mn mx ng)=0∧zEr args
def zEr:List Re→Prop
  | []=>True
  | t::ts=>zFc t∧zEr ts
end
theorem zPo {ts:List Re} (h:zEr ts) {i:Nat} {x:Re} (hx:ts[i]?=some x):zFc x:=by
  induction ts generalizing i with
  | nil=>simp at hx
  | cons t ts ih=>
    simp only[zEr] at h;cases i with
    | zero=>simp at hx;subst hx;exact h.1
    | succ i=>exact ih h.2 (by simpa using hx)
theorem zGG {t:Re} (h:zFc t):zCU t=0:=by cases t;simp only[zFc] at h;exact h.1
theorem zHo {t:Re} (h:zFc t):zEr t.args:=by cases t;simp only[zFc] at h;exact h.2
theorem zPp {t:Re} (h:zFc t):0≤t.kind∧t.kind≤10∧zFd t=true:=by
 have:=zGG h;unfold zCU at this;split at this
 ·omega
 ·rename_i hk
  split at this
  ·omega
  ·rename_i hf;exact ⟨qO,qO,by simpa using hf⟩
theorem zMX (t:Re):t.args.length<t.size:=by
  rw[Re.size_eq];have:∀ts:List Re,ts.length≤Re.sizes ts:=by
    intro ts
    induction ts with
    | nil=>simp
    | cons x r ih=>have:=x.size_pos;simp[Re.sizes];omega
  have:=this t.args;omega
theorem zFo {w0:World} {aa:Option Addr} {ts:List Re} (h:ts=[]∨∃b o,aa=some ⟨b,o,none⟩∧zCx w0 b o ts) (h0:0<ts.length):∃b o,aa=some ⟨b,o,none⟩∧zCx w0 b o ts:=by
 rcases h with h|h
 ·rw[h] at h0;simp at h0
 ·exact h
end Go.Proofs
namespace Go.Proofs
open Go Go.Eng
set_option maxRecDepth 100000
theorem zQd {most:Int} {n e:Int} (t:Re) (h0:0≤n) (h1:n≤1000000):zFA most (n,e) t=(decide ((if most<n+1 then 2 else zCU t)=0),(n+1,if most<n+1 then 2 else zCU t)):=by
 simp only[zFA];rw[zBb qO]
mutual
theorem zNi {most:Int} (hm:most≤1000000):∀(t:Re) (n e:Int),0≤n→n+t.size≤most→zFc t→zCc (zFA most) t (n,e)=(true,(n+t.size,0))
  | .mk k set args mn mx ng,n,e,h0,h1,hok=>by
    simp only[Re.size] at h1⊢;rw[zEM,zQd _ h0 qO];have hn:=zGG hok;have hlt:¬most<n+1:=qO
    simp only[if_neg hlt,hn,decide_true,if_true,Re.args];have ha:=zHo hok;simp only[Re.args] at ha;rw[zLX hm args (n+1) 0 qO qO ha rfl];simp;omega
theorem zLX {most:Int} (hm:most≤1000000):∀(ts:List Re) (n e:Int),0≤n→n+Re.sizes ts≤most→zEr ts→e=0→zCS (zFA most) ts (n,e)=(true,(n+Re.sizes ts,0))
  | [],n,e,_,_,_,he=>by simp[zCS,Re.sizes,he]
  | t::ts,n,e,h0,h1,hok,he=>by
    simp only[Re.sizes] at h1⊢;simp only[zEr] at hok;rw[zCb,zNi hm t n e h0 qO hok.1];simp only[if_true];rw[zLX hm ts _ _ qO qO hok.2 rfl];simp;omega
end
mutual
theorem zQc {most:Int} (hm:most≤1000000):∀(t:Re) (n e:Int),0≤n→n≤most→(zCc (zFA most) t (n,e)).1=true→zFc t∧n+t.size≤most∧(zCc (zFA most) t (n,e)).2=(n+t.size,0)
  | .mk k set args mn mx ng,n,e,h0,h1,h=>by
    rw[zEM,zQd _ h0 qO] at h⊢;by_cases hc:(if most<n+1 then 2 else zCU (.mk k set args mn mx ng))=0
    · have hlt:¬most<n+1:=by intro h';rw[if_pos h'] at hc;omega
      rw[if_neg hlt] at hc;simp only[if_neg hlt,hc,decide_true,if_true,Re.args] at h⊢;obtain ⟨a,b,c⟩:=zNj hm args (n+1) 0 qO qO h rfl;refine ⟨by simp only[zFc];exact ⟨hc,a⟩,by simp only[Re.size];omega,by rw[c];simp only[Re.size];simp;omega⟩
    · simp[hc] at h
theorem zNj {most:Int} (hm:most≤1000000):∀(ts:List Re) (n e:Int),0≤n→n≤most→(zCS (zFA most) ts (n,e)).1=true→e=0→zEr ts∧n+Re.sizes ts≤most∧(zCS (zFA most) ts (n,e)).2=(n+Re.sizes ts,0)
  | [],n,e,_,h1,_,he=>by simp[zCS,Re.sizes,zEr,he];omega
  | t::ts,n,e,h0,h1,h,he=>by
    rw[zCb] at h⊢;by_cases hc:(zCc (zFA most) t (n,e)).1=true
    · rw[if_pos hc] at h⊢;obtain ⟨a,b,c⟩:=zQc hm t n e h0 h1 hc;rw[c] at h⊢;obtain ⟨a',b',c'⟩:=zNj hm ts _ _ qO b h rfl;exact ⟨by simp only[zEr];exact ⟨a,a'⟩,by simp only[Re.sizes];omega,by rw[c'];simp only[Re.sizes];simp;omega⟩
    · rw[if_neg hc] at h;simp at h
end
mutual
theorem zLY {most:Int}:∀(t:Re) (s:Int×Int),(zCc (zFA most) t s).1=decide ((zCc (zFA most) t s).2.2=0)
  | .mk k set args mn mx ng,s=>by
    rw[zEM];by_cases hc:(zFA most s (.mk k set args mn mx ng)).1=true
    · rw[if_pos hc];exact zJR args _ (by simpa[zFA] using hc)
    · rw[if_neg hc];have h2:(zFA most s (.mk k set args mn mx ng)).1=false:=by simpa using hc
      simp only[zFA] at h2⊢;exact h2.symm
theorem zJR {most:Int}:∀(ts:List Re) (s:Int×Int),s.2=0→(zCS (zFA most) ts s).1=decide ((zCS (zFA most) ts s).2.2=0)
  | [],s,h=>by simp[zCS,h]
  | t::ts,s,h=>by
    rw[zCb];have:=zLY (most:=most) t s;by_cases hc:(zCc (zFA most) t s).1=true
    · rw[if_pos hc];rw[hc] at this;exact zJR ts _ (by simpa using this.symm)
    · rw[if_neg hc];have h2:(zCc (zFA most) t s).1=false:=by simpa using hc
      rw[h2] at this;exact this
end
theorem zCK {t:Re} {most:Int} (h0:0≤most) (hm:most≤1000000):zCe t most=0↔zFc t∧(t.size:Int)≤most:=by
 unfold zCe;constructor
 ·intro h;have h1:=zLY (most:=most) t (0,0);rw[h] at h1;obtain ⟨a,b,_⟩:=zQc hm t 0 0 (Int.le_refl 0) h0 (by simpa using h1);exact ⟨a,qO⟩
 ·rintro ⟨a,b⟩;rw[zNi hm t 0 0 (Int.le_refl 0) qO a]
def zIN (t:Re) (text:List Int):Int:=if zCe t 40≠0 then zCe t 40 else if 24<text.length then 2 else if (text.any fun r=>!zHL r)=true then 1 else 0
theorem zRd (w0:World) (t:Re) (vs:List Value) (vt:Value) (text:List Int) (ht:zBB w0 t vs) (htx:zBZ w0 vt text) :
  Ret prog 58 #[.agg vs.toArray,vt] w0 fun v w=>v=.int .i64 (zIN t text)∧Ext w0 w:=by
 have ag:=ht;obtain ⟨sa,sc,aa,ac,rfl,ah,af,ae⟩:=ht.form;obtain ⟨ta,tc,rfl⟩:=zCI.form htx;simp only[List.length_map] at htx⊢;refine qR func58 rfl ntmps58 rfl (fun E=>(zAA (zBQ (v:=(.agg (R6 t sa sc aa ac))) (c:=(R6 t sa sc aa ac)) qD rfl rfl ?_)));intro b1 w1 N1;replace E:=E.ext N1.ext;have B1:=N1.blk;refine qA (I6 0) rfl (zAB (zAH (zAA (qV (zAK (vs:=[(I6 t.kind),(.slice sa t.set.length sc),(.slice aa t.args.length ac),(I6 t.mn),(I6 t.mx),(.bool t.neg)]) rfl zBc zAw rfl (B1.cells rfl)) (qE rfl (zAQ (vs:=[(.agg (R6 t sa sc aa ac))]) func30 kQ kQ rfl) (zKN _ t _ (zBB.ext E t ag)) ?_)))));rintro _ w9 ⟨rfl,X9⟩;replace B1:=X9.keep B1;replace E:=E.ext X9;refine qA (I6 (zCe t 40)) rfl (zAB (zAA (qM (I6 (zCe t 40)) rfl (qV (zDA (k:=.i64) (a:=zCe t 40) (b:=0) rfl rfl) (zAB (qC rfl (fun h1=>?_) (fun h1=>?_)))))))
 ·refine zAA (qM (I6 (zCe t 40)) rfl (qA (I6 (zCe t 40)) rfl (zAB (zAV (zAU (zAY results58 (v:=(.int .i64 (zCe t 40))) rfl ?_))))));exact ⟨zBJ (by unfold zIN;rw[if_pos h1]),E⟩
 ·refine zAO (zAC (zAH (zAA (qM (.slice ta text.length tc) rfl (qV (zAJ (ad:=ta) (n:=text.length) (cap:=tc) underlying22 rfl) (qV (zDB (k:=.i64) (a:=(text.length:Int)) (b:=24) rfl rfl) (zAB (qC rfl (fun h2=>?_) (fun h2=>?_)))))))))
  ·refine zAA (qA (I6 2) rfl (zAB (zAV (zAU (zAY results58 (v:=(.int .i64 2)) rfl ?_)))));exact ⟨zBJ (by unfold zIN;rw[if_neg h1,if_pos qO]),E⟩
  ·refine zAO (zAC (zAH (zAA (qM (.slice ta text.length tc) rfl (qE rfl (zAQ (vs:=[(.slice ta text.length tc)]) func96 kQ kQ rfl) (zUB _ _ text (htx.ext E)) ?_)))));rintro _ w19 ⟨rfl,ab⟩;replace B1:=ab.keep B1;replace E:=E.ext ab;refine qV (zCa (b:=!(text.any fun r=>!zHL r)) rfl) (zAB (zBD (b:=!(!(text.any fun r=>!zHL r))) rfl (fun h3=>?_) (fun h3=>?_)))
   ·have ai:=h3;replace h3:=by simpa using h3
    replace h3:=by simpa using h3
    refine zAA (qA (I6 1) rfl (zAB (zAV (zAU (zAY results58 (v:=(.int .i64 1)) rfl ?_)))));exact ⟨zBJ (by unfold zIN;rw[if_neg h1,if_neg qO,if_pos (by simpa using h3)]),E⟩
   ·have ai:=h3;replace h3:=by simpa using h3
    replace h3:=by simpa using h3
    refine zAO (zAC (zAA (qA (I6 0) rfl (zAB (zAV (zAY results58 (v:=(.int .i64 0)) rfl ?_))))));exact ⟨zBJ (by unfold zIN;rw[if_neg h1,if_neg qO,if_neg (by simpa using h3)]),E⟩
end Go.Proofs
namespace Go.Proofs
open Go Go.Eng
set_option maxRecDepth 100000
mutual
def zDp (p:Re→Prop):Re→Prop
  | .mk k set args mn mx ng=>p (.mk k set args mn mx ng)∧zCv p args
def zCv (p:Re→Prop):List Re→Prop
  | []=>True
  | t::ts=>zDp p t∧zCv p ts
end
def zKb (kinds:Int) (t:Re):Prop:=zCU t=0∧t.kind≤kinds∧(t.kind=2→∃lo hi,t.set=[(lo,hi)]∧97≤lo∧lo≤hi∧hi≤100)
mutual
theorem zQW {kinds:Int}:∀(t:Re),zDp (zKb kinds) t→zFc t
  | .mk k set args mn mx ng,h=>by simp only[zDp] at h;simp only[zFc];exact ⟨h.1.1,zQV args h.2⟩
theorem zQV {kinds:Int}:∀(ts:List Re),zCv (zKb kinds) ts→zEr ts
  | [],_=>by simp only[zEr]
  | t::ts,h=>by simp only[zCv] at h;simp only[zEr];exact ⟨zQW t h.1,zQV ts h.2⟩
end
theorem zGu.put {wb w w':World} {bs b:Nat} {l:List Int} {c:Array Value} {t:TypeId} (h:zGu wb w bs l) (s:Put w w' b c t) (hne:bs≠b):zGu wb w' bs l:=
 let ⟨a,c,h1,h2⟩:=h;⟨a,c,s.keep hne h1,h2⟩
theorem zLA {k:Int} (h:k=0∨k=1):zCU (.mk k [] [] 0 0 false)=0:=by
 rcases h with rfl|rfl<;>decide
theorem zRq {lo hi:Int} (h1:0≤lo) (h2:lo≤hi) (h3:hi≤1114111):zCU (.mk 2 [(lo,hi)] [] 0 0 false)=0:=by
 simp[zCU,zFd,okB,zBR,zER,zFB,Re.kind,Re.set,Re.args,Re.mn,Re.mx,Re.neg,h1,h2,h3]
theorem zJs {k:Int} (h:k=3∨k=4∨k=7) (t u:Re):zCU (.mk k [] [t,u] 0 0 false)=0:=by
 rcases h with rfl|rfl|rfl<;>simp[zCU,zFd,okB,Re.kind,Re.set,Re.args,Re.mn,Re.mx,Re.neg]
theorem zRr {mn mx:Int} (h0:0≤mn) (h1:mn≤mx) (h2:mx≤8) (t:Re):zCU (.mk 6 [] [t] mn mx false)=0:=by
 simp[zCU,zFd,okB,Re.kind,Re.set,Re.args,Re.mn,Re.mx,Re.neg];omega
theorem zOJ {mn:Int} (h0:0≤mn) (h1:mn≤9) (t:Re):zCU (.mk 9 [] [t] mn 0 false)=0:=by
 simp[zCU,zFd,okB,Re.kind,Re.set,Re.args,Re.mn,Re.mx,Re.neg];omega
theorem zPw (ng:Bool) (t:Re):zCU (.mk 10 [] [t] 0 0 ng)=0:=by
 simp[zCU,zFd,okB,Re.kind,Re.set,Re.args,Re.mn,Re.mx,Re.neg]
theorem zRs {k:Int} (h:k=5∨k=8) (t:Re):zCU (.mk k [] [t] 0 0 false)=0:=by
 rcases h with rfl|rfl<;>simp[zCU,zFd,okB,Re.kind,Re.set,Re.args,Re.mn,Re.mx,Re.neg]
theorem zGK {kinds k mn mx:Int} {ng:Bool} {ts:List Re} (hk:k≤kinds) (h2:k≠2) (hn:zCU (.mk k [] ts mn mx ng)=0) (ht:zCv (zKb kinds) ts):zDp (zKb kinds) (.mk k [] ts mn mx ng):=by
 simp only[zDp];exact ⟨⟨hn,hk,fun h=>absurd h h2⟩,ht⟩
theorem zQU {d:Nat} (h:1≤d):2 ^ (d - 1+1)=2 ^ d:=by rw[Nat.sub_add_cancel h]
theorem zGJ {d:Nat} (h:1≤d) {t:Re} (hs:t.size+1≤2 ^ (d - 1+1)) {k mn mx:Int} {set:List (Int×Int)} {ng:Bool}:(Re.mk k set [t] mn mx ng).size+1≤2 ^ (d+1):=by
 rw[zQU h] at hs;simp only[Re.size,Re.sizes,Nat.pow_succ];have:=t.size_pos;omega
theorem zIE {d:Nat} (h:1≤d) {t u:Re} (hs:t.size+1≤2 ^ (d - 1+1)) (hu:u.size+1≤2 ^ (d - 1+1)) {k mn mx:Int} {set:List (Int×Int)} {ng:Bool}:(Re.mk k set [t,u] mn mx ng).size+1≤2 ^ (d+1):=by
 rw[zQU h] at hs hu;simp only[Re.size,Re.sizes,Nat.pow_succ];omega
theorem zXM (wb:World) (bs:Nat) (kinds:Int) (hk:kinds=8∨kinds=10) (hb:wb.heap.size≤bs):∀(d:Nat),d≤4→∀(w0:World) (l:List Int),Ext wb w0→zGu wb w0 bs l→
    Ret prog 29 #[.pointer (some ⟨bs,0,none⟩),.int .i64 ((d:Nat):Int),.int .i64 kinds] w0 fun v w=>∃t vs l',v=.agg vs.toArray∧zDp (zKb kinds) t∧t.size+1≤2 ^ (d+1)∧zBw (fun b=>w0.heap.size≤b) w t vs∧zGu wb w bs l'∧Chg (fun x=>x=bs) w0 w:=by
  intro d
  induction d using Nat.strongRecOn with
  | _ d ih=>
  intro hd4 w0 l hE hS;have bg:=hS.lt;have ah:∀{w:World},Chg (fun x=>x=bs) w0 w→Ext wb w:=fun c=>Chg.step hE c fun x hx hm=>by have al:x=bs:=hm;omega
  refine zDc func29 rfl ntmps29 (leT rfl) ?_;have E:Chg (fun x=>x=bs) w0 w0:=Chg.refl _ _;refine zAA (zBH (c:=#[(I6 0),(.slice none 0 0),(.slice none 0 0),(I6 0),(I6 0),(.bool false)]) qD zEH rfl ?_);intro b1 w1 N1;have F1:=N1.ge E;replace hS:=hS.ext N1.ext;replace E:=E.ext N1.ext;have B1:=N1.blk;refine zAB (zAA (qM (P6 bs 0) rfl (qM (I6 kinds) rfl (qV (zAv (k:=.i64) (a:=kinds) (b:=1) (c:=kinds+1) rfl rfl (zBb qO)) ?_))));have aa:b1≠bs:=qO
  refine qE rfl (zAQ (vs:=[(P6 bs 0),(I6 (kinds+1))]) func61 kQ kQ rfl) (zHB wb _ bs _ _ qO qO (ah E) hb hS) ?_;rintro _ w2 ⟨k0,l1,rfl,hk0,hk1,hS,C2⟩;replace B1:=C2.keep (aa) B1;replace E:=E.trans C2;refine qA (I6 k0) rfl (zAB (zGU (fun σ W2=>∃(k:Int) (l1:List Int),(∃jj_,σ=zCT jj_ [(0,(P6 bs 0)),(1,(I6 (d:Int))),(2,(I6 kinds)),(6,(P6 b1 0)),(7,(I6 k))])∧Chg (fun x=>x=bs) w0 W2∧Blk W2 b1 #[(I6 0),(.slice none 0 0),(.slice none 0 0),(I6 0),(I6 0),(.bool false)] 26∧(zGu wb W2 bs l1)∧(0≤k∧k≤kinds∧(d=0→k<3))) ?_ ?_))
  · skip
    refine zAA (qM (I6 (d:Int)) rfl (qV (zAs (k:=.i64) (a:=(d:Int)) (b:=0) rfl rfl) (zAB (qC rfl (fun hd=>?_) (fun hd=>?_)))))
    · refine zAF (qM (P6 bs 0) rfl (qE rfl (zAQ (vs:=[(P6 bs 0),(I6 3)]) func61 kQ kQ rfl) (zHB wb _ bs _ _ qO qO (ah E) hb hS) ?_));rintro _ w3 ⟨k2,l2,rfl,hk2,hk3,hS,C3⟩;replace B1:=C3.keep (aa) B1;replace E:=E.trans C3;refine qA (I6 k2) rfl (zAB (zAC ?_));exact ⟨k2,l2,zAz.out ⟨rfl,rfl,rfl,rfl,rfl,trivial⟩,E,B1,hS,qO⟩
    · refine zAO (zAC ?_);exact ⟨k0,l1,zAz.out ⟨rfl,rfl,rfl,rfl,rfl,trivial⟩,E,B1,hS,qO⟩
  · clear E B1;rintro _ W2 ⟨k,l1,⟨j2,rfl⟩,E,B1,hS,ay⟩;refine zAH (zAA (qM (I6 k) rfl (zAB (zAS (zAH (zAA (qV (zAs (k:=.i64) (a:=k) (b:=0) rfl rfl) (qA (.bool (decide ((k:Int)=0))) rfl (zAB (qC rfl (fun h0=>?_) (fun h0=>?_)))))))))))
    · have bb:=decide_eq_true h0;refine zAO (zAC (zAk (cbk bb) (zAA (qM (I6 k) rfl (qV (zBA (ps:=[(0,(I6 k))]) (v:=(.agg #[(I6 k),(.slice none 0 0),(.slice none 0 0),(I6 0),(I6 0),(.bool false)])) rfl qK) (zAb (b:=b1) (o:=0) (c':=#[(I6 k),(.slice none 0 0),(.slice none 0 0),(I6 0),(I6 0),(.bool false)]) rfl rfl qS zAw rfl B1 qL rfl ?_))))));intro w5 S5;replace hS:=hS.put S5 (Ne.symm aa);replace E:=S5.step E qQ;replace B1:=S5.blk;refine zAB (zAV (zAi (zAU (zBm results29 (vs:=[(.int .i64 k),(.slice none 0 0),(.slice none 0 0),(.int .i64 0),(.int .i64 0),(.bool false)]) (b:=b1) rfl zBc zAw rfl (B1.cells rfl) ?_))));exact ⟨.mk k [] [] 0 0 false,_,l1,rfl,zGK ay.2.1 qO (zLA qO) (by simp only[zCv]),by simp only[Re.size,Re.sizes];have:=Nat.two_pow_pos d;rw[Nat.pow_succ];omega,zBw.of (set:=[]) (zFf.nil _ _ _ _ _) qP (.inl rfl),hS,E⟩
    · have bb:=decide_eq_false h0;refine zAF (qV (zAs (k:=.i64) (a:=k) (b:=1) rfl rfl) (qA (.bool (decide ((k:Int)=1))) rfl (zAB (zAC (qC rfl (fun h1=>?_) (fun h1=>?_))))))
      · refine zAA (qM (I6 k) rfl (qV (zBA (ps:=[(0,(I6 k))]) (v:=(.agg #[(I6 k),(.slice none 0 0),(.slice none 0 0),(I6 0),(I6 0),(.bool false)])) rfl qK) (zAb (b:=b1) (o:=0) (c':=#[(I6 k),(.slice none 0 0),(.slice none 0 0),(I6 0),(I6 0),(.bool false)]) rfl rfl qS zAw rfl B1 qL rfl ?_)));intro w7 S7;replace hS:=hS.put S7 (Ne.symm aa);replace E:=S7.step E qQ;replace B1:=S7.blk;refine zAB (zAV (zAi (zAU (zBm results29 (vs:=[(.int .i64 k),(.slice none 0 0),(.slice none 0 0),(.int .i64 0),(.int .i64 0),(.bool false)]) (b:=b1) rfl zBc zAw rfl (B1.cells rfl) ?_))));exact ⟨.mk k [] [] 0 0 false,_,l1,rfl,zGK ay.2.1 qO (zLA qO) (by simp only[zCv]),by simp only[Re.size,Re.sizes];have:=Nat.two_pow_pos d;rw[Nat.pow_succ];omega,zBw.of (set:=[]) (zFf.nil _ _ _ _ _) qP (.inl rfl),hS,E⟩
      · refine zAA (qV (zAs (k:=.i64) (a:=k) (b:=2) rfl rfl) (qA (.bool (decide ((k:Int)=2))) rfl (zAB (qC rfl (fun h2=>?_) (fun h2=>?_)))))
        · refine zAA (qM (P6 bs 0) rfl (qE rfl (zAQ (vs:=[(P6 bs 0),(I6 3)]) func61 kQ kQ rfl) (zHB wb _ bs _ _ qO qO (ah E) hb hS) ?_));rintro _ w5 ⟨x,l2,rfl,a7,a8,hS,C5⟩;replace B1:=C5.keep (aa) B1;replace E:=E.trans C5;refine qV (zAv (k:=.i64) (a:=97) (b:=x) (c:=97+x) rfl rfl (zBb qO)) (qA (I6 (97+x)) rfl (zAB (zAA (qM (I6 k) rfl (qM (I6 (97+x)) rfl (qM (I6 (97+x)) rfl (qM (P6 bs 0) rfl (qE rfl (zAQ (vs:=[(P6 bs 0),(I6 2)]) func61 kQ kQ rfl) (zHB wb _ bs _ _ qO qO (ah E) hb hS) ?_))))))));rintro _ w6 ⟨y,l3,rfl,bf,bh,hS,C6⟩;replace B1:=C6.keep (aa) B1;replace E:=E.trans C6;refine qV (zAv (k:=.i64) (a:=97+x) (b:=y) (c:=(97+x)+y) rfl rfl (zBb qO)) (qV (zBA (ps:=[(0,(I6 (97+x))),(1,(I6 ((97+x)+y)))]) (v:=(.agg #[(I6 (97+x)),(I6 ((97+x)+y))])) rfl qK) (zAc (ps:=[(0,(.agg #[(I6 (97+x)),(I6 ((97+x)+y))]))]) (c:=#[(I6 (97+x)),(I6 ((97+x)+y))]) qD rfl underlying23 zBq zEG qD qD qK ?_));intro bq wq Nq;have Fq:=Nq.ge E;have Oq_b1:=Nq.lt B1;replace B1:=Nq.keep B1;replace hS:=hS.ext Nq.ext;replace E:=E.ext Nq.ext;have Bq:=Nq.blk;refine qV (zBA (ps:=[(0,(I6 k)),(1,(.slice (some ⟨bq,0,none⟩) 1 1))]) (v:=(.agg #[(I6 k),(.slice (some ⟨bq,0,none⟩) 1 1),(.slice none 0 0),(I6 0),(I6 0),(.bool false)])) rfl qK) (zAb (b:=b1) (o:=0) (c':=#[(I6 k),(.slice (some ⟨bq,0,none⟩) 1 1),(.slice none 0 0),(I6 0),(I6 0),(.bool false)]) rfl rfl qS zAw rfl B1 qL rfl ?_);intro w9 S9;replace hS:=hS.put S9 (Ne.symm aa);replace Bq:=S9.keep qO Bq;replace E:=S9.step E qQ;replace B1:=S9.blk;refine zAB (zAV (zAi (zAU (zBm results29 (vs:=[(.int .i64 k),(.slice (some ⟨bq,0,none⟩) 1 1),(.slice none 0 0),(.int .i64 0),(.int .i64 0),(.bool false)]) (b:=b1) rfl zBc zAw rfl (B1.cells rfl) ?_))));exact ⟨.mk k [(97+x,97+x+y)] [] 0 0 false,_,l3,rfl,by subst h2;simp only[zDp,zCv];exact ⟨⟨zRq qO qO qO,ay.2.1,fun _=>⟨_,_,rfl,qO,qO,qO⟩⟩,trivial⟩,by simp only[Re.size,Re.sizes];have:=Nat.two_pow_pos d;rw[Nat.pow_succ];omega,zBw.of (set:=[(97+x,97+x+y)]) (zFf.mk (zGy [(97+x,97+x+y)] Bq qP qP) qO) qP (.inl rfl),hS,E⟩
        · refine zAH (zAA (qV (zAs (k:=.i64) (a:=k) (b:=3) rfl rfl) (qA (.bool (decide ((k:Int)=3))) rfl (zAB (qC rfl (fun h3=>?_) (fun h3=>?_))))))
          · have bc:=decide_eq_true h3;have am:1≤d:=qO
            have aj:=B1.lt;have av:=E.size;refine zAO (zAC (zAk (cbk bc) (zAA (qM (I6 k) rfl (qM (P6 bs 0) rfl (qM (I6 (d:Int)) rfl (qV (zEJ (k:=.i64) (a:=(d:Int)) (b:=1) (c:=((d - 1:Nat):Int)) rfl rfl (by rw[zBb qO];omega)) (qM (I6 kinds) rfl (qE rfl (zAQ (vs:=[(P6 bs 0),(I6 ((d - 1:Nat):Int)),(I6 kinds)]) func29 kQ kQ rfl) (ih (d - 1) qO qO _ _ (ah E) hS) ?_)))))))));rintro _ w5 ⟨t1,ax,l5,rfl,ai,ak,ab,hS,C5⟩;replace B1:=C5.keep (aa) B1;replace E:=E.trans C5;obtain ⟨ag,ac,ad,ae,rfl,_,_,_⟩:=ab.form;have a1:=B1.lt;have a9:=E.size;refine qM (P6 bs 0) rfl (qM (I6 (d:Int)) rfl (qV (zEJ (k:=.i64) (a:=(d:Int)) (b:=1) (c:=((d - 1:Nat):Int)) rfl rfl (by rw[zBb qO];omega)) (qM (I6 kinds) rfl (qE rfl (zAQ (vs:=[(P6 bs 0),(I6 ((d - 1:Nat):Int)),(I6 kinds)]) func29 kQ kQ rfl) (ih (d - 1) qO qO _ _ (ah E) hS) ?_))));rintro _ w6 ⟨t2,bd,l6,rfl,a5,a6,af,hS,C6⟩;replace B1:=C6.keep (aa) B1;replace E:=E.trans C6;obtain ⟨ap,ar,aq,ao,rfl,_,_,_⟩:=af.form;replace ab:=zBw.chg C6 (fun x hx hm=>by have an:=hx;have al:x=bs:=hm;have:=E.size;omega) t1 ab;refine zAc (ps:=[(0,(.agg (R6 t1 ag ac ad ae))),(1,(.agg (R6 t2 ap ar aq ao)))]) (c:=#[(I6 t1.kind),(.slice ag t1.set.length ac),(.slice ad t1.args.length ae),(I6 t1.mn),(I6 t1.mx),(.bool t1.neg),(I6 t2.kind),(.slice ap t2.set.length ar),(.slice aq t2.args.length ao),(I6 t2.mn),(I6 t2.mx),(.bool t2.neg)]) qD rfl underlying24 zAw zEH qD qD qK ?_;intro bq wq Nq;have Fq:=Nq.ge E;have Oq_b1:=Nq.lt B1;replace B1:=Nq.keep B1;replace hS:=hS.ext Nq.ext;replace ab:=zBw.ext Nq.ext t1 ab;replace af:=zBw.ext Nq.ext t2 af;replace E:=E.ext Nq.ext;have Bq:=Nq.blk;refine qV (zBA (ps:=[(0,(I6 k)),(2,(.slice (some ⟨bq,0,none⟩) 2 2))]) (v:=(.agg #[(I6 k),(.slice none 0 0),(.slice (some ⟨bq,0,none⟩) 2 2),(I6 0),(I6 0),(.bool false)])) rfl qK) (zAb (b:=b1) (o:=0) (c':=#[(I6 k),(.slice none 0 0),(.slice (some ⟨bq,0,none⟩) 2 2),(I6 0),(I6 0),(.bool false)]) rfl rfl qS zAw rfl B1 qL rfl ?_);intro w11 au;replace hS:=hS.put au (Ne.symm aa);replace ab:=zBw.chg au.chg (fun x hx hm=>by have an:=hx;have al:x=b1:=hm;omega) t1 ab;replace af:=zBw.chg au.chg (fun x hx hm=>by have an:=hx;have al:x=b1:=hm;omega) t2 af;replace Bq:=au.keep qO Bq;replace E:=au.step E qQ;replace B1:=au.blk;refine zAB (zAV (zAi (zAU (zBm results29 (vs:=[(.int .i64 k),(.slice none 0 0),(.slice (some ⟨bq,0,none⟩) 2 2),(.int .i64 0),(.int .i64 0),(.bool false)]) (b:=b1) rfl zBc zAw rfl (B1.cells rfl) ?_))));exact ⟨.mk k [] [t1,t2] 0 0 false,_,l6,rfl,zGK ay.2.1 qO (zJs qO t1 t2) (by simp only[zCv];exact ⟨ai,a5,trivial⟩),zIE am ak a6,zBw.of (set:=[]) (zFf.nil _ _ _ _ _) qP (.inr ⟨bq,0,qO,rfl,zCQ.two (Bq.cells rfl) (zBw.mono (fun b (h:_≤b)=>qO) t1 ab) (Bq.cells rfl) (zBw.mono (fun b (h:_≤b)=>qO) t2 af)⟩),hS,E⟩
          · have bc:=decide_eq_false h3;refine zAA (qV (zAs (k:=.i64) (a:=k) (b:=4) rfl rfl) (qA (.bool (decide ((k:Int)=4))) rfl (zAB (qC rfl (fun h4=>?_) (fun h4=>?_)))))
            · have be:=decide_eq_true h4;have am:1≤d:=qO
              have aj:=B1.lt;have av:=E.size;refine zAO (zAC (zAk (cbk be) (zAA (qM (I6 k) rfl (qM (P6 bs 0) rfl (qM (I6 (d:Int)) rfl (qV (zEJ (k:=.i64) (a:=(d:Int)) (b:=1) (c:=((d - 1:Nat):Int)) rfl rfl (by rw[zBb qO];omega)) (qM (I6 kinds) rfl (qE rfl (zAQ (vs:=[(P6 bs 0),(I6 ((d - 1:Nat):Int)),(I6 kinds)]) func29 kQ kQ rfl) (ih (d - 1) qO qO _ _ (ah E) hS) ?_)))))))));rintro _ w5 ⟨t1,ax,l5,rfl,ai,ak,ab,hS,C5⟩;replace B1:=C5.keep (aa) B1;replace E:=E.trans C5;obtain ⟨ag,ac,ad,ae,rfl,_,_,_⟩:=ab.form;have a1:=B1.lt;have a9:=E.size;refine qM (P6 bs 0) rfl (qM (I6 (d:Int)) rfl (qV (zEJ (k:=.i64) (a:=(d:Int)) (b:=1) (c:=((d - 1:Nat):Int)) rfl rfl (by rw[zBb qO];omega)) (qM (I6 kinds) rfl (qE rfl (zAQ (vs:=[(P6 bs 0),(I6 ((d - 1:Nat):Int)),(I6 kinds)]) func29 kQ kQ rfl) (ih (d - 1) qO qO _ _ (ah E) hS) ?_))));rintro _ w6 ⟨t2,bd,l6,rfl,a5,a6,af,hS,C6⟩;replace B1:=C6.keep (aa) B1;replace E:=E.trans C6;obtain ⟨ap,ar,aq,ao,rfl,_,_,_⟩:=af.form;replace ab:=zBw.chg C6 (fun x hx hm=>by have an:=hx;have al:x=bs:=hm;have:=E.size;omega) t1 ab;refine zAc (ps:=[(0,(.agg (R6 t1 ag ac ad ae))),(1,(.agg (R6 t2 ap ar aq ao)))]) (c:=#[(I6 t1.kind),(.slice ag t1.set.length ac),(.slice ad t1.args.length ae),(I6 t1.mn),(I6 t1.mx),(.bool t1.neg),(I6 t2.kind),(.slice ap t2.set.length ar),(.slice aq t2.args.length ao),(I6 t2.mn),(I6 t2.mx),(.bool t2.neg)]) qD rfl underlying24 zAw zEH qD qD qK ?_;intro bq wq Nq;have Fq:=Nq.ge E;have Oq_b1:=Nq.lt B1;replace B1:=Nq.keep B1;replace hS:=hS.ext Nq.ext;replace ab:=zBw.ext Nq.ext t1 ab;replace af:=zBw.ext Nq.ext t2 af;replace E:=E.ext Nq.ext;have Bq:=Nq.blk;refine qV (zBA (ps:=[(0,(I6 k)),(2,(.slice (some ⟨bq,0,none⟩) 2 2))]) (v:=(.agg #[(I6 k),(.slice none 0 0),(.slice (some ⟨bq,0,none⟩) 2 2),(I6 0),(I6 0),(.bool false)])) rfl qK) (zAb (b:=b1) (o:=0) (c':=#[(I6 k),(.slice none 0 0),(.slice (some ⟨bq,0,none⟩) 2 2),(I6 0),(I6 0),(.bool false)]) rfl rfl qS zAw rfl B1 qL rfl ?_);intro w13 az;replace hS:=hS.put az (Ne.symm aa);replace ab:=zBw.chg az.chg (fun x hx hm=>by have an:=hx;have al:x=b1:=hm;omega) t1 ab;replace af:=zBw.chg az.chg (fun x hx hm=>by have an:=hx;have al:x=b1:=hm;omega) t2 af;replace Bq:=az.keep qO Bq;replace E:=az.step E qQ;replace B1:=az.blk;refine zAB (zAV (zAi (zAU (zBm results29 (vs:=[(.int .i64 k),(.slice none 0 0),(.slice (some ⟨bq,0,none⟩) 2 2),(.int .i64 0),(.int .i64 0),(.bool false)]) (b:=b1) rfl zBc zAw rfl (B1.cells rfl) ?_))));exact ⟨.mk k [] [t1,t2] 0 0 false,_,l6,rfl,zGK ay.2.1 qO (zJs qO t1 t2) (by simp only[zCv];exact ⟨ai,a5,trivial⟩),zIE am ak a6,zBw.of (set:=[]) (zFf.nil _ _ _ _ _) qP (.inr ⟨bq,0,qO,rfl,zCQ.two (Bq.cells rfl) (zBw.mono (fun b (h:_≤b)=>qO) t1 ab) (Bq.cells rfl) (zBw.mono (fun b (h:_≤b)=>qO) t2 af)⟩),hS,E⟩
            · have be:=decide_eq_false h4;refine zAF (qV (zAs (k:=.i64) (a:=k) (b:=7) rfl rfl) (qA (.bool (decide ((k:Int)=7))) rfl (zAB (zAC (qC rfl (fun h7=>?_) (fun h7=>?_))))))
              · have am:1≤d:=qO
                have aj:=B1.lt;have av:=E.size;refine zAA (qM (I6 k) rfl (qM (P6 bs 0) rfl (qM (I6 (d:Int)) rfl (qV (zEJ (k:=.i64) (a:=(d:Int)) (b:=1) (c:=((d - 1:Nat):Int)) rfl rfl (by rw[zBb qO];omega)) (qM (I6 kinds) rfl (qE rfl (zAQ (vs:=[(P6 bs 0),(I6 ((d - 1:Nat):Int)),(I6 kinds)]) func29 kQ kQ rfl) (ih (d - 1) qO qO _ _ (ah E) hS) ?_))))));rintro _ w5 ⟨t1,ax,l5,rfl,ai,ak,ab,hS,C5⟩;replace B1:=C5.keep (aa) B1;replace E:=E.trans C5;obtain ⟨ag,ac,ad,ae,rfl,_,_,_⟩:=ab.form;have a1:=B1.lt;have a9:=E.size;refine qM (P6 bs 0) rfl (qM (I6 (d:Int)) rfl (qV (zEJ (k:=.i64) (a:=(d:Int)) (b:=1) (c:=((d - 1:Nat):Int)) rfl rfl (by rw[zBb qO];omega)) (qM (I6 kinds) rfl (qE rfl (zAQ (vs:=[(P6 bs 0),(I6 ((d - 1:Nat):Int)),(I6 kinds)]) func29 kQ kQ rfl) (ih (d - 1) qO qO _ _ (ah E) hS) ?_))));rintro _ w6 ⟨t2,bd,l6,rfl,a5,a6,af,hS,C6⟩;replace B1:=C6.keep (aa) B1;replace E:=E.trans C6;obtain ⟨ap,ar,aq,ao,rfl,_,_,_⟩:=af.form;replace ab:=zBw.chg C6 (fun x hx hm=>by have an:=hx;have al:x=bs:=hm;have:=E.size;omega) t1 ab;refine zAc (ps:=[(0,(.agg (R6 t1 ag ac ad ae))),(1,(.agg (R6 t2 ap ar aq ao)))]) (c:=#[(I6 t1.kind),(.slice ag t1.set.length ac),(.slice ad t1.args.length ae),(I6 t1.mn),(I6 t1.mx),(.bool t1.neg),(I6 t2.kind),(.slice ap t2.set.length ar),(.slice aq t2.args.length ao),(I6 t2.mn),(I6 t2.mx),(.bool t2.neg)]) qD rfl underlying24 zAw zEH qD qD qK ?_;intro bq wq Nq;have Fq:=Nq.ge E;have Oq_b1:=Nq.lt B1;replace B1:=Nq.keep B1;replace hS:=hS.ext Nq.ext;replace ab:=zBw.ext Nq.ext t1 ab;replace af:=zBw.ext Nq.ext t2 af;replace E:=E.ext Nq.ext;have Bq:=Nq.blk;refine qV (zBA (ps:=[(0,(I6 k)),(2,(.slice (some ⟨bq,0,none⟩) 2 2))]) (v:=(.agg #[(I6 k),(.slice none 0 0),(.slice (some ⟨bq,0,none⟩) 2 2),(I6 0),(I6 0),(.bool false)])) rfl qK) (zAb (b:=b1) (o:=0) (c':=#[(I6 k),(.slice none 0 0),(.slice (some ⟨bq,0,none⟩) 2 2),(I6 0),(I6 0),(.bool false)]) rfl rfl qS zAw rfl B1 qL rfl ?_);intro w15 aw;replace hS:=hS.put aw (Ne.symm aa);replace ab:=zBw.chg aw.chg (fun x hx hm=>by have an:=hx;have al:x=b1:=hm;omega) t1 ab;replace af:=zBw.chg aw.chg (fun x hx hm=>by have an:=hx;have al:x=b1:=hm;omega) t2 af;replace Bq:=aw.keep qO Bq;replace E:=aw.step E qQ;replace B1:=aw.blk;refine zAB (zAV (zAi (zAU (zBm results29 (vs:=[(.int .i64 k),(.slice none 0 0),(.slice (some ⟨bq,0,none⟩) 2 2),(.int .i64 0),(.int .i64 0),(.bool false)]) (b:=b1) rfl zBc zAw rfl (B1.cells rfl) ?_))));exact ⟨.mk k [] [t1,t2] 0 0 false,_,l6,rfl,zGK ay.2.1 qO (zJs qO t1 t2) (by simp only[zCv];exact ⟨ai,a5,trivial⟩),zIE am ak a6,zBw.of (set:=[]) (zFf.nil _ _ _ _ _) qP (.inr ⟨bq,0,qO,rfl,zCQ.two (Bq.cells rfl) (zBw.mono (fun b (h:_≤b)=>qO) t1 ab) (Bq.cells rfl) (zBw.mono (fun b (h:_≤b)=>qO) t2 af)⟩),hS,E⟩
              · refine zAA (qV (zAs (k:=.i64) (a:=k) (b:=6) rfl rfl) (qA (.bool (decide ((k:Int)=6))) rfl (zAB (qC rfl (fun h6=>?_) (fun h6=>?_)))))
                · refine zAA (qM (P6 bs 0) rfl (qE rfl (zAQ (vs:=[(P6 bs 0),(I6 3)]) func61 kQ kQ rfl) (zHB wb _ bs _ _ qO qO (ah E) hb hS) ?_));rintro _ w3 ⟨x,l2,rfl,a7,a8,hS,C3⟩;replace B1:=C3.keep (aa) B1;replace E:=E.trans C3;refine qA (I6 x) rfl (zAB (zAA (qM (I6 k) rfl (qM (I6 x) rfl (qM (I6 x) rfl (qM (P6 bs 0) rfl (qE rfl (zAQ (vs:=[(P6 bs 0),(I6 3)]) func61 kQ kQ rfl) (zHB wb _ bs _ _ qO qO (ah E) hb hS) ?_)))))));rintro _ w4 ⟨y,l3,rfl,bf,bh,hS,C4⟩;replace B1:=C4.keep (aa) B1;replace E:=E.trans C4;refine qV (zAv (k:=.i64) (a:=x) (b:=y) (c:=x+y) rfl rfl (zBb qO)) (qM (P6 bs 0) rfl (qM (I6 (d:Int)) rfl ?_));have am:1≤d:=qO
                  have aj:=B1.lt;have av:=E.size;refine qV (zEJ (k:=.i64) (a:=(d:Int)) (b:=1) (c:=((d - 1:Nat):Int)) rfl rfl (by rw[zBb qO];omega)) (qM (I6 kinds) rfl (qE rfl (zAQ (vs:=[(P6 bs 0),(I6 ((d - 1:Nat):Int)),(I6 kinds)]) func29 kQ kQ rfl) (ih (d - 1) qO qO _ _ (ah E) hS) ?_));rintro _ w5 ⟨t1,ax,l5,rfl,ai,ak,ab,hS,C5⟩;replace B1:=C5.keep (aa) B1;replace E:=E.trans C5;obtain ⟨ag,ac,ad,ae,rfl,_,_,_⟩:=ab.form;refine zAc (ps:=[(0,(.agg (R6 t1 ag ac ad ae)))]) (c:=(R6 t1 ag ac ad ae)) qD rfl underlying24 zAw zEH qD qD qK ?_;intro bq wq Nq;have Fq:=Nq.ge E;have Oq_b1:=Nq.lt B1;replace B1:=Nq.keep B1;replace hS:=hS.ext Nq.ext;replace ab:=zBw.ext Nq.ext t1 ab;replace E:=E.ext Nq.ext;have Bq:=Nq.blk;refine qV (zBA (ps:=[(0,(I6 k)),(3,(I6 x)),(4,(I6 (x+y))),(2,(.slice (some ⟨bq,0,none⟩) 1 1))]) (v:=(.agg #[(I6 k),(.slice none 0 0),(.slice (some ⟨bq,0,none⟩) 1 1),(I6 x),(I6 (x+y)),(.bool false)])) rfl qK) (zAb (b:=b1) (o:=0) (c':=#[(I6 k),(.slice none 0 0),(.slice (some ⟨bq,0,none⟩) 1 1),(I6 x),(I6 (x+y)),(.bool false)]) rfl rfl qS zAw rfl B1 qL rfl ?_);intro w17 a2;replace hS:=hS.put a2 (Ne.symm aa);replace ab:=zBw.chg a2.chg (fun x hx hm=>by have an:=hx;have al:x=b1:=hm;omega) t1 ab;replace Bq:=a2.keep qO Bq;replace E:=a2.step E qQ;replace B1:=a2.blk;refine zAB (zAV (zAi (zAU (zBm results29 (vs:=[(.int .i64 k),(.slice none 0 0),(.slice (some ⟨bq,0,none⟩) 1 1),(.int .i64 x),(.int .i64 (x+y)),(.bool false)]) (b:=b1) rfl zBc zAw rfl (B1.cells rfl) ?_))));exact ⟨.mk k [] [t1] x (x+y) false,_,l5,rfl,zGK qO qO (by subst h6;exact zRr qO qO qO t1) (by simp only[zCv];exact ⟨ai,trivial⟩),zGJ am ak,zBw.of (set:=[]) (zFf.nil _ _ _ _ _) qP (.inr ⟨bq,0,qO,rfl,zCQ.one (Bq.cells rfl) (zBw.mono (fun b (h:_≤b)=>qO) t1 ab)⟩),hS,E⟩
                · refine zAA (qV (zAs (k:=.i64) (a:=k) (b:=9) rfl rfl) (qA (.bool (decide ((k:Int)=9))) rfl (zAB (qC rfl (fun h9=>?_) (fun h9=>?_)))))
                  · refine zAA (qM (I6 k) rfl (qM (P6 bs 0) rfl (qE rfl (zAQ (vs:=[(P6 bs 0),(I6 4)]) func61 kQ kQ rfl) (zHB wb _ bs _ _ qO qO (ah E) hb hS) ?_)));rintro _ w3 ⟨x,l2,rfl,a7,a8,hS,C3⟩;replace B1:=C3.keep (aa) B1;replace E:=E.trans C3;have am:1≤d:=qO
                    have aj:=B1.lt;have av:=E.size;refine qM (P6 bs 0) rfl (qM (I6 (d:Int)) rfl (qV (zEJ (k:=.i64) (a:=(d:Int)) (b:=1) (c:=((d - 1:Nat):Int)) rfl rfl (by rw[zBb qO];omega)) (qM (I6 kinds) rfl (qE rfl (zAQ (vs:=[(P6 bs 0),(I6 ((d - 1:Nat):Int)),(I6 kinds)]) func29 kQ kQ rfl) (ih (d - 1) qO qO _ _ (ah E) hS) ?_))));rintro _ w5 ⟨t1,ax,l5,rfl,ai,ak,ab,hS,C5⟩;replace B1:=C5.keep (aa) B1;replace E:=E.trans C5;obtain ⟨ag,ac,ad,ae,rfl,_,_,_⟩:=ab.form;refine zAc (ps:=[(0,(.agg (R6 t1 ag ac ad ae)))]) (c:=(R6 t1 ag ac ad ae)) qD rfl underlying24 zAw zEH qD qD qK ?_;intro bq wq Nq;have Fq:=Nq.ge E;have Oq_b1:=Nq.lt B1;replace B1:=Nq.keep B1;replace hS:=hS.ext Nq.ext;replace ab:=zBw.ext Nq.ext t1 ab;replace E:=E.ext Nq.ext;have Bq:=Nq.blk;refine qV (zBA (ps:=[(0,(I6 k)),(3,(I6 x)),(2,(.slice (some ⟨bq,0,none⟩) 1 1))]) (v:=(.agg #[(I6 k),(.slice none 0 0),(.slice (some ⟨bq,0,none⟩) 1 1),(I6 x),(I6 0),(.bool false)])) rfl qK) (zAb (b:=b1) (o:=0) (c':=#[(I6 k),(.slice none 0 0),(.slice (some ⟨bq,0,none⟩) 1 1),(I6 x),(I6 0),(.bool false)]) rfl rfl qS zAw rfl B1 qL rfl ?_);intro w19 a3;replace hS:=hS.put a3 (Ne.symm aa);replace ab:=zBw.chg a3.chg (fun x hx hm=>by have an:=hx;have al:x=b1:=hm;omega) t1 ab;replace Bq:=a3.keep qO Bq;replace E:=a3.step E qQ;replace B1:=a3.blk;refine zAB (zAV (zAi (zAU (zBm results29 (vs:=[(.int .i64 k),(.slice none 0 0),(.slice (some ⟨bq,0,none⟩) 1 1),(.int .i64 x),(.int .i64 0),(.bool false)]) (b:=b1) rfl zBc zAw rfl (B1.cells rfl) ?_))));exact ⟨.mk k [] [t1] x 0 false,_,l5,rfl,zGK qO qO (by subst h9;exact zOJ qO qO t1) (by simp only[zCv];exact ⟨ai,trivial⟩),zGJ am ak,zBw.of (set:=[]) (zFf.nil _ _ _ _ _) qP (.inr ⟨bq,0,qO,rfl,zCQ.one (Bq.cells rfl) (zBw.mono (fun b (h:_≤b)=>qO) t1 ab)⟩),hS,E⟩
                  · refine zAA (qV (zAs (k:=.i64) (a:=k) (b:=10) rfl rfl) (qA (.bool (decide ((k:Int)=10))) rfl (zAB (qC rfl (fun ba=>?_) (fun ba=>?_)))))
                    · refine zAA (qM (I6 k) rfl (qM (P6 bs 0) rfl (qE rfl (zAQ (vs:=[(P6 bs 0),(I6 2)]) func61 kQ kQ rfl) (zHB wb _ bs _ _ qO qO (ah E) hb hS) ?_)));rintro _ w3 ⟨x,l2,rfl,a7,a8,hS,C3⟩;replace B1:=C3.keep (aa) B1;replace E:=E.trans C3;have am:1≤d:=qO
                      have aj:=B1.lt;have av:=E.size;refine qV (zAs (k:=.i64) (a:=x) (b:=1) rfl rfl) (qM (P6 bs 0) rfl (qM (I6 (d:Int)) rfl (qV (zEJ (k:=.i64) (a:=(d:Int)) (b:=1) (c:=((d - 1:Nat):Int)) rfl rfl (by rw[zBb qO];omega)) (qM (I6 kinds) rfl (qE rfl (zAQ (vs:=[(P6 bs 0),(I6 ((d - 1:Nat):Int)),(I6 kinds)]) func29 kQ kQ rfl) (ih (d - 1) qO qO _ _ (ah E) hS) ?_)))));rintro _ w5 ⟨t1,ax,l5,rfl,ai,ak,ab,hS,C5⟩;replace B1:=C5.keep (aa) B1;replace E:=E.trans C5;obtain ⟨ag,ac,ad,ae,rfl,_,_,_⟩:=ab.form;refine zAc (ps:=[(0,(.agg (R6 t1 ag ac ad ae)))]) (c:=(R6 t1 ag ac ad ae)) qD rfl underlying24 zAw zEH qD qD qK ?_;intro bq wq Nq;have Fq:=Nq.ge E;have Oq_b1:=Nq.lt B1;replace B1:=Nq.keep B1;replace hS:=hS.ext Nq.ext;replace ab:=zBw.ext Nq.ext t1 ab;replace E:=E.ext Nq.ext;have Bq:=Nq.blk;refine qV (zBA (ps:=[(0,(I6 k)),(5,(.bool (decide ((x:Int)=1)))),(2,(.slice (some ⟨bq,0,none⟩) 1 1))]) (v:=(.agg #[(I6 k),(.slice none 0 0),(.slice (some ⟨bq,0,none⟩) 1 1),(I6 0),(I6 0),(.bool (decide ((x:Int)=1)))])) rfl qK) (zAb (b:=b1) (o:=0) (c':=#[(I6 k),(.slice none 0 0),(.slice (some ⟨bq,0,none⟩) 1 1),(I6 0),(I6 0),(.bool (decide ((x:Int)=1)))]) rfl rfl qS zAw rfl B1 qL rfl ?_);intro w21 a0;replace hS:=hS.put a0 (Ne.symm aa);replace ab:=zBw.chg a0.chg (fun x hx hm=>by have an:=hx;have al:x=b1:=hm;omega) t1 ab;replace Bq:=a0.keep qO Bq;replace E:=a0.step E qQ;replace B1:=a0.blk;refine zAB (zAV (zAi (zAU (zBm results29 (vs:=[(.int .i64 k),(.slice none 0 0),(.slice (some ⟨bq,0,none⟩) 1 1),(.int .i64 0),(.int .i64 0),(.bool (decide ((x:Int)=1)))]) (b:=b1) rfl zBc zAw rfl (B1.cells rfl) ?_))));exact ⟨.mk k [] [t1] 0 0 (decide (x=1)),_,l5,rfl,zGK qO qO (by subst ba;exact zPw _ t1) (by simp only[zCv];exact ⟨ai,trivial⟩),zGJ am ak,zBw.of (set:=[]) (zFf.nil _ _ _ _ _) qP (.inr ⟨bq,0,qO,rfl,zCQ.one (Bq.cells rfl) (zBw.mono (fun b (h:_≤b)=>qO) t1 ab)⟩),hS,E⟩
                    · have am:1≤d:=qO
                      have aj:=B1.lt;have av:=E.size;refine zAO (zAR (zAC (zAA (qM (I6 k) rfl (qM (P6 bs 0) rfl (qM (I6 (d:Int)) rfl (qV (zEJ (k:=.i64) (a:=(d:Int)) (b:=1) (c:=((d - 1:Nat):Int)) rfl rfl (by rw[zBb qO];omega)) (qM (I6 kinds) rfl (qE rfl (zAQ (vs:=[(P6 bs 0),(I6 ((d - 1:Nat):Int)),(I6 kinds)]) func29 kQ kQ rfl) (ih (d - 1) qO qO _ _ (ah E) hS) ?_)))))))));rintro _ w5 ⟨t1,ax,l5,rfl,ai,ak,ab,hS,C5⟩;replace B1:=C5.keep (aa) B1;replace E:=E.trans C5;obtain ⟨ag,ac,ad,ae,rfl,_,_,_⟩:=ab.form;refine zAc (ps:=[(0,(.agg (R6 t1 ag ac ad ae)))]) (c:=(R6 t1 ag ac ad ae)) qD rfl underlying24 zAw zEH qD qD qK ?_;intro bq wq Nq;have Fq:=Nq.ge E;have Oq_b1:=Nq.lt B1;replace B1:=Nq.keep B1;replace hS:=hS.ext Nq.ext;replace ab:=zBw.ext Nq.ext t1 ab;replace E:=E.ext Nq.ext;have Bq:=Nq.blk;refine qV (zBA (ps:=[(0,(I6 k)),(2,(.slice (some ⟨bq,0,none⟩) 1 1))]) (v:=(.agg #[(I6 k),(.slice none 0 0),(.slice (some ⟨bq,0,none⟩) 1 1),(I6 0),(I6 0),(.bool false)])) rfl qK) (zAb (b:=b1) (o:=0) (c':=#[(I6 k),(.slice none 0 0),(.slice (some ⟨bq,0,none⟩) 1 1),(I6 0),(I6 0),(.bool false)]) rfl rfl qS zAw rfl B1 qL rfl ?_);intro w22 a4;replace hS:=hS.put a4 (Ne.symm aa);replace ab:=zBw.chg a4.chg (fun x hx hm=>by have an:=hx;have al:x=b1:=hm;omega) t1 ab;replace Bq:=a4.keep qO Bq;replace E:=a4.step E qQ;replace B1:=a4.blk;refine zAB (zAV (zBm results29 (vs:=[(.int .i64 k),(.slice none 0 0),(.slice (some ⟨bq,0,none⟩) 1 1),(.int .i64 0),(.int .i64 0),(.bool false)]) (b:=b1) rfl zBc zAw rfl (B1.cells rfl) ?_));exact ⟨.mk k [] [t1] 0 0 false,_,l5,rfl,zGK qO qO (zRs qO t1) (by simp only[zCv];exact ⟨ai,trivial⟩),zGJ am ak,zBw.of (set:=[]) (zFf.nil _ _ _ _ _) qP (.inr ⟨bq,0,qO,rfl,zCQ.one (Bq.cells rfl) (zBw.mono (fun b (h:_≤b)=>qO) t1 ab)⟩),hS,E⟩
end Go.Proofs
namespace Go.Proofs
open Go Go.Eng
abbrev zGL:Re:=.mk 1 [] [] 0 0 false
abbrev zFE:Re:=.mk 0 [] [] 0 0 false
def Txt (text:List Int):Prop:=text.length≤24∧∀x∈text,zHL x=true
end Go.Proofs
namespace Go.Proofs
open Go Go.Eng
mutual
def zPW:Re→Re→Bool
  | .mk k s a m x g,.mk k' s' a' m' x' g'=>decide (k=k') && decide (s=s') && decide (m=m') && decide (x=x') && decide (g=g') && zTE a a'
def zTE:List Re→List Re→Bool
  | [],[]=>true
  | t::ts,u::us=>zPW t u && zTE ts us
  | _,_=>false
end
def zSJ (k:Int) (l:List Re):List Re:=l.flatMap fun x=>if x.kind=k then x.args else [x]
def zUP:List Re→List Re→List Re
  | out,[]=>out
  | out,x::l=>if (out.any fun y=>zPW x y)=true then zUP out l else zUP (out++[x]) l
def zXJ (k:Int) (l:List Re):Re:=
  let l1:=zSJ k l
  let l2:=if k=3 then l1.filter fun x=>!decide (x.kind=1) else if k=4 then l1.filter fun x=>!decide (x.kind=0) else l1
  if k≠4∧(l2.any fun x=>decide (x.kind=0))=true then zFE
  else
    match (if k=3 then l2 else zUP [] l2) with
    | [x]=>x
    | []=>if k=3 then zGL else zFE
    | out=>.mk k [] out 0 0 false
def zXG (k:Int) (set:List (Int×Int)) (a:List Re) (mn mx:Int) (ng:Bool):Re:=
  if k=3∨k=4∨k=7 then zXJ k a
  else if k=5∨k=6 then
    match a with
    | x::_=>
      if x.kind=1∨(k=6∧mx=0) then zGL
      else if x.kind=0∧(k=5∨mn=0) then zGL
      else if x.kind=0 then zFE
      else if x.kind=5∨(k=6∧mn=1∧mx=1) then x
      else .mk k set a mn mx ng
    | []=>.mk k set a mn mx ng
  else if k=8 then
    match a with
    | x::_=>if x.kind=8 then x.args.headD zFE else .mk k set a mn mx ng
    | []=>.mk k set a mn mx ng
  else if k=10 then
    match a with
    | x::_=>
      if (x.kind=1∧ng=true)∨(x.kind=0∧ng=false) then zFE
      else if x.kind=1∨x.kind=0 then zGL
      else .mk k set a mn mx ng
    | []=>.mk k set a mn mx ng
  else .mk k set a mn mx ng
theorem zPn (ts:List Re):zEr ts↔∀x∈ts,zFc x:=by
  induction ts with
  | nil=>simp[zEr]
  | cons t ts ih=>simp[zEr,ih]
theorem zMS {k:Int} {l:List Re} (h:k=3∨k=4∨k=7) (h2:2≤l.length) (ho:∀x∈l,zFc x):zFc (.mk k [] l 0 0 false):=by
 simp only[zFc];refine ⟨?_,(zPn l).2 ho⟩;have aa:(2:Int)≤(l.length:Int):=qO
 rcases h with rfl|rfl|rfl<;>simp[zCU,zFd,okB,Re.kind,Re.set,Re.args,Re.mn,Re.mx,Re.neg,aa]
def isL (k:Int):Prop:=k=3∨k=4∨k=7
mutual
def Nf:Re→Prop
  | .mk k set args mn mx ng=>Nfs args∧(isL k→set=[]∧mn=0∧mx=0∧ng=false∧2≤args.length∧(∀x∈args,x.kind≠k)∧(k=3→∀x∈args,x.kind≠1)∧(∀x∈args,x.kind≠0)∧(k≠3→args.Nodup))∧
      (¬isL k→zXG k set args mn mx ng=.mk k set args mn mx ng)
def Nfs:List Re→Prop
  | []=>True
  | t::ts=>Nf t∧Nfs ts
end
end Go.Proofs
namespace Go.Proofs
open Go Go.Eng
set_option maxRecDepth 100000
theorem zTN (w0:World) (v:Value) (l:List Int) (hl:zBZ w0 v l):Ret prog 7 #[v] w0 fun r w=>∃t vs,r=.agg vs.toArray∧zDp (zKb 8) t∧t.size≤31∧zBw (fun b=>w0.heap.size≤b) w t vs∧Ext w0 w:=by
 obtain ⟨a,c,rfl⟩:=zCI.form hl;simp only[List.length_map] at hl⊢;refine qR func7 rfl ntmps7 rfl (fun E=>(zAA (zBH (c:=#[(I6 0),(.slice none 0 0),(.slice none 0 0),(I6 0),(I6 0),(.bool false)]) qD zEH rfl ?_)));intro br wr Nr;have Fr:=Nr.ge E;replace E:=E.ext Nr.ext;have Br:=Nr.blk;refine zAB (zAA (qM _ rfl (qV (zBA (ps:=[(0,(.slice a l.length c))]) (v:=(.agg #[(.slice a l.length c)])) rfl qK) (zBQ (v:=(.agg #[(.slice a l.length c)])) (c:=#[(.slice a l.length c)]) qD rfl rfl ?_))));intro bs ws Ns;have Fs:=Ns.ge E;have Os_br:=Ns.lt Br;replace Br:=Ns.keep Br;replace E:=E.ext Ns.ext;have Bs:=Ns.blk;have hne:br<bs:=qO
 have hz1:=Br.lt;have hz2:=E.size;refine qE rfl (zAQ func29 kQ kQ rfl) (zXM wr bs 8 qO (by have:=Ns.eq;omega) 4 qD ws l Ns.ext ⟨a,c,Bs,hl.ext Nr.ext⟩) ?_;rintro _ w9 ⟨t,us,l',rfl,hg,hs,ht,hS,C9⟩;replace Br:=C9.keep qO Br;replace E:=E.step C9 (by intro x hx hm;omega);obtain ⟨sa,sc,aa,ac,rfl,_,_,_⟩:=ht.form;refine zAb (b:=br) (o:=0) (c':=(R6 t sa sc aa ac)) rfl rfl qS zAw rfl Br qL rfl ?_;intro w1 S1;replace ht:=zBw.chg S1.chg (fun x hx hm=>by have hx':=hx;have hm':x=br:=hm;omega) t ht;replace E:=S1.step E qQ;replace Br:=S1.blk;refine zAB (zAV (zBm results7 (vs:=[(.int .i64 t.kind),(.slice sa t.set.length sc),(.slice aa t.args.length ac),(.int .i64 t.mn),(.int .i64 t.mx),(.bool t.neg)]) (b:=br) rfl zBc zAw rfl (Br.cells rfl) ?_));exact ⟨t,_,rfl,hg,qO,zBw.mono (fun b (h:_≤b)=>qO) t ht,E⟩
end Go.Proofs
namespace Go.Proofs
open Go Go.Eng
set_option maxRecDepth 100000
mutual
def zCy (ks:List Int):Re→Bool
  | .mk k _ args _ _ _=>ks.contains k || zFu ks args
def zFu (ks:List Int):List Re→Bool
  | []=>false
  | t::ts=>zCy ks t || zFu ks ts
end
def zPC (ks:List Int):Unit→Re→Bool×Unit:=fun _ t=>(!ks.contains t.kind,())
mutual
theorem zMp (ks:List Int):∀(t:Re),(zCc (zPC ks) t ()).1 = !zCy ks t
  | .mk k set args mn mx ng=>by
    have h:=zKh ks args;rw[zEM];split
    · rename_i hk
      have hk:ks.contains k=false:=by simpa only[zPC,Re.kind,Bool.not_eq_true'] using hk
      show (zCS (zPC ks) args ()).1=_;rw[h];simp only[zCy,hk,Bool.false_or]
    · rename_i hk
      have hk:ks.contains k=true:=by
        cases hc:ks.contains k with
        | true=>rfl
        | false=>exact absurd (show (zPC ks () (.mk k set args mn mx ng)).1=true by simp only[zPC,Re.kind,hc,Bool.not_false]) hk
      simp only[zCy,hk,Bool.true_or,Bool.not_true]
theorem zKh (ks:List Int):∀(ts:List Re),(zCS (zPC ks) ts ()).1 = !zFu ks ts
  | []=>rfl
  | t::ts=>by
    have h1:=zMp ks t;have h:=zKh ks ts;rw[zCb];split
    · rename_i hk
      rw[hk] at h1;have hu:zCy ks t=false:=by simpa using h1.symm
      show (zCS (zPC ks) ts ()).1=_;rw[h];simp only[zFu,hu,Bool.false_or]
    · rename_i hk
      have hu:zCy ks t=true:=by
        cases hc:zCy ks t with
        | true=>rfl
        | false=>rw[hc] at h1;exact absurd h1 hk
      simp only[zFu,hu,Bool.true_or,Bool.not_true]
end
theorem zTb (w0:World) (t:Re) (vs:List Value) (ks:List Int) (v:Value) (b:Nat) (ht:zBB w0 t vs) (hB:Blk w0 b #[v] 22) (hks:zBZ w0 v ks) :
  Ret prog 63 #[.agg vs.toArray,.pointer (some ⟨b,0,none⟩)] w0 fun r w=>r=.bool (!ks.contains t.kind)∧Ext w0 w:=by
 obtain ⟨sa,sc,aa,ac,rfl,_,_,_⟩:=ht.form;refine qR func63 rfl ntmps63 rfl (fun E=>(zAA (zBQ (v:=(.agg (R6 t sa sc aa ac))) (c:=(R6 t sa sc aa ac)) qD rfl rfl ?_)));intro b1 w1 N1;replace hB:=N1.keep hB;replace E:=E.ext N1.ext;have B1:=N1.blk;refine qA _ rfl (zAB (zAA (qV (zAI rfl zBP (hB.cell rfl)) (qF b1 0 0 rfl underlying26 rfl zAy rfl (qV (zAI rfl zAo (B1.cell rfl)) (qE rfl (zAQ func64 kQ kQ rfl) (zWK _ v t.kind ks (hks.ext E)) ?_))))));rintro _ w9 ⟨rfl,X9⟩;replace hB:=X9.keep hB;replace B1:=X9.keep B1;replace E:=E.ext X9;refine qV (zCa rfl) (qA _ rfl (zAB (zAV (zAY results63 (v:=(.bool (!(ks.contains t.kind)))) rfl ?_))));exact ⟨rfl,E⟩
theorem zSy (w0:World) (t:Re) (vs:List Value) (ks:List Int) (v:Value) (ht:zBB w0 t vs) (hks:zBZ w0 v ks) :
  Ret prog 31 #[.agg vs.toArray,v] w0 fun r w=>r=.bool (zCy ks t)∧Ext w0 w:=by
 have ab:=ht;obtain ⟨sa,sc,aa,ac,rfl,_,_,_⟩:=ht.form;obtain ⟨ka,kc,rfl⟩:=zCI.form hks;simp only[List.length_map] at hks⊢;refine qR func31 rfl ntmps31 rfl (fun E=>(zAA (zBQ (v:=(.agg (R6 t sa sc aa ac))) (c:=(R6 t sa sc aa ac)) qD rfl rfl ?_)));intro br wr Nr;replace E:=E.ext Nr.ext;have Br:=Nr.blk;refine zBQ (v:=(.slice ka ks.length kc)) (c:=#[(.slice ka ks.length kc)]) qD rfl rfl ?_;intro bp wp Np;replace Br:=Np.keep Br;replace E:=E.ext Np.ext;have Bp:=Np.blk;refine qA _ rfl (zAB (zAA (qV (zAK (vs:=[(I6 t.kind),(.slice sa t.set.length sc),(.slice aa t.args.length ac),(I6 t.mn),(I6 t.mx),(.bool t.neg)]) rfl zBc zAw rfl (Br.cells rfl)) (qV (zBV rfl rfl) ?_))));have hf:∀(s:Unit) (w:World) (t:Re) (vs:List Value),bp+1≤w.heap.size→Ext wp w→Blk w bp #[.slice ka ks.length kc] 22→zBB wp t vs→zCG prog (.func (.func 63) #[] #[.pointer (some ⟨bp,0,none⟩)]) #[.agg vs.toArray] w fun r w'=>r=.bool (zPC ks s t).1∧Chg zAh w w'∧Blk w' bp #[.slice ka ks.length kc] 22:=fun s w t vs _ hE hI ht=>zCG.mk (first:=#[]) (cap:=#[.pointer (some ⟨bp,0,none⟩)]) func63 kQ kQ rfl ((zTb w t vs ks (.slice ka ks.length kc) bp (zBB.ext hE t ht) hI ((hks.ext E).ext hE)).mono fun r w' h=>⟨h.1,h.2,Ext.keep h.2 hI⟩);refine qE rfl (zAQ func42 kQ kQ rfl) ((zPA (zPC ks) (fun _ w=>Blk w bp #[.slice ka ks.length kc] 22) zAh (bp+1) _ wp (fun b hb=>hb.elim) (fun s w w' hI e=>e.keep hI) hf t.size t (Nat.le_refl _) () _ _ (by have:=Bp.lt;omega) (Ext.refl _) Bp (zBB.ext E t ab)).mono (R':=fun r w=>r=.bool (zCc (zPC ks) t ()).1∧Ext wp w) (fun r w h=>⟨h.1,h.2.1⟩)) ?_;rintro _ w9 ⟨rfl,X9⟩;replace Br:=X9.keep Br;replace Bp:=X9.keep Bp;replace E:=E.ext X9;refine qV (zCa rfl) (qA _ rfl (zAB (zAV (zAY results31 (v:=(.bool (!((zCc (zPC ks) t ()).1)))) rfl ?_))));exact ⟨zBy (by rw[zMp];simp),E⟩
structure NodeI (t:Re):Prop where
 k:0≤t.kind∧t.kind≤10
 two:t.kind=3∨t.kind=4∨t.kind=7→2≤t.args.length
 one:t.kind=5∨t.kind=6∨t.kind=8∨t.kind=9∨t.kind=10→t.args.length=1
 rep:t.kind=6→0≤t.mn∧t.mn≤t.mx∧t.mx≤8
 grp:t.kind=9→0≤t.mn∧t.mn≤9
 sett:t.kind=2→t.set≠[]
theorem zNQ {t:Re} (h:zCU t=0):NodeI t:=by
 unfold zCU at h;split at h
 ·cases h
 rename_i h1
 split at h
 ·cases h
 rename_i h2
 have h3:zFd t=true:=by simpa using h2
 unfold zFd at h3;simp only[Bool.and_eq_true] at h3;have h4:=h3.1.1.1.1;unfold okB at h4;refine ⟨qO,fun hk=>?_,fun hk=>?_,fun hk=>?_,fun hk=>?_,fun hk=>?_⟩
 ·rw[if_pos hk] at h4;have:=of_decide_eq_true h4;omega
 ·rw[if_neg qO,if_pos hk] at h4;have:=of_decide_eq_true h4;omega
 ·rw[if_neg qO,if_pos hk] at h;split at h
  ·cases h
  ·omega
 ·rw[if_neg qO,if_neg qO,if_pos hk] at h;split at h
  ·cases h
  ·omega
 ·rw[if_pos hk] at h;intro e;rw[e] at h;simp[zBR,zER] at h
end Go.Proofs
namespace Go.Proofs
open Go Go.Eng
set_option maxRecDepth 100000
abbrev Lg:=List Int→Prop
end Go.Proofs
namespace Go.Proofs
open Go Go.Eng
set_option maxRecDepth 100000
def toW (d:Dfa):Int→List Nat→Int
  | s,[]=>s
  | s,x::w=>toW d (toD d s x) w
theorem zDC (d:Dfa):∀(w:List Nat) (s:Int),beh d s w=atD d (toW d s w)
  | [],_=>rfl
  | x::w,s=>by simp only[beh,toW];exact zDC d w _
theorem zPF (d:Dfa):∀(u v:List Nat) (s:Int),toW d s (u++v)=toW d (toW d s u) v
  | [],_,_=>rfl
  | x::u,v,s=>by simp only[List.cons_append,toW];exact zPF d u v _
theorem zDl (d:Dfa) (u:List Nat) (x:Nat) (s:Int):toW d s (u++[x])=toD d (toW d s u) x:=by rw[zPF];rfl
theorem zEk {n c:Nat} {d:Dfa} (ok:OkD n c d):∀(w:List Nat) {s:Int},-1≤s∧s<n→-1≤toW d s w∧toW d s w<n
  | [],_,h=>h
  | _::w,_,_=>zEk ok w ok.to
def zCm (M:Nat→Bool) (i:Nat):Nat:=(M (8*i)).toNat+2*(M (8*i+1)).toNat+4*(M (8*i+2)).toNat+8*(M (8*i+3)).toNat+16*(M (8*i+4)).toNat+32*(M (8*i+5)).toNat+64*(M (8*i+6)).toNat+128*(M (8*i+7)).toNat
def zIf (n:Nat) (M:Nat→Bool):Nat→Bool:=fun s=>decide (s<n) && M s
def zIj (n:Nat) (M:Nat→Bool):List Int:=(List.range ((n+7) / 8)).map fun i=>((zCm (zIf n M) i:Nat):Int)
theorem zDn (n:Nat) (M:Nat→Bool):(zIj n M).length=(n+7) / 8:=by simp[zIj]
theorem zOi {n:Nat} {M M':Nat→Bool} (h:∀s,s<n→M s=M' s):zIj n M=zIj n M':=by
 have:zIf n M=zIf n M':=funext fun s=>by
  unfold zIf;by_cases hs:s<n
  ·rw[h s hs]
  ·simp[hs]
 unfold zIj;rw[this]
theorem zMj (M:Nat→Bool) (i:Nat):zCm M i<256:=by
 unfold zCm;have h:∀b:Bool,b.toNat≤1:=fun b=>by cases b<;>decide
 have:=h (M (8*i));have:=h (M (8*i+1));have:=h (M (8*i+2));have:=h (M (8*i+3));have:=h (M (8*i+4));have:=h (M (8*i+5));have:=h (M (8*i+6));have:=h (M (8*i+7));omega
theorem zQv:∀(b0 b1 b2 b3 b4 b5 b6 b7:Bool),(∀v,v=b0.toNat+2*b1.toNat+4*b2.toNat+8*b3.toNat+16*b4.toNat+32*b5.toNat+64*b6.toNat+128*b7.toNat→
  v / 1 % 2=b0.toNat∧v / 2 % 2=b1.toNat∧v / 4 % 2=b2.toNat∧v / 8 % 2=b3.toNat∧v / 16 % 2=b4.toNat∧v / 32 % 2=b5.toNat∧v / 64 % 2=b6.toNat∧v / 128 % 2=b7.toNat):=by
 intro b0 b1 b2 b3 b4 b5 b6 b7 v hv;have h:∀b:Bool,b.toNat≤1:=fun b=>by cases b<;>decide
 have:=h b0;have:=h b1;have:=h b2;have:=h b3;have:=h b4;have:=h b5;have:=h b6;have:=h b7;generalize b0.toNat=c0 at *;generalize b1.toNat=c1 at *;generalize b2.toNat=c2 at *;generalize b3.toNat=c3 at *;generalize b4.toNat=c4 at *;generalize b5.toNat=c5 at *;generalize b6.toNat=c6 at *;generalize b7.toNat=c7 at *;omega
theorem zNo (M:Nat→Bool) (i j:Nat) (hj:j<8):zCm M i / 2 ^ j % 2=(M (8*i+j)).toNat:=by
 obtain ⟨h0,h1,h2,h3,h4,h5,h6,h7⟩:=zQv _ _ _ _ _ _ _ _ (zCm M i) rfl;have:j=0∨j=1∨j=2∨j=3∨j=4∨j=5∨j=6∨j=7:=qO
 rcases this with rfl|rfl|rfl|rfl|rfl|rfl|rfl|rfl<;>assumption
theorem zSf (M:Nat→Bool) (i j:Nat) (hj:j<8):zCm (fun s=>M s || decide (s=8*i+j)) i=zCm M i+(if M (8*i+j)=true then 0 else 2 ^ j):=by
 have:j=0∨j=1∨j=2∨j=3∨j=4∨j=5∨j=6∨j=7:=qO
 unfold zCm;rcases this with rfl|rfl|rfl|rfl|rfl|rfl|rfl|rfl
 ·rw[Nat.add_zero];simp;cases M (8*i)<;>simp<;>omega
 ·simp;cases M (8*i+1)<;>simp<;>omega
 ·simp;cases M (8*i+2)<;>simp<;>omega
 ·simp;cases M (8*i+3)<;>simp<;>omega
 ·simp;cases M (8*i+4)<;>simp<;>omega
 ·simp;cases M (8*i+5)<;>simp<;>omega
 ·simp;cases M (8*i+6)<;>simp<;>omega
 ·simp;cases M (8*i+7)<;>simp<;>omega
theorem zOh {M:Nat→Bool} {i k j:Nat} (hj:j<8) (hk:k≠i):zCm (fun s=>M s || decide (s=8*i+j)) k=zCm M k:=by
 unfold zCm;have h:∀d,d<8→(M (8*k+d) || decide (8*k+d=8*i+j))=M (8*k+d):=fun d hd=>by
  rw[decide_eq_false (show ¬8*k+d=8*i+j by omega),Bool.or_false]
 dsimp only;have h0:=h 0 qD;rw[Nat.add_zero] at h0;rw[h0,h 1 qD,h 2 qD,h 3 qD,h 4 qD,h 5 qD,h 6 qD,h 7 qD]
def zDs (n:Nat) (M:Nat→Bool):ByteArray:=strOfNums (zIj n M)
def zGh (k:ByteArray) (s:Nat):Bool:=decide ((k.data.toList.getD (s / 8) 0).toNat / 2 ^ (s % 8) % 2=1)
theorem zEs {n:Nat} (M:Nat→Bool) {s:Nat} (hs:s<n):zGh (zDs n M) s=M s:=by
 have h1:=zMj (zIf n M) (s / 8);have h2:(UInt8.ofNat (zCm (zIf n M) (s / 8))).toNat=zCm (zIf n M) (s / 8):=by
  rw[UInt8.toNat_ofNat'];exact Nat.mod_eq_of_lt h1
 have e:(zDs n M).data.toList.getD (s / 8) 0=UInt8.ofNat (zCm (zIf n M) (s / 8)):=by
  unfold zDs;rw[strOfNums_data,List.getD_eq_getElem?_getD,List.getElem?_map];unfold zIj;rw[List.getElem?_map,List.getElem?_range qO];simp
 have h3:((zDs n M).data.toList.getD (s / 8) 0).toNat / 2 ^ (s % 8) % 2=(M s).toNat:=by
  rw[e,h2,zNo _ _ _ (Nat.mod_lt _ qD),Nat.div_add_mod];unfold zIf;rw[decide_eq_true hs,Bool.true_and]
 unfold zGh;cases hM:M s
 ·exact decide_eq_false (by rw[h3,hM];decide)
 ·exact decide_eq_true (by rw[h3,hM];decide)
theorem zCl (n:Nat) (M:Nat→Bool):(zDs n M).size=(n+7) / 8:=by unfold zDs;rw[strOfNums_size,zDn]
theorem zOT {n:Nat} {M M':Nat→Bool} (h:∀s,s<n→M s=M' s):zDs n M=zDs n M':=by unfold zDs;rw[zOi h]
theorem zJy {n:Nat} (M:Nat→Bool):zDs n (zGh (zDs n M))=zDs n M:=zOT fun _ hs=>zEs M hs
def zIe (b:Dfa) (m:Nat) (k:ByteArray) (x:Nat):Nat→Bool:=fun q=>(List.range m).any fun p=>zGh k p && decide (toD b ((p:Nat):Int) x=((q:Nat):Int))
def zEI (b:Dfa) (m:Nat) (k:ByteArray) (x:Nat):Bool:=(List.range m).any fun p=>zGh k p && decide (0≤toD b ((p:Nat):Int) x)
def zLs (b:Dfa) (m:Nat) (k:ByteArray):Bool:=(List.range m).any fun p=>decide (0≤atD b ((p:Nat):Int)) && zGh k p
def zKG (b:Bool):Int:=if b=true then 0 else -1
theorem zHU {b:Dfa} {m:Nat} {k:ByteArray} {x q:Nat}:zIe b m k x q=true↔∃p,p<m∧zGh k p=true∧toD b ((p:Nat):Int) x=((q:Nat):Int):=by
 unfold zIe;simp only[List.any_eq_true,List.mem_range,Bool.and_eq_true,decide_eq_true_eq]
theorem zPO {b:Dfa} {m:Nat} {k:ByteArray} {x:Nat}:zEI b m k x=true↔∃p,p<m∧zGh k p=true∧0≤toD b ((p:Nat):Int) x:=by
 unfold zEI;simp only[List.any_eq_true,List.mem_range,Bool.and_eq_true,decide_eq_true_eq]
theorem zHZ {b:Dfa} {m:Nat} {k:ByteArray}:zLs b m k=true↔∃p,p<m∧0≤atD b ((p:Nat):Int)∧zGh k p=true:=by
 unfold zLs;simp only[List.any_eq_true,List.mem_range,Bool.and_eq_true,decide_eq_true_eq]
theorem zKm {b:Dfa} {n c m:Nat} (ok:OkD m c b) {k:ByteArray} {x:Nat} (hn:n=m):zEI b m k x=true↔∃q,q<n∧zIe b m k x q=true:=by
 subst hn;rw[zPO];constructor
 ·rintro ⟨p,h1,h2,h3⟩;have:=ok.to (s:=((p:Nat):Int)) (x:=x);exact ⟨(toD b ((p:Nat):Int) x).toNat,qO,zHU.2 ⟨p,h1,h2,qO⟩⟩
 ·rintro ⟨q,_,h2⟩;obtain ⟨p,h3,h4,h5⟩:=zHU.1 h2;exact ⟨p,h3,h4,qO⟩
section
variable (a b : Dfa) (m : Nat)
def zIJ (s:Int) (M:Nat→Bool):Nat→Bool:=fun q=>M q || (decide (0≤atD a s) && decide (((q:Nat):Int)=b.start))
def zHi:Int×ByteArray:=(a.start,zDs m (zIJ a b a.start fun _=>false))
def zGY (p:Int×ByteArray) (x:Nat):Option (Int×ByteArray):=if 0≤toD a p.1 x∨zEI b m p.2 x=true then some (toD a p.1 x,zDs m (zIJ a b (toD a p.1 x) (zIe b m p.2 x))) else none
def zKd (p:Int×ByteArray):Int:=zKG (zLs b m p.2)
end
def zWp (f g:List Nat→Int) (w:List Nat):Prop:=∃u v,w=u++v∧0≤f u∧0≤g v
section
variable {a b : Dfa} {n m c : Nat}
def SetC (a b:Dfa) (m:Nat) (w:List Nat) (k:ByteArray):Prop:=∀q:Nat,q<m→(zGh k q=true↔∃u v,w=u++v∧0≤beh a a.start u∧toW b b.start v=((q:Nat):Int))
theorem zPY (okb:OkD m c b) (w:List Nat):match zHP (zGY a b m) (zHi a b m) w with
    | some p=>p.1=toW a a.start w∧SetC a b m w p.2∧p.2=zDs m (zGh p.2)
    | none=>toW a a.start w<0∧∀u v,w=u++v→0≤beh a a.start u→toW b b.start v<0:=by
  obtain ⟨j,hj⟩:∃j,j=w.length:=⟨_,rfl⟩
  induction j generalizing w with
  | zero=>
    have:w=[]:=List.eq_nil_of_length_eq_zero hj.symm;subst this;refine ⟨rfl,fun q hq=>?_,(zJy _).symm⟩;show zGh (zDs m _) q=true↔_;rw[zEs _ hq];simp only[zIJ,Bool.false_or,Bool.and_eq_true,decide_eq_true_eq];constructor
    · rintro ⟨h1,h2⟩;exact ⟨[],[],rfl,by simpa[beh] using h1,h2.symm⟩
    · rintro ⟨u,v,h1,h2,h3⟩;obtain ⟨rfl,rfl⟩:=List.append_eq_nil_iff.1 h1.symm;exact ⟨by simpa[beh] using h2,h3.symm⟩
  | succ j ih=>
    rcases List.eq_nil_or_concat w with rfl|⟨w,x,rfl⟩
    · simp at hj
    rw[List.concat_eq_append] at hj⊢;have h1:=ih w (by simpa using hj);rw[zGA];cases hr:zHP (zGY a b m) (zHi a b m) w with
    | none=>
      rw[hr] at h1;obtain ⟨h2,h3⟩:=h1;simp only[Option.bind_none];refine ⟨by rw[zDl,zES h2];decide,fun u v e hu=>?_⟩;rcases List.eq_nil_or_concat v with rfl|⟨v,y,rfl⟩
      · rw[List.append_nil] at e;subst e;rw[zDC,zDl,zES h2] at hu;simp[atD] at hu
      · rw[List.concat_eq_append] at e⊢;rw[←List.append_assoc] at e;obtain ⟨e1,e2⟩:=List.append_inj' e rfl;rw[zDl,zES (h3 u v e1 hu)];decide
    | some p=>
      rw[hr] at h1;obtain ⟨h2,h3,h4⟩:=h1;simp only[Option.bind_some];have ab:∀q:Nat,q<m→(zIe b m p.2 x q=true↔∃u v,w=u++v∧0≤beh a a.start u∧toW b b.start (v++[x])=((q:Nat):Int)):=fun q hq=>by
        rw[zHU];constructor
        · rintro ⟨s,h5,h6,h7⟩;obtain ⟨u,v,h8,h9,aa⟩:=(h3 s h5).1 h6;exact ⟨u,v,h8,h9,by rw[zDl,aa,h7]⟩
        · rintro ⟨u,v,h8,h9,aa⟩;rw[zDl] at aa;have ad:=zEk okb v (s:=b.start) (by have:=okb.st;omega);have ae:0≤toW b b.start v:=by
            apply Classical.byContradiction;intro h;rw[zES qO] at aa;omega
          obtain ⟨s,hs⟩:=Int.eq_ofNat_of_zero_le ae;exact ⟨s,qO,(h3 s qO).2 ⟨u,v,h8,h9,hs⟩,by rw[←hs];exact aa⟩
      have ac:zEI b m p.2 x=true↔∃u v,w=u++v∧0≤beh a a.start u∧0≤toW b b.start (v++[x]):=by
        rw[zKm okb rfl];constructor
        · rintro ⟨q,h5,h6⟩;obtain ⟨u,v,h8,h9,aa⟩:=(ab q h5).1 h6;exact ⟨u,v,h8,h9,qO⟩
        · rintro ⟨u,v,h8,h9,aa⟩;have ad:=zEk okb (v++[x]) (s:=b.start) (by have:=okb.st;omega);obtain ⟨s,hs⟩:=Int.eq_ofNat_of_zero_le aa;exact ⟨s,qO,(ab s qO).2 ⟨u,v,h8,h9,hs⟩⟩
      unfold zGY;rw[h2,←zDl];by_cases hif:0≤toW a a.start (w++[x])∨zEI b m p.2 x=true
      · rw[if_pos hif];refine ⟨rfl,fun q hq=>?_,(zJy _).symm⟩;simp only;rw[zEs _ hq];simp only[zIJ,Bool.or_eq_true,Bool.and_eq_true,decide_eq_true_eq];rw[ab q hq];constructor
        · rintro (⟨u,v,h8,h9,aa⟩|⟨h8,h9⟩)
          · exact ⟨u,v++[x],by rw[h8,List.append_assoc],h9,aa⟩
          · exact ⟨w++[x],[],qP,by rw[zDC];exact h8,h9.symm⟩
        · rintro ⟨u,v,h8,h9,aa⟩;rcases List.eq_nil_or_concat v with rfl|⟨v,y,rfl⟩
          · rw[List.append_nil] at h8;right;rw[←h8,zDC] at h9;exact ⟨h9,aa.symm⟩
          · left;rw[List.concat_eq_append] at h8 aa;rw[←List.append_assoc] at h8;obtain ⟨e1,e2⟩:=List.append_inj' h8 rfl;cases e2;exact ⟨u,v,e1,h9,aa⟩
      · rw[if_neg hif];have h5:¬0≤toW a a.start (w++[x]):=fun h=>hif (.inl h);have h6:¬zEI b m p.2 x=true:=fun h=>hif (.inr h);refine ⟨qO,fun u v e hu=>?_⟩;rcases List.eq_nil_or_concat v with rfl|⟨v,y,rfl⟩
        · rw[List.append_nil] at e;subst e;rw[zDC] at hu;unfold atD at hu;rw[if_pos qO] at hu;omega
        · rw[List.concat_eq_append] at e⊢;rw[←List.append_assoc] at e;obtain ⟨e1,e2⟩:=List.append_inj' e rfl;cases e2;apply Classical.byContradiction;intro h;exact h6 (ac.2 ⟨u,v,e1,hu,qO⟩)
open Classical in
theorem zSm (okb:OkD m c b) (w:List Nat):zRA (zGY a b m) (zKd b m) (zHi a b m) w=if zWp (beh a a.start) (beh b b.start) w then 0 else -1:=by
  have h:=zPY (a:=a) okb w;unfold zRA;cases hr:zHP (zGY a b m) (zHi a b m) w with
  | none=>
    rw[hr] at h;obtain ⟨h1,h2⟩:=h;rw[if_neg];rintro ⟨u,v,h3,h4,h5⟩;have:=h2 u v h3 h4;rw[zDC] at h5;unfold atD at h5;rw[if_pos this] at h5;omega
  | some p=>
    rw[hr] at h;obtain ⟨h1,h2,_⟩:=h;simp only[zKd,zKG];have:zLs b m p.2=true↔zWp (beh a a.start) (beh b b.start) w:=by
      rw[zHZ];constructor
      · rintro ⟨q,h3,h4,h5⟩;obtain ⟨u,v,h6,h7,h8⟩:=(h2 q h3).1 h5;exact ⟨u,v,h6,h7,by rw[zDC,h8];exact h4⟩
      · rintro ⟨u,v,h6,h7,h8⟩;rw[zDC] at h8;have h11:=zEk okb v (s:=b.start) (by have:=okb.st;omega);have aa:0≤toW b b.start v:=by
          apply Classical.byContradiction;intro h;unfold atD at h8;rw[if_pos qO] at h8;omega
        obtain ⟨s,hs⟩:=Int.eq_ofNat_of_zero_le aa;exact ⟨s,qO,by rw[hs] at h8;exact h8,(h2 s qO).2 ⟨u,v,h6,h7,hs⟩⟩
    by_cases hc:zWp (beh a a.start) (beh b b.start) w
    · rw[if_pos hc,if_pos (this.2 hc)]
    · rw[if_neg hc,if_neg fun h=>hc (this.1 h)]
theorem zMJ {c':Nat} (oka:OkD n c' a) (okb:OkD m c b) {p:Int×ByteArray} (h:Rch c (zGY a b m) (zHi a b m) p):(-1≤p.1∧p.1<n)∧p.2=zDs m (zGh p.2):=by
 obtain ⟨w,_,h1⟩:=h;have h2:=zPY (a:=a) okb w;rw[h1] at h2;obtain ⟨h3,_,h4⟩:=h2;refine ⟨?_,h4⟩;rw[h3];exact zEk oka w (by have:=oka.st;omega)
theorem zSu (b:Dfa) (m:Nat) (p:Int×ByteArray) : -1≤zKd b m p∧zKd b m p<2147483648:=by unfold zKd zKG;split<;>decide
end
inductive StarW (f:List Nat→Int):List Nat→Prop where
  | nil:StarW f []
  | cons {u v:List Nat}:0≤f u→StarW f v→StarW f (u++v)
theorem StarW.app {f:List Nat→Int} {u v:List Nat} (h:StarW f u) (k:StarW f v):StarW f (u++v):=by
  induction h with
  | nil=>exact k
  | cons hu _ ih=>rw[List.append_assoc];exact .cons hu ih
theorem StarW.one {f:List Nat→Int} {u:List Nat} (h:0≤f u):StarW f u:=by
 have:=StarW.cons h .nil
 rwa [List.append_nil] at this
theorem StarW.last {f:List Nat→Int} {w:List Nat} (h:StarW f w) (hw:w≠[]):∃u v,w=u++v∧v≠[]∧StarW f u∧0≤f v:=by
  induction h with
  | nil=>exact absurd rfl hw
  | @cons u v hu hv ih=>
    by_cases hv0:v=[]
    · subst hv0;rw[List.append_nil] at hw⊢;exact ⟨[],u,rfl,hw,.nil,hu⟩
    · obtain ⟨p,q,h1,h2,h3,h4⟩:=ih hv0;exact ⟨u++p,q,by rw[h1,List.append_assoc],h2,.cons hu h3,h4⟩
section
variable (a : Dfa) (n : Nat)
def zFm:ByteArray:=zDs n fun q=>decide (((q:Nat):Int)=a.start)
def zLc (M:Nat→Bool):Nat→Bool:=fun q=>M q || (zLs a n (zDs n M) && decide (((q:Nat):Int)=a.start))
def zGW (bg:ByteArray) (k:ByteArray) (x:Nat):Option ByteArray:=let k':=if k=bg then zFm a n else k;if zEI a n k' x=true then some (zDs n (zLc a n (zIe a n k' x))) else none
def zIk (bg:ByteArray) (k:ByteArray):Int:=zKG (decide (k=bg) || zLs a n k)
end
section
variable {a : Dfa} {n c : Nat} {bg : ByteArray}
def zVM (a:Dfa) (n:Nat) (w:List Nat) (k:ByteArray):Prop:=∀q:Nat,q<n→(zGh k q=true↔∃u v,w=u++v∧StarW (beh a a.start) u∧toW a a.start v=((q:Nat):Int))
theorem zRD (oka:OkD n c a) {w:List Nat} {k:ByteArray} (hw:w≠[]) (h:zVM a n w k):zLs a n k=true↔StarW (beh a a.start) w:=by
 rw[zHZ];constructor
 ·rintro ⟨q,h1,h2,h3⟩;obtain ⟨u,v,rfl,h4,h5⟩:=(h q h1).1 h3;exact h4.app (.one (by rw[zDC,h5];exact h2))
 ·intro h1;obtain ⟨u,v,h2,_,h3,h4⟩:=h1.last hw;rw[zDC] at h4;have h11:=zEk oka v (s:=a.start) (by have:=oka.st;omega);have aa:0≤toW a a.start v:=by
   apply Classical.byContradiction;intro h;unfold atD at h4;rw[if_pos qO] at h4;omega
  obtain ⟨s,hs⟩:=Int.eq_ofNat_of_zero_le aa;exact ⟨s,qO,by rw[hs] at h4;exact h4,(h s qO).2 ⟨u,v,h2,h3,hs⟩⟩
theorem zPI (oka:OkD n c a) {w:List Nat} {k:ByteArray} (x:Nat) (h:zVM a n w k):(zEI a n k x=true→zVM a n (w++[x]) (zDs n (zLc a n (zIe a n k x))))∧(¬zEI a n k x=true→∀u v,w=u++v→StarW (beh a a.start) u→toW a a.start (v++[x])<0):=by
 have ab:∀q:Nat,q<n→(zIe a n k x q=true↔∃u v,w=u++v∧StarW (beh a a.start) u∧toW a a.start (v++[x])=((q:Nat):Int)):=fun q hq=>by
  rw[zHU];constructor
  ·rintro ⟨s,h5,h6,h7⟩;obtain ⟨u,v,h8,h9,aa⟩:=(h s h5).1 h6;exact ⟨u,v,h8,h9,by rw[zDl,aa,h7]⟩
  ·rintro ⟨u,v,h8,h9,aa⟩;rw[zDl] at aa;have ad:=zEk oka v (s:=a.start) (by have:=oka.st;omega);have ac:0≤toW a a.start v:=by
    apply Classical.byContradiction;intro h;rw[zES qO] at aa;omega
   obtain ⟨s,hs⟩:=Int.eq_ofNat_of_zero_le ac;exact ⟨s,qO,(h s qO).2 ⟨u,v,h8,h9,hs⟩,by rw[←hs];exact aa⟩
 refine ⟨fun _=>?_,fun hs u v h8 h9=>?_⟩
 ·have ae:zLs a n (zDs n (zIe a n k x))=true↔StarW (beh a a.start) (w++[x]):=by
   rw[zHZ];constructor
   ·rintro ⟨q,h1,h2,h3⟩;rw[zEs _ h1] at h3;obtain ⟨u,v,rfl,h4,h5⟩:=(ab q h1).1 h3;rw[List.append_assoc];exact h4.app (.one (by rw[zDC,h5];exact h2))
   ·intro h1;obtain ⟨u,v,h2,af,h3,h4⟩:=h1.last qP;rcases List.eq_nil_or_concat v with rfl|⟨v,y,rfl⟩
    ·exact absurd rfl af
    rw[List.concat_eq_append] at h2 h4;rw[←List.append_assoc] at h2;obtain ⟨e1,e2⟩:=List.append_inj' h2 rfl;cases e2;rw[zDC] at h4;have ad:=zEk oka (v++[x]) (s:=a.start) (by have:=oka.st;omega);have ac:0≤toW a a.start (v++[x]):=by
     apply Classical.byContradiction;intro h;unfold atD at h4;rw[if_pos qO] at h4;omega
    obtain ⟨s,hs⟩:=Int.eq_ofNat_of_zero_le ac;exact ⟨s,qO,by rw[hs] at h4;exact h4,by rw[zEs _ qO];exact (ab s qO).2 ⟨u,v,e1,h3,hs⟩⟩
  intro q hq;rw[zEs _ hq];simp only[zLc,Bool.or_eq_true,Bool.and_eq_true,decide_eq_true_eq];rw[ab q hq,ae];constructor
  ·rintro (⟨u,v,h8,h9,aa⟩|⟨h8,h9⟩)
   ·exact ⟨u,v++[x],by rw[h8,List.append_assoc],h9,aa⟩
   ·exact ⟨w++[x],[],qP,h8,h9.symm⟩
  ·rintro ⟨u,v,h8,h9,aa⟩;rcases List.eq_nil_or_concat v with rfl|⟨v,y,rfl⟩
   ·rw[List.append_nil] at h8;right;rw[←h8] at h9;exact ⟨h9,aa.symm⟩
   ·left;rw[List.concat_eq_append] at h8 aa;rw[←List.append_assoc] at h8;obtain ⟨e1,e2⟩:=List.append_inj' h8 rfl;cases e2;exact ⟨u,v,e1,h9,aa⟩
 ·apply Classical.byContradiction;intro aa;have ad:=zEk oka (v++[x]) (s:=a.start) (by have:=oka.st;omega);obtain ⟨s,ag⟩:=Int.eq_ofNat_of_zero_le (show 0≤toW a a.start (v++[x]) by omega);exact hs ((zKm oka rfl).2 ⟨s,qO,(ab s qO).2 ⟨u,v,h8,h9,ag⟩⟩)
theorem zSH (oka:OkD n c a):zVM a n [] (zFm a n):=fun q hq=>by
 unfold zFm;rw[zEs _ hq];simp only[decide_eq_true_eq];constructor
 ·intro h;exact ⟨[],[],rfl,.nil,h.symm⟩
 ·rintro ⟨u,v,h1,_,h3⟩;obtain ⟨rfl,rfl⟩:=List.append_eq_nil_iff.1 h1.symm;exact h3.symm
theorem zMy (oka:OkD n c a) (hbg:bg.size≠(n+7) / 8) (w:List Nat):match zHP (zGW a n bg) bg w with
    | some k=>(w=[]∧k=bg)∨(w≠[]∧zVM a n w k∧k=zDs n (zGh k))
    | none=>w≠[]∧∀u v,w=u++v→StarW (beh a a.start) u→toW a a.start v<0∨v=[]:=by
  obtain ⟨j,hj⟩:∃j,j=w.length:=⟨_,rfl⟩
  induction j generalizing w with
  | zero=>
    have:w=[]:=List.eq_nil_of_length_eq_zero hj.symm;subst this;exact .inl ⟨rfl,rfl⟩
  | succ j ih=>
    rcases List.eq_nil_or_concat w with rfl|⟨w,x,rfl⟩
    · simp at hj
    rw[List.concat_eq_append] at hj⊢;have h1:=ih w (by simpa using hj);rw[zGA];have aa:∀{p q:List Nat},w++[x]=p++q→q=[]∨∃q',q=q'++[x]∧w=p++q':=fun {p q} e=>by
      rcases List.eq_nil_or_concat q with rfl|⟨q,y,rfl⟩
      · exact .inl rfl
      · rw[List.concat_eq_append] at e⊢;rw[←List.append_assoc] at e;obtain ⟨e1,e2⟩:=List.append_inj' e rfl;cases e2;exact .inr ⟨q,rfl,e1⟩
    cases hr:zHP (zGW a n bg) bg w with
    | none=>
      rw[hr] at h1;obtain ⟨h2,h3⟩:=h1;simp only[Option.bind_none];refine ⟨qP,fun u v e hu=>?_⟩;rcases aa e with h|⟨q,rfl,e1⟩
      · exact .inr h
      · left;rw[zDl];rcases h3 u q e1 hu with h|h
        · rw[zES h];decide
        · subst h;rw[List.append_nil] at e1;subst e1;obtain ⟨p,q,h4,h5,h6,h7⟩:=hu.last h2;rcases h3 p q h4 h6 with h|h
          · rw[zDC] at h7;unfold atD at h7;rw[if_pos h] at h7;omega
          · exact absurd h h5
    | some k=>
      rw[hr] at h1;simp only[Option.bind_some,zGW];have hk:zVM a n w (if k=bg then zFm a n else k):=by
        rcases h1 with ⟨rfl,rfl⟩|⟨h2,h3,h4⟩
        · rw[if_pos rfl];exact zSH oka
        · rw[if_neg]
          · exact h3
          · intro e;rw[e] at h4;rw[h4,zCl] at hbg;exact hbg rfl
      obtain ⟨h5,h6⟩:=zPI oka x hk;by_cases hs:zEI a n (if k=bg then zFm a n else k) x=true
      · rw[if_pos hs];exact .inr ⟨qP,h5 hs,(zJy _).symm⟩
      · rw[if_neg hs];refine ⟨qP,fun u v e hu=>?_⟩;rcases aa e with h|⟨q,rfl,e1⟩
        · exact .inr h
        · exact .inl (h6 hs u q e1 hu)
open Classical in
theorem zQz (oka:OkD n c a) (hbg:bg.size≠(n+7) / 8) (w:List Nat):zRA (zGW a n bg) (zIk a n bg) bg w=if StarW (beh a a.start) w then 0 else -1:=by
  have h:=zMy oka hbg w;unfold zRA;cases hr:zHP (zGW a n bg) bg w with
  | none=>
    rw[hr] at h;obtain ⟨h1,h2⟩:=h;rw[if_neg];intro h3;obtain ⟨u,v,h4,h5,h6,h7⟩:=h3.last h1;rcases h2 u v h4 h6 with h|h
    · rw[zDC] at h7;unfold atD at h7;rw[if_pos h] at h7;omega
    · exact absurd h h5
  | some k=>
    rw[hr] at h;rcases h with ⟨rfl,rfl⟩|⟨h2,h3,h4⟩
    · rw[if_pos StarW.nil];simp[zIk,zKG]
    · have aa:k≠bg:=fun e=>by
        rw[e] at h4;rw[h4,zCl] at hbg;exact hbg rfl
      simp only[zIk,zKG,decide_eq_false aa,Bool.false_or];have:=zRD oka h2 h3;by_cases hc:StarW (beh a a.start) w
      · rw[if_pos hc,if_pos (this.2 hc)]
      · rw[if_neg hc,if_neg fun h=>hc (this.1 h)]
theorem zNB (oka:OkD n c a) (hbg:bg.size≠(n+7) / 8) {k:ByteArray} (h:Rch c (zGW a n bg) bg k):k=bg∨k=zDs n (zGh k):=by
 obtain ⟨w,_,h1⟩:=h;have h2:=zMy oka hbg w;rw[h1] at h2;exact h2.imp (fun h=>h.2) fun h=>h.2.2
theorem zSs (a:Dfa) (n:Nat) (bg k:ByteArray) : -1≤zIk a n bg k∧zIk a n bg k<2147483648:=by unfold zIk zKG;split<;>decide
end
end Go.Proofs
namespace Go.Proofs
open Go Go.Eng Go.Sort
set_option maxRecDepth 100000
theorem zSc (b:Bool) (w:World) (k:Int×Int):(Instr.checkKey b 10000 163 (zIA k)).run prog w=.ok () w:=by kernel_rfl
theorem zSB:∃i,prog.info? 3=some i:=info_of_underlying underlying3
theorem zQs:prog.cellsOf 3=1:=by kernel_rfl
theorem zQI:KeyOk prog 163 zIA:=zQF (by rw[underlying163]) zSc (fun w a b=>by obtain ⟨i,hi⟩:=zSB;exact zWP underlying163 underlying3 hi zQs w a b) zPV
theorem zNJ {w:World} {b e base:Nat} {u v:Value} (h:Blk w b #[u,v] e) (hb:base≤b):w.ownsRow base e 2 (.slice (some ⟨b,0,none⟩) 1 1) 1 [u,v]:=
 ⟨rfl,.inr ⟨b,1,#[u,v],rfl,hb,h,Nat.le_refl _,qD,rfl,rfl⟩⟩
theorem zUg (w0:World) (first:Int×Int) (c most:Nat) (sv av:Value) (stp:Int×Int→Nat→Option (Int×Int)) (acc:Int×Int→Int) (hc:1≤c∧c≤16) (hm:1≤most∧most≤20000) (hac:∀k,Rch c stp first k→-1≤acc k∧acc k<2147483648)
  (hs:∀w k x,Ext w0 w→Rch c stp first k→x<c→zCG prog sv #[.agg #[.int .i64 k.1,.int .i64 k.2],.int .i64 ((x:Nat):Int)] w fun r w'=>(∃q,r=.tuple #[.agg #[.int .i64 q.1,.int .i64 q.2],.bool (stp k x).isSome]∧∀b,stp k x=some b→q=b)∧Ext w w')
  (ha:∀w k,Ext w0 w→Rch c stp first k→zCG prog av #[.agg #[.int .i64 k.1,.int .i64 k.2]] w fun r w'=>r=.int .i64 (acc k)∧Ext w w') :
  Ret prog 129 #[.agg #[.int .i64 first.1,.int .i64 first.2],.int .i64 ((c:Nat):Int),sv,av,.int .i64 ((most:Nat):Int)] w0 fun r w=>zJa c most stp acc first w0.heap.size r w∧Ext w0 w:=by
 have cu:∀k,(kcP k).length=2:=fun _=>rfl;refine qR func129 rfl ntmps129 rfl (fun E=>(zAA (zBQ (v:=(.agg #[(I6 first.1),(I6 first.2)])) (c:=#[(I6 first.1),(I6 first.2)]) qD rfl rfl ?_)));intro bf wf Nf;have Ff:=Nf.ge E;replace E:=E.ext Nf.ext;have Bf:=Nf.blk;refine zBH (c:=#[(I6 0),(.slice none 0 0),(.slice none 0 0)]) qD zBf rfl ?_;intro br wr Nr;have Fr:=Nr.ge E;have Or_bf:=Nr.lt Bf;replace Bf:=Nr.keep Bf;replace E:=E.ext Nr.ext;have Br:=Nr.blk;refine qA (.bool false) rfl (zAB (zAA (qV (zAK (vs:=[(I6 first.1),(I6 first.2)]) rfl zED zCL rfl (Bf.cells rfl)) (zAc (ps:=[(0,(.agg #[(I6 first.1),(I6 first.2)]))]) (c:=#[(I6 first.1),(I6 first.2)]) qD rfl underlying197 zCL zIs qD qD qK ?_))));intro bs ws Ns;have Fs:=Ns.ge E;have Os_bf:=Ns.lt Bf;have Os_br:=Ns.lt Br;replace Bf:=Ns.keep Bf;replace Br:=Ns.keep Br;replace E:=E.ext Ns.ext;have Bs:=Ns.blk;refine qA (.slice (some ⟨bs,0,none⟩) 1 1) rfl (zAB (zAA (zEW zIA zEz qD ?_)));intro bm wm Nm;have Fm:=Nm.ge E;have Om_bf:=Nm.lt Bf;have Om_br:=Nm.lt Br;have Om_bs:=Nm.lt Bs;replace Bf:=Nm.keep Bf;replace Br:=Nm.keep Br;replace Bs:=Nm.keep Bs;replace E:=E.ext Nm.ext;intro Mm;refine qV (zAK (vs:=[(I6 first.1),(I6 first.2)]) rfl zED zCL rfl (Bf.cells rfl)) (zHO (k:=(first.1,first.2)) (v:=0) underlying198 (zQI) Mm rfl rfl rfl ?_);intro w1 S1 H1;replace Bf:=S1.keep qO Bf;replace Br:=S1.keep qO Br;replace Bs:=S1.keep qO Bs;replace E:=S1.step E qQ;replace Mm:=H1;refine qM (.map (some bm)) rfl (qA (.map (some bm)) rfl (zAB (zAA (zBH (c:=#[(I6 0),(.slice none 0 0),(.slice none 0 0)]) qD zBf rfl ?_))));intro bd wd Nd;have Fd:=Nd.ge E;have Od_bf:=Nd.lt Bf;have Od_br:=Nd.lt Br;have Od_bs:=Nd.lt Bs;have Od_bm:=Nd.ltM Mm;replace Bf:=Nd.keep Bf;replace Br:=Nd.keep Br;replace Bs:=Nd.keep Bs;replace Mm:=Nd.keepM Mm;replace E:=E.ext Nd.ext;have Bd:=Nd.blk;refine zAB (zAH (zAA (qA (I6 0) rfl (zAB (zAS ?_)))));obtain ⟨n1,c4⟩:∃n1,n1=bs:=⟨_,rfl⟩;obtain ⟨n2,ar⟩:∃n2,n2=(wd).heap.size:=⟨_,rfl⟩;have eb:br<n2∧bs<n2∧bm<n2∧bd<n2:=⟨by rw[ar];exact Br.lt,by rw[ar];exact Bs.lt,by rw[ar];exact Mm.lt,by rw[ar];exact Bd.lt⟩;have cl:w0.heap.size≤n1∧w0.heap.size≤n2:=qO
 have dk:(wd).ownsRow n1 163 2 (.slice (some ⟨bs,0,none⟩) 1 1) 1 ([first].map kcP).flatten:=zNJ (base:=n1) Bs qO;refine zAp (fun nn_ σ W2=>∃(i:Nat) (ab:List (List Int)) (ks:List (Int×Int)) (ac:List Int) (vs:List Value) (sa ea ag:Option Addr) (ae sn ec af:Nat),(∃jj_,σ=zCT jj_ [(1,(I6 (c:Int))),(2,sv),(3,av),(4,(I6 (most:Int))),(10,(P6 br 0)),(13,(.map (some bm))),(14,(P6 bd 0)),(15,(I6 (i:Int))),(12,(.slice sa sn ae))])∧Chg zAh w0 W2∧Blk W2 br #[(I6 0),(.slice none 0 0),(.slice none 0 0)] 34∧zCC W2 bm zIA zEz (zBN ks 0)∧Blk W2 bd (#[Value.int .i64 0,.slice ea i ec,.slice ag i af]) 34∧(ExpP c stp first ks ab [])∧(ab.length=i)∧(ks.length≤most)∧(sn=ks.length)∧(i≤sn)∧(ac=(ks.take i).map acc)∧(W2.ownsRow n1 163 2 (.slice sa sn ae) sn (ks.map kcP).flatten)∧(OutSt W2 n2 (.slice ea i ec) (.slice ag i af) vs ac ab)∧(∀b,(Value.slice sa sn ae).ownBlock=some b→¬zGv (.slice ea i ec) (.slice ag i af) vs b∧b≠bm∧b≠bd)∧(n2≤W2.heap.size)∧nn_=most - i) (n:=most - 0) ?_ ?_
 ·exact ⟨0,[],[first],[],[],some ⟨bs,0,none⟩,none,none,1,1,0,0,zAz.out ⟨rfl,rfl,rfl,rfl,rfl,rfl,rfl,rfl,rfl,trivial⟩,E,Br,Mm,Bd,ExpP.start _ _ _,rfl,hm.1,rfl,qO,rfl,dk,OutSt.start _ _,(fun b hb=>⟨(fun h=>by rcases h with h|h|⟨i,v,h,_⟩;cases h;cases h;simp at h),(by have c9:bs=b:=Option.some.inj hb;omega),(by have c9:bs=b:=Option.some.inj hb;omega)⟩),qO,rfl⟩
 ·clear E Br Mm Bd;rintro _ _ W2 ⟨i,ab,ks,ac,vs,sa,ea,ag,ae,sn,ec,af,⟨j2,rfl⟩,E,Br,Mm,Bd,hC,b1,a5,ba,dr,a2,hS,hO,ah,ak,rfl⟩;refine zAH (zAA (qM (I6 (i:Int)) rfl (qM (.slice sa sn ae) rfl (qV (zAJ (ad:=sa) (n:=sn) (cap:=ae) underlying197 rfl) (qV (zBF (k:=.i64) (a:=(i:Int)) (b:=(sn:Int)) rfl rfl) (zAB (qC rfl (fun dn=>?_) (fun dn=>?_))))))))
  ·obtain ⟨k,am⟩:=zAN (l:=ks) (i:=i) qO;have c3:=hC.rch k (List.mem_of_getElem? am);obtain ⟨sb,rfl,d0,hsc⟩:=zBe hS qO;obtain ⟨z0,hz0⟩:∃z0,z0=(W2).heap.size:=⟨_,rfl⟩;have d6:n2≤z0:=qO
   have b2:∀b,zGv (.slice ea i ec) (.slice ag i af) vs b→b<z0:=fun b hb=>by have:=(hO.lt hb).2;omega
   have d1:∀b,(Value.slice (some ⟨sb,0,none⟩) sn ae).ownBlock=some b→b<z0:=fun b hb=>by have:=(hS.lt b hb).2;omega
   refine zAO (zAC (zAH (zAS (zAA (qM (I6 (c:Int)) rfl (zEx (n:=c) (z:=(I6 0)) (bytes:=8) qD underlying22 zAy zJU zDI rfl rfl rfl qO qO ?_))))));intro bq wq Nq;have Fq:=Nq.ge E;have Oq_br:=Nq.lt Br;have Oq_bm:=Nq.ltM Mm;have Oq_bd:=Nq.lt Bd;replace Br:=Nq.keep Br;replace Mm:=Nq.keepM Mm;replace Bd:=Nq.keep Bd;replace hS:=zAj hS Nq.ext;replace hO:=hO.ext Nq.ext;replace ak:=Nat.le_trans ak Nq.ext.size;replace E:=E.ext Nq.ext;have Bq:=Nq.blk;refine qA (.slice (some ⟨bq,0,none⟩) c c) rfl (zAB (zAH (zAA (qM (I6 (c:Int)) rfl (qM (I6 0) rfl (zAB (zAS ?_)))))));have hqz:z0≤bq:=by have:=Nq.eq;omega
   rw[show List.replicate c (Value.int .i64 0)=(List.replicate c (0:Int)).map (Value.int .i64) by simp] at Bq;refine zAp (fun nn_ σ W4=>∃(x:Nat) (R:List Int) (ks:List (Int×Int)) (sa:Option Addr) (ae sn:Nat),(∃jj_,σ=zCT jj_ [(1,(I6 (c:Int))),(2,sv),(3,av),(4,(I6 (most:Int))),(10,(P6 br 0)),(13,(.map (some bm))),(14,(P6 bd 0)),(15,(I6 (i:Int))),(16,(.slice (some ⟨bq,0,none⟩) c c)),(35,(I6 (c:Int))),(36,(I6 (x:Int))),(12,(.slice sa sn ae))])∧Chg zAh w0 W4∧Blk W4 br #[(I6 0),(.slice none 0 0),(.slice none 0 0)] 34∧zCC W4 bm zIA zEz (zBN ks 0)∧Blk W4 bd (#[Value.int .i64 0,.slice ea i ec,.slice ag i af]) 34∧Blk W4 bq ((R.map (Value.int .i64)).toArray) 3∧(x≤c)∧(R.length=c)∧(ExpP c stp first ks ab (R.take x))∧(ks.length≤most)∧(ks[i]?=some k)∧(sn=ks.length)∧((ks.take i).map acc=ac)∧(W4.ownsRow n1 163 2 (.slice sa sn ae) sn (ks.map kcP).flatten)∧(OutSt W4 n2 (.slice ea i ec) (.slice ag i af) vs ac ab)∧(∀b,(Value.slice sa sn ae).ownBlock=some b→¬zGv (.slice ea i ec) (.slice ag i af) vs b∧b≠bm∧b≠bd∧b≠bq)∧(n2≤W4.heap.size)∧nn_=c - x) (n:=c - 0) ?_ ?_
   ·exact ⟨0,List.replicate c 0,ks,some ⟨sb,0,none⟩,ae,sn,zAz.out ⟨rfl,rfl,rfl,rfl,rfl,rfl,rfl,rfl,rfl,rfl,rfl,rfl,trivial⟩,E,Br,Mm,Bd,Bq,Nat.zero_le _,qP,(by simpa using hC),a5,am,ba,a2.symm,hS,hO,(fun b hb=>⟨(ah b hb).1,(ah b hb).2.1,(ah b hb).2.2,fun e=>by have:=d1 b hb;omega⟩),ak,rfl⟩
   ·clear E Br Mm Bd Bq;rintro _ _ W4 ⟨x,R,ks,sa,ae,sn,⟨j4,rfl⟩,E,Br,Mm,Bd,Bq,hx,bi,hC,a5,am,ba,b0,hS,hO,ah,ak,rfl⟩;refine zAA (qV (zBF (k:=.i64) (a:=(x:Int)) (b:=(c:Int)) rfl rfl) (zAB (zAH (qC rfl (fun cf=>?_) (fun cf=>?_)))))
    ·obtain ⟨ai,rfl,_,bc⟩:=zBe hS (by have:=zAE am;omega);have d2:i<sn:=by have:=zAE am;omega
     have cj:zBE (W4) ai (0+i*2) [.int .i64 k.1,.int .i64 k.2]:=zDP cu bc am;refine zAO (zAC (zAH (zAS (zAA (qM (I6 (x:Int)) rfl (qA (I6 (x:Int)) rfl (zAB (zAA (qM sv rfl (qM (.slice (some ⟨ai,0,none⟩) sn ae) rfl (qM (I6 (i:Int)) rfl (qV (zAD (b:=ai) (o:=0) (len:=sn) (cap:=ae) (i:=i) (o':=0+i*2) rfl rfl rfl underlying197 zCL qO qO) (qV (zAK (vs:=[(I6 k.1),(I6 k.2)]) rfl zED zCL rfl (cj)) (qM (I6 (x:Int)) rfl (zDD (fv:=sv) (vs:=[(.agg #[(I6 k.1),(I6 k.2)]),(I6 (x:Int))]) qD rfl rfl (hs _ k x E c3 qO) ?_)))))))))))))));rintro _ w9 ⟨⟨q,rfl,hq⟩,X9⟩;replace Br:=X9.keep Br;replace Mm:=X9.keepM Mm;replace Bd:=X9.keep Bd;replace Bq:=X9.keep Bq;replace E:=E.ext X9;have hS:=zAj hS X9;have hO:=hO.ext X9;have ak:=Nat.le_trans ak X9.size;obtain ⟨zz,hzz⟩:∃zz,zz=(w9).heap.size:=⟨_,rfl⟩;have cr:∀b,(Value.slice (some ⟨ai,0,none⟩) sn ae).ownBlock=some b→b<zz:=fun b hb=>by have:=(hS.lt b hb).2;omega
     have be:(R.take x).length=x:=by simp;omega
     have a4:ks[ab.length]?=some k:=by rw[b1];exact am
     have dq:=zBt (L:=R) (s:=x) (x:=-1) qO;refine qM (.tuple #[(.agg #[(I6 q.1),(I6 q.2)]),(.bool ((stp k x).isSome))]) rfl (qV (zAa (vs:=#[(.agg #[(I6 q.1),(I6 q.2)]),(.bool ((stp k x).isSome))]) (v:=(.agg #[(I6 q.1),(I6 q.2)])) rfl rfl) (qV (zAa (vs:=#[(.agg #[(I6 q.1),(I6 q.2)]),(.bool ((stp k x).isSome))]) (v:=(.bool ((stp k x).isSome))) rfl rfl) (zAd (v:=(.agg #[(I6 q.1),(I6 q.2)])) (c:=#[(I6 q.1),(I6 q.2)]) (n:=2) qD zIs rfl zCL rfl rfl rfl qS ?_)));intro bz wz Nz;have Fz:=Nz.ge E;have Oz_br:=Nz.lt Br;have Oz_bm:=Nz.ltM Mm;have Oz_bd:=Nz.lt Bd;have Oz_bq:=Nz.lt Bq;replace Br:=Nz.keep Br;replace Mm:=Nz.keepM Mm;replace Bd:=Nz.keep Bd;replace Bq:=Nz.keep Bq;replace hS:=zAj hS Nz.ext;replace hO:=hO.ext Nz.ext;replace ak:=Nat.le_trans ak Nz.ext.size;replace E:=E.ext Nz.ext;have Bz:=Nz.blk;refine qA (.bool ((stp k x).isSome)) rfl (zAB (zAH (zAA (qM (.slice (some ⟨bq,0,none⟩) c c) rfl (qM (I6 (x:Int)) rfl (qV (zAD (b:=bq) (o:=0) (len:=c) (cap:=c) (i:=x) (o':=0+x) rfl rfl rfl underlying22 zAy qO qO) (zBC (b:=bq) (o:=0+x) (c':=((R.set x (-1)).map (Value.int .i64)).toArray) (v:=(I6 (-1))) rfl rfl rfl zAy Bq (by simp;omega) (zCX _) ?_)))))));intro w6 S6;replace hS:=zAq hS S6.chg fun b hb h=>(ah b hb).2.2.2 h;replace hO:=hO.chg S6.chg fun b hb h=>by have:=b2 b hb;have h':b=bq:=h;omega
     replace ak:=Nat.le_trans ak S6.chg.size;replace Br:=S6.keep qO Br;replace Mm:=S6.keepM qO Mm;replace Bd:=S6.keep qO Bd;replace Bz:=S6.keep qO Bz;replace E:=S6.step E qQ;replace Bq:=S6.blk;refine zAB (zAA (qM (.bool ((stp k x).isSome)) rfl (qV (zCa (b:=(stp k x).isSome) rfl) (zAB (zBD (b:=!((stp k x).isSome)) rfl (fun au=>?_) (fun au=>?_))))))
     ·have cd:=au;replace au:=by simpa using au
      have ck:stp k x=none:=by simpa using au
      have dd:zIo stp ks k (R.take x).length (-1):=by unfold zIo;rw[be,ck]
      refine zAn (zAT (zAg (zAC (zAF (qV (zAv (k:=.i64) (a:=(x:Int)) (b:=1) (c:=(x:Int)+1) rfl rfl (zBb qO)) (qM (I6 ((x:Int)+1)) rfl (zAB (zAC ?_))))))));exact ⟨c - (x+1),qO,x+1,R.set x (-1),ks,some ⟨ai,0,none⟩,ae,sn,zAz.out ⟨rfl,rfl,rfl,rfl,rfl,rfl,rfl,rfl,rfl,rfl,rfl,rfl,trivial⟩,E,Br,Mm,Bd,Bq,qO,(by simp[bi]),(by rw[dq];exact hC.add a4 dd),a5,am,ba,b0,hS,hO,ah,ak,rfl⟩
     ·have cd:=au;replace au:=by simpa using au
      obtain ⟨q',ce⟩:=Option.isSome_iff_exists.1 (show (stp k x).isSome=true by simpa using au);have c7:=hq q' ce;subst c7;refine zAO (zAC (zAA (qM (.map (some bm)) rfl (qV (zAK (vs:=[(I6 q.1),(I6 q.2)]) rfl zED zCL rfl (Bz.cells rfl)) (zBo (v:=(.tuple #[(I6 ((zBr (zBN ks 0) (q.1,q.2)).getD 0)),(.bool ((zBr (zBN ks 0) (q.1,q.2)).isSome))])) rfl rfl qD (zEY (k:=(q.1,q.2)) (z:=0) underlying198 (zQI) zDI Mm rfl rfl) (qM (.tuple #[(I6 ((zBr (zBN ks 0) (q.1,q.2)).getD 0)),(.bool ((zBr (zBN ks 0) (q.1,q.2)).isSome))]) rfl (qV (zAa (vs:=#[(I6 ((zBr (zBN ks 0) (q.1,q.2)).getD 0)),(.bool ((zBr (zBN ks 0) (q.1,q.2)).isSome))]) (v:=(I6 ((zBr (zBN ks 0) (q.1,q.2)).getD 0))) rfl rfl) (qV (zAa (vs:=#[(I6 ((zBr (zBN ks 0) (q.1,q.2)).getD 0)),(.bool ((zBr (zBN ks 0) (q.1,q.2)).isSome))]) (v:=(.bool ((zBr (zBN ks 0) (q.1,q.2)).isSome))) rfl rfl) (qA (I6 ((zBr (zBN ks 0) (q.1,q.2)).getD 0)) rfl (qA (.bool ((zBr (zBN ks 0) (q.1,q.2)).isSome)) rfl (zAB (zGU (fun σ W8=>∃(ax:List (Int×Int)) (j:Nat) (bu:Option Addr) (bx bb:Nat),(∃jj_,σ=zCT jj_ [(1,(I6 (c:Int))),(2,sv),(3,av),(4,(I6 (most:Int))),(10,(P6 br 0)),(13,(.map (some bm))),(14,(P6 bd 0)),(15,(I6 (i:Int))),(16,(.slice (some ⟨bq,0,none⟩) c c)),(17,(I6 (x:Int))),(35,(I6 (c:Int))),(36,(I6 (x:Int))),(12,(.slice bu bb bx)),(20,(I6 (j:Int)))])∧Chg zAh w0 W8∧Blk W8 br #[(I6 0),(.slice none 0 0),(.slice none 0 0)] 34∧zCC W8 bm zIA zEz (zBN ax 0)∧Blk W8 bd (#[Value.int .i64 0,.slice ea i ec,.slice ag i af]) 34∧Blk W8 bq (((R.set x (-1)).map (Value.int .i64)).toArray) 3∧Blk W8 bz #[(I6 q.1),(I6 q.2)] 163∧(ExpP c stp first ax ab (R.take x++[(j:Int)]))∧(ax.length≤most)∧(ax[i]?=some k)∧(bb=ax.length)∧((ax.take i).map acc=ac)∧(W8.ownsRow n1 163 2 (.slice bu bb bx) bb (ax.map kcP).flatten)∧(OutSt W8 n2 (.slice ea i ec) (.slice ag i af) vs ac ab)∧(∀b,(Value.slice bu bb bx).ownBlock=some b→¬zGv (.slice ea i ec) (.slice ag i af) vs b∧b≠bm∧b≠bd∧b≠bq)∧(n2≤W8.heap.size)) ?_ ?_))))))))))))
      ·skip
       refine zAA (qM (.bool ((zBr (zBN ks 0) (q.1,q.2)).isSome)) rfl (qV (zCa (b:=(zBr (zBN ks 0) (q.1,q.2)).isSome) rfl) (zAB (zBD (b:=!((zBr (zBN ks 0) (q.1,q.2)).isSome)) rfl (fun aj=>?_) (fun aj=>?_)))))
       ·have bv:=aj;replace aj:=by simpa using aj
        have d7:zBr (zBN ks 0) q=none:=by simpa using aj
        obtain ⟨b3,b4⟩:=zGe d7;have cm:=hC.new a4 qO (by rw[be];exact ce) b3;refine zAA (qM (.slice (some ⟨ai,0,none⟩) sn ae) rfl (qV (zAJ (ad:=some ⟨ai,0,none⟩) (n:=sn) (cap:=ae) underlying197 rfl) (qA (I6 (sn:Int)) rfl (zAB (zAH (zAA (qM (I6 (sn:Int)) rfl (qM (I6 (most:Int)) rfl (qV (zAs (k:=.i64) (a:=(sn:Int)) (b:=(most:Int)) rfl rfl) (zAB (qC rfl (fun bw=>?_) (fun bw=>?_))))))))))))
        ·refine zAA (qV (zBA (ps:=[]) (v:=(.agg #[(I6 0),(.slice none 0 0),(.slice none 0 0)])) rfl qK) (zAb (b:=br) (o:=0) (c':=#[(I6 0),(.slice none 0 0),(.slice none 0 0)]) rfl rfl qS zAe rfl Br qL rfl ?_));intro w11 bh;replace Mm:=bh.keepM qO Mm;replace Bd:=bh.keep qO Bd;replace Bq:=bh.keep qO Bq;replace Bz:=bh.keep qO Bz;replace E:=bh.step E qQ;replace Br:=bh.blk;refine qA (.bool false) rfl (zAB (zAV (zAU (zAU (zAi (zAU (zAU (zAi (zAU (zAi (zAU (zAU (zAi (zAU (zAu results129 (vs:=[(.int .i64 0),(.slice none 0 0),(.slice none 0 0)]) (b:=br) (v':=(.bool false)) rfl zAx zAe rfl (Br.cells rfl) rfl ?_)))))))))))))));exact ⟨.inr ⟨fun hF=>by have h9:=hF _ cm.nd cm.rch;rw[List.length_append,List.length_singleton] at h9;omega,rfl⟩,E⟩
        ·refine zAO (zAC (zAA (qM (.map (some bm)) rfl (qV (zAK (vs:=[(I6 q.1),(I6 q.2)]) rfl zED zCL rfl (Bz.cells rfl)) (qM (I6 (sn:Int)) rfl (zDJ (k:=(q.1,q.2)) (v:=(sn:Int)) underlying198 (zQI) Mm rfl rfl rfl ?_))))));intro w12 az dw;replace hS:=zAq hS az.chg fun b hb h=>(ah b hb).2.1 h;replace hO:=hO.chg az.chg fun b hb h=>by have:=(hO.lt hb).1;have h':b=bm:=h;omega
         replace ak:=Nat.le_trans ak az.chg.size;replace Br:=az.keep qO Br;replace Bd:=az.keep qO Bd;replace Bq:=az.keep qO Bq;replace Bz:=az.keep qO Bz;replace E:=az.step E qQ;replace Mm:=dw;refine zAB (zAF (qM (.slice (some ⟨ai,0,none⟩) sn ae) rfl (qV (zAK (vs:=[(I6 q.1),(I6 q.2)]) rfl zED zCL rfl (Bz.cells rfl)) (zAc (ps:=[(0,(.agg #[(I6 q.1),(I6 q.2)]))]) (c:=#[(I6 q.1),(I6 q.2)]) qD rfl underlying197 zCL zIs qD qD qK ?_))));intro b13 dc al;have F13:=al.ge E;have O13_br:=al.lt Br;have O13_bm:=al.ltM Mm;have O13_bd:=al.lt Bd;have O13_bq:=al.lt Bq;have O13_bz:=al.lt Bz;replace Br:=al.keep Br;replace Mm:=al.keepM Mm;replace Bd:=al.keep Bd;replace Bq:=al.keep Bq;replace Bz:=al.keep Bz;replace hS:=zAj hS al.ext;replace hO:=hO.ext al.ext;replace ak:=Nat.le_trans ak al.ext.size;replace E:=E.ext al.ext;have d3:=al.blk;have ed:bq<(dc).heap.size:=Bq.lt;refine zBp (base:=n1) (n:=sn) (m:=1) (xs:=(ks.map kcP).flatten) (news:=[(I6 q.1),(I6 q.2)]) (size:=2) (bytes:=16) (v:=(.slice (some ⟨ai,0,none⟩) sn ae)) qD underlying197 zCL zWY zIs rfl qD rfl hS rfl (rfl) (d3.cells rfl) qS (by unfold maxLen;omega) qO (qO) ?_;intro v7 di cy a3 dv;replace Br:=a3.keep (fun h=>by have:=(hS.lt _ h).1;omega) Br;replace Mm:=a3.keepM (fun h=>(ah _ h).2.1 rfl) Mm;replace Bd:=a3.keep (fun h=>(ah _ h).2.2.1 rfl) Bd;replace Bq:=a3.keep (fun h=>(ah _ h).2.2.2 rfl) Bq;replace Bz:=a3.keep (fun h=>(by have:=cr _ h;have:=Nz.eq;omega)) Bz;replace E:=E.step a3 (fun x hx h=>absurd (hS.lt x h).1 qO);obtain ⟨ct,c1,rfl⟩:=zBO cy;replace Mm:zCC (di) bm zIA zEz (zHQ (zBN ks 0) q ((sn:Nat):Int)):=Mm;rw[ba,b4] at Mm;refine qA (.slice ct (sn+1) c1) rfl (zAB (zAC ?_));exact ⟨ks++[q],sn,ct,c1,sn+1,zAz.out ⟨rfl,rfl,rfl,rfl,rfl,rfl,rfl,rfl,rfl,rfl,rfl,rfl,rfl,rfl,trivial⟩,E,Br,Mm,Bd,Bq,Bz,(by rw[ba];exact cm),(by rw[List.length_append,List.length_singleton];omega),(by rw[List.getElem?_append_left (zAE am)];exact am),(by simp;omega),(by rw[List.take_append_of_le_length (by have:=zAE am;omega)];exact b0),(by rw[List.map_append,List.flatten_append];exact cy),hO.chg a3 (fun b hb h=>(ah b h).1 hb),(fun b hb=>by rcases dv b hb with h9|h9;exact ah b h9;exact ⟨fun ho=>by have:=(hO.lt ho).2;omega,qO,qO,qO⟩),Nat.le_trans ak a3.size⟩
       ·have bv:=aj;replace aj:=by simpa using aj
        have ds:(zBr (zBN ks 0) q).isSome=true:=by simpa using aj
        obtain ⟨v9,c0⟩:=Option.isSome_iff_exists.1 ds;obtain ⟨j9,rfl,c8⟩:=zHz c0;rw[show (zBr (zBN ks 0) (q.1,q.2)).getD 0=((j9:Nat):Int) from by show (zBr (zBN ks 0) q).getD 0=_;rw[c0];rfl];refine zAO (zAC ?_);exact ⟨ks,j9,some ⟨ai,0,none⟩,ae,sn,zAz.out ⟨rfl,rfl,rfl,rfl,rfl,rfl,rfl,rfl,rfl,rfl,rfl,rfl,rfl,rfl,trivial⟩,E,Br,Mm,Bd,Bq,Bz,hC.add a4 (by unfold zIo;rw[be,ce];exact ⟨j9,rfl,c8⟩),a5,am,ba,b0,hS,hO,ah,ak⟩
      ·clear E Br Mm Bd Bq Bz;rintro _ W8 ⟨ax,j,bu,bx,bb,⟨j8,rfl⟩,E,Br,Mm,Bd,Bq,Bz,ef,cq,ch,cg,cb,b9,b6,bk,a8⟩;have b5:=zBt (L:=R.set x (-1)) (s:=x) (x:=((j:Nat):Int)) (by simp;omega);refine zAF (qM (.slice (some ⟨bq,0,none⟩) c c) rfl (qM (I6 (x:Int)) rfl (qM (I6 (j:Int)) rfl (qV (zAD (b:=bq) (o:=0) (len:=c) (cap:=c) (i:=x) (o':=0+x) rfl rfl rfl underlying22 zAy qO qO) (zBC (b:=bq) (o:=0+x) (c':=(((R.set x (-1)).set x (j:Int)).map (Value.int .i64)).toArray) (v:=(I6 (j:Int))) rfl rfl rfl zAy Bq (by simp;omega) (zCX _) ?_)))));intro w14 aw;replace b9:=zAq b9 aw.chg fun b hb h=>(bk b hb).2.2.2 h;replace b6:=b6.chg aw.chg fun b hb h=>by have:=b2 b hb;have h':b=bq:=h;omega
       replace a8:=Nat.le_trans a8 aw.chg.size;replace Br:=aw.keep qO Br;replace Mm:=aw.keepM qO Mm;replace Bd:=aw.keep qO Bd;replace Bz:=aw.keep qO Bz;replace E:=aw.step E qQ;replace Bq:=aw.blk;refine zAB (zAR (zAC (zAF (qV (zAv (k:=.i64) (a:=(x:Int)) (b:=1) (c:=(x:Int)+1) rfl rfl (zBb qO)) (qM (I6 ((x:Int)+1)) rfl (zAB (zAC ?_)))))));exact ⟨c - (x+1),qO,x+1,(R.set x (-1)).set x ((j:Nat):Int),ax,bu,bx,bb,zAz.out ⟨rfl,rfl,rfl,rfl,rfl,rfl,rfl,rfl,rfl,rfl,rfl,rfl,trivial⟩,E,Br,Mm,Bd,Bq,qO,(by simp[bi]),(by rw[b5,List.take_set_of_le (Nat.le_refl x)];exact ef),cq,ch,cg,cb,b9,b6,bk,a8,rfl⟩
    ·have dx:x=c:=qO
     rw[dx,show R.take c=R by rw[←bi,List.take_length]] at hC;obtain ⟨n4,cw⟩:∃n4,n4=(W4).heap.size:=⟨_,rfl⟩;have d2:=zAE am;obtain ⟨ai,rfl,_,bc⟩:=zBe hS qO;have cj:zBE (W4) ai (0+i*2) [.int .i64 k.1,.int .i64 k.2]:=zDP cu bc am;have bt:ac.length=i:=by rw[←b0,List.length_map,List.length_take];omega
     have an:(W4).ownsRow n2 TDI 1 (.slice ea i ec) i (ac.map (Value.int .i64)):=by have h9:=hO.e;rwa [bt] at h9
     have ap:(W4).ownsRow n2 zDg 1 (.slice ag i af) i vs:=hO.n.on (by rw[List.length_map];omega);have df:=a5;have c6:=Bq.lt;have dg:=zFD (base:=bq) Bq (Nat.le_refl _) bi;refine zAn (zAT (zAT (zAg (zAC ?_))));obtain ⟨ci,aa⟩:∃Fs:List zEF,Fs=[(fun _ v _=>v=(P6 bd 2)),(fun _ v _=>v=(.slice ag i af)),(fun _ v _=>v=(.slice (some ⟨bq,0,none⟩) c c)),(fun _=>zDx zDg #[.slice (some ⟨bq,0,none⟩) c c] n4),(fun _=>zDH n2 zDg 1 (i+1) (vs++[Value.slice (some ⟨bq,0,none⟩) c c]) (.slice ag i af) n4),(fun _ v _=>v=(P6 bd 1)),(fun _ v _=>v=(.slice ea i ec)),(fun _ v _=>v=av),(fun _ v _=>v=(.slice (some ⟨ai,0,none⟩) sn ae)),(fun _ v _=>v=(I6 (i:Int))),(fun _ v _=>v=(.pointer (some ⟨ai,0+i*2,none⟩))),(fun _ v _=>v=(.agg #[(I6 k.1),(I6 k.2)])),(fun _ v _=>v=(I6 (acc k))),(fun _=>zDx TDI #[.int .i64 (acc k)] n4),(fun s v w=>zDH n2 TDI 1 (i+1) (ac.map (Value.int .i64)++[Value.int .i64 (acc k)]) (.slice ea i ec) n4 v w∧∀b,(s 84).ownBlock=some b→v.ownBlock≠some b),(fun _ v _=>v=(P6 bd 2))]:=⟨_,rfl⟩;refine zGt (two 4 14 (fun b=>(Value.slice ag i af).ownBlock=some b) (fun b=>(Value.slice ea i ec).ownBlock=some b)) 16 [80,81,82,83,84,85,86,87,88,89,90,91,92,93,94,95] [[],[0],[],[2],[1,3],[],[5],[],[],[],[8,9],[10],[4,7,11],[12],[6,12,13],[0,1,2,3,4,5,6]] [[],[0],[],[2],[1,0,3,2],[],[5],[],[],[],[8,9],[10,8,9],[4,1,0,3,2,7,11,10,8,9],[12,4,1,0,3,2,7,11,10,8,9],[6,5,12,4,1,0,3,2,7,11,10,8,9,13],[0,1,2,3,4,5,6]] ci aa qK mixed qK qK qK ?_ ?_
     ·intro wd X0;refine DagStepsX.cons (zBI.eq) (fun _ _ _ _ _ h=>h) (fun s' w' X U H=>?_) ?_
      ·exact zAX (zAZ (b:=bd) (o:=0) (o':=2) (U 14 rfl) underlying34 rfl zBu rfl) (Chg.refl _ _) rfl
      refine DagStepsX.cons (zBI.eq) (fun _ _ _ _ _ h=>h) (fun s' w' X U H=>?_) ?_
      ·have du:=H 0 rfl 80 _ rfl (by rw[aa];rfl);exact zAX (zAI (v:=(.slice ag i af)) du zBi ((Chg.keep X (fun h=>(fun h=>h.elim (fun h=>by have:=(ap.lt _ h).1;omega) (fun h=>by have:=(an.lt _ h).1;omega)) (zEK.or h)) (X0.keep Bd)).cell rfl)) (Chg.refl _ _) rfl
      refine DagStepsX.cons (zBI.eq) (fun _ _ _ _ _ h=>h) (fun s' w' X U H=>?_) ?_
      ·exact zAX (zAl (v:=(.slice (some ⟨bq,0,none⟩) c c)) (U 16 rfl)) (Chg.refl _ _) rfl
      refine DagStepsX.cons (zCV (fun y h=>by have:=(ap.lt y h).2;omega) (fun y h=>by have:=(an.lt y h).2;omega)) (zIY.const) (fun s' w' X U H=>?_) ?_
      ·have da:=H 2 rfl 82 _ rfl (by rw[aa];rfl);exact zCD (hs:=n4) underlying32 zBL zEg da qD qD qK (by have:=X0.size;have:=X.size;omega)
      refine DagStepsX.cons (zGT (fun k hk hm=>hk.elim (fun h=>hO.en k hm h) (fun h=>by have:=(an.lt k hm).2;omega))) (zIY.const) (fun s' w' X U H=>?_) ?_
      ·have c5:=H 1 rfl 81 _ rfl (by rw[aa];rfl);obtain ⟨b83,dl,ee,g83⟩:=(show ((fun _=>zDx zDg #[.slice (some ⟨bq,0,none⟩) c c] n4):zEF) s' (s' 83) w' from H 3 rfl 83 ((fun _=>zDx zDg #[.slice (some ⟨bq,0,none⟩) c c] n4)) rfl (by rw[aa];rfl));exact zBj (hs:=n4) underlying32 zBL zMk zEg rfl qD c5 (zAj (zAj ap X0) (X.mono (fun y _ h=>zEK.none rfl rfl h))) dl rfl (ee.cells rfl) qS (by unfold maxLen;omega) qO (by have:=X0.size;have:=X.size;omega) (fun y h=>h) (by have:=X0.size;have:=X.size;omega)
      refine DagStepsX.cons (zBI.eq) (fun _ _ _ _ _ h=>h) (fun s' w' X U H=>?_) ?_
      ·exact zAX (zAZ (b:=bd) (o:=0) (o':=1) (U 14 rfl) underlying34 rfl zBL rfl) (Chg.refl _ _) rfl
      refine DagStepsX.cons (zBI.eq) (fun _ _ _ _ _ h=>h) (fun s' w' X U H=>?_) ?_
      ·have d8:=H 5 rfl 85 _ rfl (by rw[aa];rfl);exact zAX (zAI (v:=(.slice ea i ec)) d8 zBP ((Chg.keep X (fun h=>(fun h=>h.elim (fun h=>by have:=(ap.lt _ h).1;omega) (fun h=>by have:=(an.lt _ h).1;omega)) (zEK.or h)) (X0.keep Bd)).cell rfl)) (Chg.refl _ _) rfl
      refine DagStepsX.cons (zBI.eq) (fun _ _ _ _ _ h=>h) (fun s' w' X U H=>?_) ?_
      ·exact zAX (zAl (v:=av) (U 3 rfl)) (Chg.refl _ _) rfl
      refine DagStepsX.cons (zBI.eq) (fun _ _ _ _ _ h=>h) (fun s' w' X U H=>?_) ?_
      ·exact zAX (zAl (v:=(.slice (some ⟨ai,0,none⟩) sn ae)) (U 12 rfl)) (Chg.refl _ _) rfl
      refine DagStepsX.cons (zBI.eq) (fun _ _ _ _ _ h=>h) (fun s' w' X U H=>?_) ?_
      ·exact zAX (zAl (v:=(I6 (i:Int))) (U 15 rfl)) (Chg.refl _ _) rfl
      refine DagStepsX.cons (zBI.eq) (fun _ _ _ _ _ h=>h) (fun s' w' X U H=>?_) ?_
      ·have dj:=H 8 rfl 88 _ rfl (by rw[aa];rfl);have d5:=H 9 rfl 89 _ rfl (by rw[aa];rfl);exact zAX (zAD (b:=ai) (o:=0) (len:=sn) (cap:=ae) (i:=i) (o':=0+i*2) dj d5 rfl underlying197 zCL qO qO) (Chg.refl _ _) rfl
      refine DagStepsX.cons (zBI.eq) (fun _ _ _ _ _ h=>h) (fun s' w' X U H=>?_) ?_
      ·have d4:=H 10 rfl 90 _ rfl (by rw[aa];rfl);exact zAX (zAK (vs:=[(I6 k.1),(I6 k.2)]) d4 zED zCL rfl (fun j v hv=>Chg.cell X (fun h=>(zEK.or h).elim (fun h=>(ah _ rfl).1 (.inr (.inl h))) (fun h=>(ah _ rfl).1 (.inl h))) (X0.cell (cj j v hv)))) (Chg.refl _ _) rfl
      refine DagStepsX.cons (zBI.eq) (fun _ _ _ _ _ h=>h) (fun s' w' X U H=>?_) ?_
      ·have dy:=H 7 rfl 87 _ rfl (by rw[aa];rfl);have dz:=H 11 rfl 91 _ rfl (by rw[aa];rfl);exact zFq (fv:=av) (vs:=[.agg #[.int .i64 k.1,.int .i64 k.2]]) dy (zOv dz) ((ha w' k ((E.ext X0).step X (fun y hy h=>(zEK.or h).elim (fun h=>by have:=(ap.lt y h).1;omega) (fun h=>by have:=(an.lt y h).1;omega))) c3).mono (fun v w h=>⟨h.1,Ext.chg h.2⟩))
      refine DagStepsX.cons (zCV (fun y h=>by have:=(ap.lt y h).2;omega) (fun y h=>by have:=(an.lt y h).2;omega)) (zIY.const) (fun s' w' X U H=>?_) ?_
      ·have dh:=H 12 rfl 92 _ rfl (by rw[aa];rfl);exact zCD (hs:=n4) underlying22 zAy zDI dh qD qD qK (by have:=X0.size;have:=X.size;omega)
      refine DagStepsX.cons (zGS rfl) (fun s1 s2 h v w h2=>⟨h2.1,by have:=h 4 84 rfl rfl;rw[this];exact h2.2⟩) (fun s' w' X U H=>?_) ?_
      ·have dp:=H 6 rfl 86 _ rfl (by rw[aa];rfl);obtain ⟨b93,eh,db,g93⟩:=(show ((fun _=>zDx TDI #[.int .i64 (acc k)] n4):zEF) s' (s' 93) w' from H 13 rfl 93 ((fun _=>zDx TDI #[.int .i64 (acc k)] n4)) rfl (by rw[aa];rfl));exact zGr (H 4 rfl 84 _ rfl (by rw[aa];rfl)) (zBj (hs:=w'.heap.size) underlying22 zAy zJU zDI rfl qD dp (zAq (zAj an X0) (X.mono (fun y _ h=>zEK.fst rfl h)) (fun k hk hm=>hO.en k hk hm)) eh rfl (db.cells rfl) qS (by unfold maxLen;omega) qO (by have:=X0.size;have:=X.size;omega) (fun y h=>h) (Nat.le_refl _)) (by have:=X0.size;have:=X.size;omega) (fun k h1 h2=>h1.elim (fun h=>hO.en k h2 h) (fun h=>by have:=(an.lt k h2).2;omega))
      refine DagStepsX.cons (zBI.eq) (fun _ _ _ _ _ h=>h) (fun s' w' X U H=>?_) ?_
      ·exact zAX (zAZ (b:=bd) (o:=0) (o':=2) (U 14 rfl) underlying34 rfl zBu rfl) (Chg.refl _ _) rfl
      exact DagStepsX.nil
     ·intro s' dm cz X0 a1 U H;replace a1:=a1.mono (M':=fun y=>(fun b=>(Value.slice ag i af).ownBlock=some b) y∨(fun b=>(Value.slice ea i ec).ownBlock=some b) y) (fun y _ h=>by obtain ⟨j,h⟩:=h;rcases zEw h with h|h;exact .inl h.2;exact .inr h.2);obtain ⟨⟨a9,a6,cx⟩,c2,b7⟩:=(show ((fun _=>zDH n2 zDg 1 (i+1) (vs++[Value.slice (some ⟨bq,0,none⟩) c c]) (.slice ag i af) n4):zEF) s' (s' 84) cz from H 4 84 ((fun _=>zDH n2 zDg 1 (i+1) (vs++[Value.slice (some ⟨bq,0,none⟩) c c]) (.slice ag i af) n4)) rfl (by rw[aa];rfl));obtain ⟨⟨⟨bg,bj,cs⟩,cv,b8⟩,cc⟩:=(show ((fun s v w=>zDH n2 TDI 1 (i+1) (ac.map (Value.int .i64)++[Value.int .i64 (acc k)]) (.slice ea i ec) n4 v w∧∀b,(s 84).ownBlock=some b→v.ownBlock≠some b):zEF) s' (s' 94) cz from H 14 94 ((fun s v w=>zDH n2 TDI 1 (i+1) (ac.map (Value.int .i64)++[Value.int .i64 (acc k)]) (.slice ea i ec) n4 v w∧∀b,(s 84).ownBlock=some b→v.ownBlock≠some b)) rfl (by rw[aa];rfl));have de:s' 95=(.pointer (some ⟨bd,2,none⟩)):=H 15 95 ((fun _ v _=>v=(.pointer (some ⟨bd,2,none⟩)))) rfl (by rw[aa];rfl);obtain ⟨j15,rfl⟩:=zAz.out (σ:=s') (l:=[(1,(.int .i64 ((c:Nat):Int))),(2,sv),(3,av),(4,(.int .i64 ((most:Nat):Int))),(10,(.pointer (some ⟨br,0,none⟩))),(12,(.slice (some ⟨ai,0,none⟩) sn ae)),(13,(.map (some bm))),(14,(.pointer (some ⟨bd,0,none⟩))),(15,(.int .i64 ((i:Nat):Int))),(84,(.slice a9 (i+1) a6)),(94,(.slice bg (i+1) bj)),(95,(.pointer (some ⟨bd,2,none⟩)))]) ⟨U 1 rfl,U 2 rfl,U 3 rfl,U 4 rfl,U 10 rfl,U 12 rfl,U 13 rfl,U 14 rfl,U 15 rfl,cx,cs,de,trivial⟩;clear U H;replace Br:=Chg.keep a1 (fun h=>h.elim (fun h=>by have:=(ap.lt _ h).1;omega) (fun h=>by have:=(an.lt _ h).1;omega)) (X0.keep Br);replace Mm:=Chg.keepM a1 (fun h=>h.elim (fun h=>by have:=(ap.lt _ h).1;omega) (fun h=>by have:=(an.lt _ h).1;omega)) (X0.keepM Mm);replace Bd:=Chg.keep a1 (fun h=>h.elim (fun h=>by have:=(ap.lt _ h).1;omega) (fun h=>by have:=(an.lt _ h).1;omega)) (X0.keep Bd);replace Bq:=Chg.keep a1 (fun h=>h.elim (fun h=>by have:=b2 _ (.inr (.inl h));omega) (fun h=>by have:=b2 _ (.inl h);omega)) (X0.keep Bq);have co:=Chg.trans (Ext.chg X0) a1;replace E:=(E.ext X0).step a1 (fun y hy h=>h.elim (fun h=>by have:=(ap.lt y h).1;omega) (fun h=>by have:=(an.lt y h).1;omega));rw[cx] at c2 b7 cc;rw[cs] at cv b8 cc;have a7:=hO.push (y:=acc k) (N':=.slice a9 (i+1) a6) (E':=.slice bg (i+1) bj) dg bi.symm qO (fun b hb=>by have:=b2 b hb;omega) co (by rw[b1];exact c2) (fun k hk=>by rw[←cw];exact b7 k hk) (by rw[bt,List.map_append];exact cv) (fun k hk=>by rw[←cw];exact b8 k hk) cc;have bo:=zAq hS co (fun b hb h=>h.elim (fun h=>(ah b hb).1 (.inr (.inl h))) (fun h=>(ah b hb).1 (.inl h)));have ao:=Nat.le_trans ak co.size;have cp:∀b,(Value.slice (some ⟨ai,0,none⟩) sn ae).ownBlock=some b→¬zGv (.slice bg (i+1) bj) (.slice a9 (i+1) a6) (vs++[.slice (some ⟨bq,0,none⟩) c c]) b∧b≠bm∧b≠bd:=fun b hb=>⟨fun ho=>zHS ⟨(ah b hb).1,(ah b hb).2.2.2⟩ (by have:=(hS.lt b hb).2;omega) b7 b8 ho,(ah b hb).2.1,(ah b hb).2.2.1⟩;refine zBC (b:=bd) (o:=2) (c':=#[(I6 0),(.slice ea i ec),(.slice a9 (i+1) a6)]) (v:=(.slice a9 (i+1) a6)) rfl rfl rfl zBu Bd qP rfl ?_;intro w16 a0;replace a7:=a7.chg a0.chg fun b hb h=>by have:=(a7.lt hb).1;have h':b=bd:=h;omega
      replace bo:=zAq bo a0.chg fun b hb h=>(ah b hb).2.2.1 h;replace ao:=Nat.le_trans ao a0.chg.size;replace Br:=a0.keep qO Br;replace Mm:=a0.keepM qO Mm;replace Bq:=a0.keep qO Bq;replace E:=a0.step E qQ;replace Bd:=a0.blk;refine qF bd 0 1 rfl underlying34 rfl zBL rfl (zBC (b:=bd) (o:=1) (c':=#[(I6 0),(.slice bg (i+1) bj),(.slice a9 (i+1) a6)]) (v:=(.slice bg (i+1) bj)) rfl rfl rfl zBL Bd qP rfl ?_);intro w17 ay;replace a7:=a7.chg ay.chg fun b hb h=>by have:=(a7.lt hb).1;have h':b=bd:=h;omega
      replace bo:=zAq bo ay.chg fun b hb h=>(ah b hb).2.2.1 h;replace ao:=Nat.le_trans ao ay.chg.size;replace Br:=ay.keep qO Br;replace Mm:=ay.keepM qO Mm;replace Bq:=ay.keep qO Bq;replace E:=ay.step E qQ;replace Bd:=ay.blk;refine zAB (zAR (zAC (zAF (qM (I6 (i:Int)) rfl (qV (zAv (k:=.i64) (a:=(i:Int)) (b:=1) (c:=(i:Int)+1) rfl rfl (zBb qO)) (qA (I6 ((i:Int)+1)) rfl (zAB (zAC ?_))))))));exact ⟨most - (i+1),qO,i+1,ab++[R],ks,ac++[acc k],vs++[.slice (some ⟨bq,0,none⟩) c c],some ⟨ai,0,none⟩,bg,a9,ae,sn,bj,a6,zAz.out ⟨rfl,rfl,rfl,rfl,rfl,rfl,rfl,rfl,rfl,trivial⟩,E,Br,Mm,Bd,hC.rowed bi,(by simp[b1]),a5,ba,qO,(by rw[zDq am,List.map_append,b0];rfl),bo,a7,cp,ao,rfl⟩
  ·have dt:i=ks.length:=qO
   have cn:ab.length=ks.length:=qO
   obtain ⟨ca,d9⟩:=hC.done (acc:=acc) cn (fun k hk=>(hac k (hC.rch k hk)).1);have aq:ac=ks.map acc:=by rw[a2,dt,List.take_length]
   refine zAn (zAT (zAT (zAg (zAC (zAA (qV (zAK (vs:=[(I6 0),(.slice ea i ec),(.slice ag i af)]) rfl zAx zAe rfl (Bd.cells rfl)) (zAb (b:=br) (o:=0) (c':=#[(I6 0),(.slice ea i ec),(.slice ag i af)]) rfl rfl qS zAe rfl Br qL rfl ?_)))))));intro w18 bn;replace hO:=hO.chg bn.chg fun b hb h=>by have:=(hO.lt hb).1;have h':b=br:=h;omega
   replace Mm:=bn.keepM qO Mm;replace Bd:=bn.keep qO Bd;replace E:=bn.step E qQ;replace Br:=bn.blk;refine qA (.bool true) rfl (zAB (zAV (zAu results129 (vs:=[(.int .i64 0),(.slice ea i ec),(.slice ag i af)]) (b:=br) (v':=(.bool true)) rfl zAx zAe rfl (Br.cells rfl) rfl (⟨.inl ⟨(hC.all cn).mono a5,⟨0,ac,ab⟩,_,fun mx eg=>⟨?_,?_,rfl,?_,?_⟩,rfl,?_⟩,E⟩))))
   ·rw[aq];show OkD ab.length c _;rw[cn];exact ca
   ·show ab.length≤mx;have:=eg ks hC.nd hC.rch;omega
   ·rw[aq];exact d9
   ·intro x hx;have hx:x∈ac:=hx;rw[aq] at hx;obtain ⟨u,hu,rfl⟩:=List.mem_map.1 hx;exact (hac u (hC.rch u hu)).2
   ·have bp:ac.length=i:=by rw[aq,List.length_map];omega
    exact ⟨ea,ec,ag,af,vs,by show Value.agg #[_,_,_]=.agg #[_,.slice ea ac.length ec,.slice ag ab.length af];rw[bp,b1],by show OutSt _ _ (.slice ea ac.length ec) (.slice ag ab.length af) vs ac ab;rw[bp,b1];exact hO.low cl.2⟩
end Go.Proofs
namespace Go.Eng
open Go
def zOa (l:List Oper) (t u:Nat):Bool:=match l[t]? with
  | some o=>o.after.any fun e=>Region.binds .any e && Nat.beq e.on u
  | none=>false
def zLQ (hd:List Bool) (o:Oper):Bool:=match o.guard with|some p=>hd.getD p.1 false|none=>true
def zFn (N:Nat) (hd:List Bool):Nat→List Oper→List Nat→List (List Nat)→List Bool→Bool
  | _,[],[],[],[]=>true
  | i,o::l,d::ds,ws::wss,h::hs=>(bif h then zFK N i o d ws && ((o.after.all fun e=>!Region.binds .any e || hd.getD e.on false) && zLQ hd o) else Nat.ble N d) && zFn N hd (i+1) l ds wss hs
  | _,_,_,_,_=>false
def zPG (l:List Oper) (hd:List Bool) (ts:List Nat):Bool:=
 (List.range l.length).all fun i=>hd.getD i false || (ts.contains i && ((List.range l.length).all (fun u=>!hd.getD u false || zOa l i u) || ts.any fun p=>!hd.getD p true && zOa l i p))
def zMP (ops:Array Oper):List Nat→Array Bool→Bool
  | [],listed=>(Region.ready .any ops listed).isEmpty
  | k::ks,listed=>decide (Region.ready .any ops listed=[k]) && zMP ops ks (listed.setIfInBounds k true)
theorem zEh {P:Program} {ops:Array Oper} {Q':Exit→Act→World→Prop}:∀(ks:List Nat) (listed:Array Bool) (a:Act) (w:World),zMP ops ks listed=true→wpList P ops Q' (ks.filterMap fun k=>ops[k]?) a w→wpAny P .any ops Q' ks.length listed a w
  | [],_,_,_,hB,h=>⟨by simpa[zMP] using hB,h⟩
  | k::ks,listed,a,w,hB,h=>by
    simp only[zMP,Bool.and_eq_true,decide_eq_true_eq] at hB;refine ⟨fun h1=>(by rw[hB.1] at h1;cases h1),fun i hi=>?_⟩;have hi0:=hi;rw[hB.1] at hi;have hik:i=k:=by simpa using hi
    subst hik;obtain ⟨_,o,h0,_⟩:=mem_ready.1 hi0;have hw:wpOp P ops Q' i (wpList P ops Q' (ks.filterMap fun k=>ops[k]?)) a w:=by
      rw[List.filterMap_cons,h0] at h;unfold wpOp;simp only[h0];exact h
    exact wpOp_mono (fun a' w' h'=>zEh ks _ a' w' hB.2 h') hw
theorem zGN {N:Nat} {hd:List Bool}:∀{i:Nat} {l:List Oper} {ds:List Nat} {wss:List (List Nat)} {hs:List Bool},zFn N hd i l ds wss hs=true→∀{j:Nat} {o:Oper},l[j]?=some o→∃d ws h,ds[j]?=some d∧wss[j]?=some ws∧hs[j]?=some h∧(bif h then zFK N (i+j) o d ws && ((o.after.all fun e=>!Region.binds .any e || hd.getD e.on false) && zLQ hd o) else Nat.ble N d)=true
  | _,[],_,_,_,_,j,o,h=>by simp at h
  | i,x::l,[],_,_,hB,_,_,_=>by simp[zFn] at hB
  | i,x::l,d::ds,[],_,hB,_,_,_=>by simp[zFn] at hB
  | i,x::l,d::ds,ws::wss,[],hB,_,_,_=>by simp[zFn] at hB
  | i,x::l,d::ds,ws::wss,h0::hs,hB,j,o,h=>by
    simp only[zFn,Bool.and_eq_true] at hB;cases j with
    | zero=>simp at h;subst h;exact ⟨d,ws,h0,rfl,rfl,rfl,hB.1⟩
    | succ j=>
      simp at h;obtain ⟨d',ws',h',h1,h2,h3,h4⟩:=zGN hB.2 h;exact ⟨d',ws',h',by simpa using h1,by simpa using h2,by simpa using h3,by rw[show i+(j+1)=i+1+j from qO];exact h4⟩
theorem zLf {N:Nat} {hd:List Bool}:∀{i:Nat} {l:List Oper} {ds:List Nat} {wss:List (List Nat)} {hs:List Bool},zFn N hd i l ds wss hs=true→ds.length=l.length∧hs.length=l.length
  | _,[],[],[],[],_=>⟨rfl,rfl⟩
  | _,[],[],[],_::_,hB=>by simp[zFn] at hB
  | _,[],[],_::_,_,hB=>by simp[zFn] at hB
  | _,[],_::_,_,_,hB=>by simp[zFn] at hB
  | i,x::l,[],_,_,hB=>by simp[zFn] at hB
  | i,x::l,d::ds,[],_,hB=>by simp[zFn] at hB
  | i,x::l,d::ds,ws::wss,[],hB=>by simp[zFn] at hB
  | i,x::l,d::ds,ws::wss,h0::hs,hB=>by
    simp only[zFn,Bool.and_eq_true] at hB;have:=zLf hB.2;simp[this.1,this.2]
inductive DagStepsP (P:Program) (N:Nat) (ds:List Nat) (Fs:List Fact) (σ:Env) (w:World):List Oper→List (List Nat)→List Bool→List Fact→Prop where
  | nil:DagStepsP P N ds Fs σ w [] [] [] []
  | cons {o:Oper} {ws:List Nat} {F:Fact} {l:List Oper} {wss:List (List Nat)} {hs:List Bool} {Gs:List Fact}:zKY P N ds Fs σ w o ws F→DagStepsP P N ds Fs σ w l wss hs Gs→DagStepsP P N ds Fs σ w (o::l) (ws::wss) (true::hs) (F::Gs)
  | tail {o:Oper} {ws:List Nat} {F:Fact} {l:List Oper} {wss:List (List Nat)} {hs:List Bool} {Gs:List Fact}:DagStepsP P N ds Fs σ w l wss hs Gs→DagStepsP P N ds Fs σ w (o::l) (ws::wss) (false::hs) (F::Gs)
theorem DagStepsP.get {P:Program} {N:Nat} {ds:List Nat} {Fs:List Fact} {σ:Env} {w:World}:∀{l:List Oper} {wss:List (List Nat)} {hs:List Bool} {Gs:List Fact},DagStepsP P N ds Fs σ w l wss hs Gs→∀{j:Nat} {o:Oper},l[j]?=some o→hs[j]?=some true→∃ws F,wss[j]?=some ws∧Gs[j]?=some F∧zKY P N ds Fs σ w o ws F
  | _,_,_,_,.nil,j,o,h,_=>by simp at h
  | _,_,_,_,.cons h1 h2,0,o,h,_=>by simp at h;subst h;exact ⟨_,_,rfl,rfl,h1⟩
  | _,_,_,_,.tail h2,0,o,h,ht=>by simp at ht
  | _,_,_,_,.cons h1 h2,j+1,o,h,ht=>by
    obtain ⟨ws,F,a,b,c⟩:=h2.get (j:=j) (by simpa using h) (by simpa using ht);exact ⟨ws,F,by simpa using a,by simpa using b,c⟩
  | _,_,_,_,.tail h2,j+1,o,h,ht=>by
    obtain ⟨ws,F,a,b,c⟩:=h2.get (j:=j) (by simpa using h) (by simpa using ht);exact ⟨ws,F,by simpa using a,by simpa using b,c⟩
def zEU (hd:List Bool) (listed:List Bool):Nat:=((hd.zip listed).filter fun p=>p.1 && !p.2).length
theorem zHu:∀{hd listed:List Bool} {i:Nat},hd[i]?=some true→listed[i]?=some false→zEU hd (listed.set i true)+1=zEU hd listed
  | [],_,_,h,_=>by simp at h
  | _::_,[],_,_,h=>by simp at h
  | h::hd,x::listed,0,h1,h2=>by
    simp at h1 h2;subst h1;subst h2;simp[zEU]
  | h::hd,x::listed,i+1,h1,h2=>by
    have:=zHu (hd:=hd) (listed:=listed) (i:=i) (by simpa using h1) (by simpa using h2);simp only[zEU,List.set_cons_succ,List.zip_cons_cons,List.filter_cons] at this⊢;split
    · simp only[List.length_cons];omega
    · exact this
theorem zGd:∀{hd listed:List Bool},hd.length=listed.length→zEU hd listed=0→(∀(i:Nat),hd[i]?=some false→listed[i]?=some false)→listed=hd
  | [],[],_,_,_=>rfl
  | [],_::_,h,_,_=>by simp at h
  | _::_,[],h,_,_=>by simp at h
  | h::hd,x::listed,hl,h0,ht=>by
    have e1:zEU hd listed=0:=by
      simp only[zEU,List.zip_cons_cons,List.filter_cons] at h0⊢;split at h0
      · simp at h0
      · exact h0
    have e2:=zGd (by simpa using hl) e1 fun i hi=>by have:=ht (i+1) (by simpa using hi);simpa using this
    have e3:x=h:=by
      cases h with
      | false=>have:=ht 0 rfl;simpa using this
      | true=>
        cases x with
        | true=>rfl
        | false=>simp[zEU] at h0
    rw[e2,e3]
theorem zHv:∀{hd listed:List Bool},0<zEU hd listed→∃i:Nat,hd[i]?=some true∧listed[i]?=some false
  | [],_,h=>by simp[zEU] at h
  | _::_,[],h=>by simp[zEU] at h
  | h::hd,x::listed,hp=>by
    simp only[zEU,List.zip_cons_cons,List.filter_cons] at hp;split at hp
    · rename_i hc
      simp at hc;exact ⟨0,by simp[hc.1],by simp[hc.2]⟩
    · obtain ⟨i,h1,h2⟩:=zHv (hd:=hd) (listed:=listed) hp;exact ⟨i+1,by simpa using h1,by simpa using h2⟩
theorem zDT {listed:Array Bool} {i:Nat} {b d:Bool} (h:listed.toList[i]?=some b):listed.getD i d=b:=by
 have:listed[i]?=some b:=by simpa using h
 simp[Array.getD_eq_getD_getElem?,this]
theorem zVD {P:Program} {N:Nat} {Q:zFN} {σ:Env} {w:World} {id:Nat} {l:List Oper} (hd:List Bool) (ts:List Nat) (ds:List Nat) (wss:List (List Nat)) (Fs:List Fact) {Gs:List Fact} (hG:Fs=Gs) (hm:P.follows .mixedOrders=true) (hB:zFn N hd 0 l ds wss hd=true) (hn:zGH ds=true)
    (hT:(zPG l hd ts && zMP l.toArray ts hd.toArray)=true) (hN:Nat.beq (zEU hd (List.replicate l.length false)+ts.length) l.length=true)
    (steps:∀w1,Ext w w1→DagStepsP P N ds Fs σ w1 l wss hd Gs)
    (k:∀σ' w',Ext w w'→(∀t,ds.contains t=false→σ' t=σ t)→(∀j,hd[j]?=some true→Holds ds Fs j σ' w')→WpL P N l.toArray (Q .normal) Q (ts.filterMap fun k=>l[k]?) σ' w'):Wp P N (.region id l.toArray true) Q σ w:=by
  intro dz a ha he;have eQ:zFr dz N (thn (Q .normal) Q)=zFr dz N Q:=by funext e a w;cases e<;>rfl
  refine wp_region_any hm ?_;obtain ⟨w1,bb⟩:∃w1:World,w1={w with drawn:=w.drawn+1}:=⟨_,rfl⟩;have bd:Ext w w1:=by rw[bb];exact zFX w
  rw[←bb];have ba:=steps w1 bd;rw[←hG] at ba;rw[Bool.and_eq_true] at hT;obtain ⟨bg,bm⟩:=hT;obtain ⟨bh,a9⟩:=zLf hB;have bk:∀(m:Nat) (listed:Array Bool) (a:Act) (w':World),zEU hd listed.toList=m→listed.size=l.length→(∀(t:Nat),hd[t]?=some false→listed.toList[t]?=some false)→Ok dz N a→Ext w1 w'→(∀t,ds.contains t=false→env a t=σ t)→(∀j,hd[j]?=some true→listed.getD j false=true→Holds ds Fs j (env a) w')→
      wpAny P .any l.toArray (zFr dz N Q) (m+ts.length) listed a w':=by
    intro m
    induction m with
    | zero=>
      intro listed a w' bj be ao ha hx hu hh;have hl:listed=hd.toArray:=by
        apply Array.ext';exact zGd (by simp;omega) bj ao
      rw[Nat.zero_add];have h1:=k (env a) w' (bd.trans hx) hu (fun j hj=>hh j hj (zDT (by rw[hl];exact hj))) dz a ha rfl;rw[eQ] at h1;exact zEh ts listed a w' (by rw[hl];exact bm) (by simpa using h1)
    | succ m ih=>
      intro listed a w' hcm be ao ha hx hu hh;obtain ⟨i0,a2,a6⟩:=zHv (hd:=hd) (listed:=listed.toList) qO;rw[show m+1+ts.length=(m+ts.length)+1 by omega];refine ⟨fun hr=>?_,fun i hi=>?_⟩
      · exfalso;have ay:∀i:Nat,hd[i]?=some true→listed.getD i true=true:=by
          intro i
          induction i using Nat.strongRecOn with
          | _ i ihi=>
            intro hi;cases hv:listed.getD i true with
            | true=>rfl
            | false=>
              exfalso;obtain ⟨o,ho⟩:=zAN (l:=l) (i:=i) (by have:=zAE hi;omega);obtain ⟨d,ws,h,_,_,h2,h3⟩:=zGN hB ho;rw[hi] at h2;cases h2;simp only[cond_true,Bool.and_eq_true,Nat.zero_add] at h3;have:i∈Region.ready .any l.toArray listed:=by
                refine mem_ready.2 ⟨hv,o,by simpa using ho,fun e he hb=>?_⟩;have h4:=h3.1;simp only[zFK,Bool.and_eq_true,Array.all_eq_true_iff_forall_mem,Bool.or_eq_true,Bool.not_eq_true'] at h4;have h5:=h3.2.1;simp only[Array.all_eq_true_iff_forall_mem,Bool.or_eq_true,Bool.not_eq_true'] at h5;have h6:=(h4.1.2 e he).resolve_left (by simp[hb]);have ah:e.on<i:=by simpa[Nat.blt_eq] using h6
                have h7:=(h5 e he).resolve_left (by simp[hb]);have bc:e.on<hd.length:=by have:=zAE hi;omega
                have h8:hd[e.on]?=some true:=by
                  rw[List.getD_eq_getElem?_getD,List.getElem?_eq_getElem bc,Option.getD_some] at h7;rw[List.getElem?_eq_getElem bc,h7]
                have h9:=ihi e.on ah h8;have hj:e.on<listed.size:=qO
                simpa only[Array.getD_eq_getD_getElem?,Array.getElem?_eq_getElem hj,Option.getD_some] using h9
              rw[hr] at this;cases this
        have:=ay i0 a2;rw[zDT a6] at this;cases this
      · obtain ⟨h1,o,h2,h3⟩:=mem_ready.1 hi;have ho:l[i]?=some o:=by simpa using h2
        have bo:i<l.length:=zAE ho;have av:hd[i]?=some true:=by
          obtain ⟨b,hb⟩:=zAN (l:=hd) (i:=i) qO;cases b with
          | true=>exact hb
          | false=>
            exfalso;have h4:=List.all_eq_true.1 bg i (List.mem_range.2 bo);rw[List.getD_eq_getElem?_getD,hb,Option.getD_some,Bool.false_or,Bool.and_eq_true,Bool.or_eq_true] at h4;have aj:∀u,zOa l i u=true→listed.getD u false=true:=fun u aw=>by
              unfold zOa at aw;rw[ho] at aw;simp only[Array.any_eq_true',Bool.and_eq_true] at aw;obtain ⟨e,he,az,a0⟩:=aw;have:=Nat.eq_of_beq_eq_true a0;rw[←this];exact h3 e he az
            rcases h4.2 with h5|h5
            · have h6:=List.all_eq_true.1 h5 i0 (List.mem_range.2 (by have:=zAE a2;omega));rw[List.getD_eq_getElem?_getD,a2,Option.getD_some,Bool.not_true,Bool.false_or] at h6;have:=aj i0 h6;rw[zDT a6] at this;cases this
            · obtain ⟨p,_,h6⟩:=List.any_eq_true.1 h5;rw[Bool.and_eq_true,Bool.not_eq_true'] at h6;have h7:=aj p h6.2;have hp:hd[p]?=some false:=by
                have h8:=h6.1;rw[List.getD_eq_getElem?_getD] at h8;cases h9:hd[p]? with
                | none=>rw[h9] at h8;cases h8
                | some b=>rw[h9,Option.getD_some] at h8;rw[h8]
              rw[zDT (ao p hp)] at h7;cases h7
        obtain ⟨d,ws,h,a5,bn,a7,h4⟩:=zGN hB ho;rw[av] at a7;cases a7;obtain ⟨ws',F,au,hF,am⟩:=ba.get ho av;rw[bn] at au;cases au;simp only[cond_true,Bool.and_eq_true,Nat.zero_add] at h4;have aq:=h4.2.2;have h4:=h4.1;simp only[zFK,Bool.and_eq_true,List.all_eq_true,Array.any_eq_true',Array.all_eq_true_iff_forall_mem,Bool.or_eq_true,Bool.not_eq_true'] at h4;obtain ⟨⟨⟨ab,a4⟩,_⟩,ar⟩:=h4;have ab:o.dst=some d:=by
          split at ab
          · rename_i d' h;rw[h,Nat.eq_of_beq_eq_true ab]
          · cases ab
        have a4:d<N:=by simpa[Nat.blt_eq] using a4
        have hH:∀j,ws.contains j=true→Holds ds Fs j (env a) w':=by
          intro j hj;have bq:j∈ws:=by simpa using hj
          obtain ⟨e,he,hb⟩:=ar j bq;obtain ⟨az,a0⟩:=hb;have bf:e.on=j:=Nat.eq_of_beq_eq_true a0;have al:=h3 e he az;rw[bf] at al;refine hh j ?_ al;obtain ⟨b,hb⟩:=zAN (l:=hd) (i:=j) (by
            rcases Nat.lt_or_ge j listed.size with h9|h9
            · omega
            · simp[Array.getD_eq_getD_getElem?,Array.getElem?_eq_none h9] at al)
          cases b with
          | true=>exact hb
          | false=>rw[zDT (ao j hb)] at al;cases al
        have gd:∀j b,o.guard=some (j,b)→∀dj,ds[j]?=some dj→(∃oj,l[j]?=some oj∧oj.dst=some dj)∧dj<N:=fun j b ad dj ai=>by
          obtain ⟨oj,af⟩:=zAN (l:=l) (i:=j) (by have:=zAE ai;omega);obtain ⟨dj',_,hj,ap,_,h5,h6⟩:=zGN hB af;rw[ai] at ap;cases ap;unfold zLQ at aq;rw[ad] at aq;simp only at aq;have h7:hj=true:=by rw[List.getD_eq_getElem?_getD,h5,Option.getD_some] at aq;exact aq
          rw[h7] at h6;simp only[cond_true,Bool.and_eq_true,zFK] at h6;obtain ⟨⟨⟨aa,ac⟩,_⟩,_⟩:=h6.1;refine ⟨⟨oj,af,?_⟩,by simpa[Nat.blt_eq] using ac⟩;split at aa
          · rename_i d' h;rw[h,Nat.eq_of_beq_eq_true aa]
          · cases aa
        have an:∀v w2,Ext w' w2→F.In v w2→wpAny P .any l.toArray (zFr dz N Q) (m+ts.length) (listed.setIfInBounds i true) (a.put o.dst v) w2:=by
          intro v w2 a8 hv;have ak:env (a.put o.dst v)=upd (env a) d v:=by rw[ab];exact zDQ ha a4 v
          have br:listed.toList[i]?=some false:=by
            have hj:i<listed.size:=qO
            simp only[Array.getD_eq_getD_getElem?,Array.getElem?_eq_getElem hj,Option.getD_some] at h1;rw[Array.getElem?_toList,Array.getElem?_eq_getElem hj,h1]
          refine ih _ _ _ ?_ (by simpa using be) (fun t ht=>?_) (ha.put _ _) (hx.trans a8) ?_ ?_
          · rw[Array.toList_setIfInBounds];have:=zHu av br;omega
          · rw[Array.toList_setIfInBounds,List.getElem?_set];have a3:i≠t:=fun e=>by rw[←e,av] at ht;cases ht
            rw[if_neg a3];exact ao t ht
          · intro t ht;rw[ak,←hu t ht];simp only[upd];cases hb:Nat.beq t d
            · rfl
            · exfalso;have:t=d:=Nat.eq_of_beq_eq_true hb;subst this;have:=List.mem_of_getElem? a5;simp[this] at ht
          · intro j bi hj d' F' ae a1;rw[ak];by_cases hij:j=i
            · subst hij;rw[a5] at ae;cases ae;rw[hF] at a1;cases a1;simp only[upd,Nat.beq_refl,cond_true];exact hv
            · have a3:Nat.beq d' d=false:=by
                cases hb:Nat.beq d' d
                · rfl
                · exfalso;have:d'=d:=Nat.eq_of_beq_eq_true hb;subst this;exact hij (zCJ hn ae a5)
              simp only[upd,a3,cond_false];rw[getD_set_ne _ (Ne.symm hij)] at hj;exact Fact.ext (hh j bi hj d' F' ae a1) a8
        rcases am (env a) w' hx hu hH with ⟨hg,bp⟩|⟨⟨j,b,dj,ad,ai,ag⟩,ax⟩
        · have hw:Region.wanted o (yielded l.toArray a.tmps)=true:=by
            cases ad:o.guard with
            | none=>simp[Region.wanted,ad]
            | some p=>
              obtain ⟨j,b⟩:=p;obtain ⟨dj,ai,ag⟩:=hg j b ad;obtain ⟨aa,ac⟩:=gd j b ad dj ai;have h6:a.tmps[dj]?=some (Value.bool b):=by
                have h2:a.tmps.getD dj undef=.bool b:=ag;have ah:dj<a.tmps.size:=by rw[ha.size];exact ac
                rw[Array.getElem?_eq_getElem ah];simpa[ah] using h2
              obtain ⟨oj,af,aa⟩:=aa;simp[Region.wanted,ad,yielded,af,aa,h6]
          unfold wpOp;simp only[h2,hw,if_true];exact Or.inl (bp _ a ha rfl _ _ an)
        · have hw:Region.wanted o (yielded l.toArray a.tmps)=false:=by
            obtain ⟨aa,ac⟩:=gd j b ad dj ai;have ah:dj<a.tmps.size:=by rw[ha.size];exact ac
            have h6:a.tmps[dj]?=some (env a dj):=by
              rw[Array.getElem?_eq_getElem ah];simp[env,ah]
            obtain ⟨oj,af,aa⟩:=aa;rcases ag with ag|ag
            · rw[ag] at h6;cases b<;>simp[Region.wanted,ad,yielded,af,aa,h6]
            · rw[ag] at h6;simp[Region.wanted,ad,yielded,af,aa,h6,undef]
          unfold wpOp;simp only[h2,hw,Bool.false_eq_true,if_false];exact an undef w' (Ext.refl _) ax
  have h1:=bk (zEU hd (Array.replicate l.toArray.size false).toList) (Array.replicate l.toArray.size false) a w1 rfl qP (fun t ht=>by have h9:=zAE ht;rw[Array.toList_replicate,List.getElem?_replicate,if_pos (by rw[List.size_toArray];omega)]) ha (Ext.refl _) (fun t _=>by rw[he]) (fun j _ hj=>by rw[getD_replicate_false] at hj;cases hj);have e3:zEU hd (Array.replicate l.toArray.size false).toList+ts.length=l.toArray.size:=by have h9:=Nat.eq_of_beq_eq_true hN;simpa using h9
  rw[e3] at h1;exact h1
theorem zXI {x y z u p a b c d e:Value} (h:x=a) (h':y=b) (h'':z=c) (h3:u=d) (h4:p=e):[x,y,z,u,p]=[a,b,c,d,e]:=by rw[h,h',h'',h3,h4]
section
variable {P : Program} {N : Nat} {σ : Env} {w : World} {dst : Option Tmp} {ty : TypeId} {pos : String} {af : Array Edge} {g : Option (Nat × Bool)} {t : TypeId} {x y z u : Operand} {a b c d : Value} {i j k m : Nat}
theorem bld1 (h:ev σ x=a):([(i,x)].map fun (i,x)=>(i,ev σ x))=[(i,a)]:=by simp only[List.map,h]
theorem zXj (h:ev σ x=a) (h2:ev σ y=b):([(i,x),(j,y)].map fun (i,x)=>(i,ev σ x))=[(i,a),(j,b)]:=by simp only[List.map,h,h2]
def alF (e:Nat) (c:Array Value) (hs:Nat):Fct:=fun v w=>∃b,v=.pointer (some ⟨b,0,none⟩)∧Blk w b c e∧hs≤b
theorem zIS (e:Nat) (c:Array Value) (hs:Nat):zLv (alF e c hs):=by
 rintro v w w' x ⟨b,h1,h2,h3⟩;exact ⟨b,h1,Ext.keep x h2,h3⟩
end
end Go.Eng
namespace Go.Eng
open Go
abbrev zDE:=(Nat→Bool)→Env→Fct
abbrev eF (u:Value):zDE:=fun _ _ v _=>v=u
def zIZ (ds:List Nat) (Fs:List zDE) (S:Nat→Bool) (j:Nat) (σ:Env) (w:World):Prop:=∀d F,ds[j]?=some d→Fs[j]?=some F→F S σ (σ d) w
def zMb (S:Nat→Bool) (i:Nat):Nat→Bool:=fun j=>bif Nat.beq j i then true else S j
theorem zEc (S:Nat→Bool) (i:Nat):zMb S i i=true:=by simp[zMb]
theorem zGg {S:Nat→Bool} {i j:Nat} (h:j≠i):zMb S i j=S j:=by
 have:Nat.beq j i=false:=by cases hb:Nat.beq j i;rfl;exact absurd (Nat.eq_of_beq_eq_true hb) h
 simp[zMb,this]
def MsL:List (Nat×(Nat→Prop))→Nat→Nat→Prop
  | [],_,_=>False
  | p::r,j,y=>(j=p.1∧p.2 y)∨MsL r j y
theorem zBg {c:Nat} {M:Nat→Prop} {r:List (Nat×(Nat→Prop))} {j y:Nat} (h:MsL ((c,M)::r) j y):(j=c∧M y)∨MsL r j y:=h
theorem xN0 {S:Nat→Bool} {w w':World} (X:Chg (fun y=>∃j,S j=true∧MsL [] j y) w w'):Chg zAh w w':=X.mono fun y _ ⟨_,_,h⟩=>h.elim
theorem xN1 {S:Nat→Bool} {w w':World} {c:Nat} {M:Nat→Prop} (hN:S c=false) (X:Chg (fun y=>∃j,S j=true∧MsL [(c,M)] j y) w w'):Chg zAh w w':=X.mono fun y _ ⟨j,hj,h⟩=>by
  rcases zBg h with ⟨rfl,_⟩|h0
  · rw[hj] at hN;cases hN
  · exact h0.elim
theorem xN2 {S:Nat→Bool} {w w':World} {c d:Nat} {M M2:Nat→Prop} (hN:S c=false) (hN2:S d=false) (X:Chg (fun y=>∃j,S j=true∧MsL [(c,M),(d,M2)] j y) w w'):Chg zAh w w':=X.mono fun y _ ⟨j,hj,h⟩=>by
  rcases zBg h with ⟨rfl,_⟩|h
  · rw[hj] at hN;cases hN
  rcases zBg h with ⟨rfl,_⟩|h0
  · rw[hj] at hN2;cases hN2
  · exact h0.elim
theorem xM1 {S:Nat→Bool} {w w':World} {c:Nat} {M:Nat→Prop} (X:Chg (fun y=>∃j,S j=true∧MsL [(c,M)] j y) w w'):Chg M w w':=X.mono fun y _ ⟨j,hj,h⟩=>by
  rcases zBg h with ⟨_,h⟩|h0
  · exact h
  · exact h0.elim
theorem xM2 {S:Nat→Bool} {w w':World} {c d:Nat} {M M2:Nat→Prop} (hN2:S d=false) (X:Chg (fun y=>∃j,S j=true∧MsL [(c,M),(d,M2)] j y) w w'):Chg M w w':=X.mono fun y _ ⟨j,hj,h⟩=>by
  rcases zBg h with ⟨_,h⟩|h
  · exact h
  rcases zBg h with ⟨rfl,_⟩|h0
  · rw[hj] at hN2;cases hN2
  · exact h0.elim
def zGn (N i:Nat) (hd:List Bool) (o:Oper) (d:Nat) (ws:List Nat):Bool:=
 (match o.dst with|some d'=>Nat.beq d' d && Nat.blt d N|none=>Nat.ble N d) && (o.after.all fun e=>!Region.binds .any e || (Nat.blt e.on i && hd.getD e.on false)) && (ws.all fun j=>o.after.any fun e=>Region.binds .any e && Nat.beq e.on j) && zLQ hd o
def zFe (N:Nat) (hd:List Bool):Nat→List Oper→List Nat→List (List Nat)→List Bool→Bool
  | _,[],[],[],[]=>true
  | i,o::l,d::ds,ws::wss,h::hs=>(bif h then zGn N i hd o d ws else Nat.ble N d) && zFe N hd (i+1) l ds wss hs
  | _,_,_,_,_=>false
theorem zFI {N:Nat} {hd:List Bool}:∀{i:Nat} {l:List Oper} {ds:List Nat} {wss:List (List Nat)} {hs:List Bool},zFe N hd i l ds wss hs=true→∀{j:Nat} {o:Oper},l[j]?=some o→∃d ws h,ds[j]?=some d∧wss[j]?=some ws∧hs[j]?=some h∧(bif h then zGn N (i+j) hd o d ws else Nat.ble N d)=true
  | _,[],_,_,_,_,j,o,h=>by simp at h
  | i,x::l,[],_,_,hB,_,_,_=>by simp[zFe] at hB
  | i,x::l,d::ds,[],_,hB,_,_,_=>by simp[zFe] at hB
  | i,x::l,d::ds,ws::wss,[],hB,_,_,_=>by simp[zFe] at hB
  | i,x::l,d::ds,ws::wss,h0::hs,hB,j,o,h=>by
    simp only[zFe,Bool.and_eq_true] at hB;cases j with
    | zero=>simp at h;subst h;exact ⟨d,ws,h0,rfl,rfl,rfl,hB.1⟩
    | succ j=>
      simp at h;obtain ⟨d',ws',h',h1,h2,h3,h4⟩:=zFI hB.2 h;exact ⟨d',ws',h',by simpa using h1,by simpa using h2,by simpa using h3,by rw[show i+(j+1)=i+1+j from qO];exact h4⟩
theorem zLe {N:Nat} {hd:List Bool}:∀{i:Nat} {l:List Oper} {ds:List Nat} {wss:List (List Nat)} {hs:List Bool},zFe N hd i l ds wss hs=true→ds.length=l.length∧hs.length=l.length∧wss.length=l.length
  | _,[],[],[],[],_=>⟨rfl,rfl,rfl⟩
  | _,[],[],[],_::_,hB=>by simp[zFe] at hB
  | _,[],[],_::_,_,hB=>by simp[zFe] at hB
  | _,[],_::_,_,_,hB=>by simp[zFe] at hB
  | i,x::l,[],_,_,hB=>by simp[zFe] at hB
  | i,x::l,d::ds,[],_,hB=>by simp[zFe] at hB
  | i,x::l,d::ds,ws::wss,[],hB=>by simp[zFe] at hB
  | i,x::l,d::ds,ws::wss,h0::hs,hB=>by
    simp only[zFe,Bool.and_eq_true] at hB;have:=zLe hB.2;simp[this.1,this.2.1,this.2.2]
def zKW (P:Program) (N:Nat) (ds:List Nat) (Fs:List zDE) (σ:Env) (w:World) (Ms:Nat→Nat→Prop) (cl:List (List Nat)) (i:Nat) (o:Oper) (ws:List Nat) (F:zDE):Prop:=
 ∀(S:Nat→Bool) σ' w',S i=false→(∀j,(cl.getD j []).contains i=true→S j=false)→Chg (fun y=>∃j,S j=true∧Ms j y) w w'→(∀t,ds.contains t=false→σ' t=σ t)→(∀j d,ds[j]?=some d→S j=false→σ' d=σ d)→(∀j,ws.contains j=true→S j=true∧zIZ ds Fs S j σ' w')→
  (zIa ds o σ'∧zCj (Ms i) P N o (fun v w=>F (zMb S i) σ' (Go.Eng.valOf o v) w) σ' w')∨(zSw ds o σ'∧F (zMb S i) σ' undef w')
def zCP (Ms:Nat→Nat→Prop) (i:Nat) (ws:List Nat) (F:zDE):Prop:=∀p,p≠i→ws.contains p=false→∀S σ v w w',S i=true→S p=false→Chg (Ms p) w w'→F S σ v w→F (zMb S p) σ v w'
def zCr (ds:List Nat) (ws:List Nat) (F:zDE):Prop:=∀S (σ1 σ2:Env),(∀j d,ws.contains j=true→ds[j]?=some d→σ2 d=σ1 d)→∀v w,F S σ1 v w→F S σ2 v w
inductive DagStepsS (P:Program) (N:Nat) (ds:List Nat) (Fs:List zDE) (σ:Env) (w:World) (Ms:Nat→Nat→Prop) (cl:List (List Nat)):Nat→List Oper→List (List Nat)→List Bool→List zDE→Prop where
  | nil {i:Nat}:DagStepsS P N ds Fs σ w Ms cl i [] [] [] []
  | cons {i:Nat} {o:Oper} {ws:List Nat} {F:zDE} {l:List Oper} {wss:List (List Nat)} {hs:List Bool} {Gs:List zDE} (s:zCP Ms i ws F) (lc:zCr ds ws F) (h:zKW P N ds Fs σ w Ms cl i o ws F) (t:DagStepsS P N ds Fs σ w Ms cl (i+1) l wss hs Gs):DagStepsS P N ds Fs σ w Ms cl i (o::l) (ws::wss) (true::hs) (F::Gs)
  | tail {i:Nat} {o:Oper} {ws:List Nat} {F:zDE} {l:List Oper} {wss:List (List Nat)} {hs:List Bool} {Gs:List zDE} (t:DagStepsS P N ds Fs σ w Ms cl (i+1) l wss hs Gs):DagStepsS P N ds Fs σ w Ms cl i (o::l) (ws::wss) (false::hs) (F::Gs)
def zNr (hd:List Bool):Nat→Bool:=fun j=>hd.getD j false
def zIc (M:Nat→Prop) (ch:List PanicEntry) (X:World→Prop) (P:Program) (N:Nat) (o:Oper) (R:Fct) (σ:Env) (w:World):Prop:=
 ∀dz a,Ok dz N a→env a=σ→∀(Q:Exit→Act→World→Prop) (K:Act→World→Prop),(∀v w',Chg M w w'→R v w'→K (a.put o.dst v) w')→(∀w',Chg M w w'→X w'→Q (.panic ch) a w')→o.wp P a w K Q
theorem zCj.x {M:Nat→Prop} {ch:List PanicEntry} {X:World→Prop} {P:Program} {N:Nat} {o:Oper} {R:Fct} {σ:Env} {w:World} (h:zCj M P N o R σ w):zIc M ch X P N o R σ w:=fun dz a ha he Q K hK _=>h dz a ha he Q K hK
theorem zMn {M:Nat→Prop} {ch:List PanicEntry} {X:World→Prop} {P:Program} {N:Nat} {o:Oper} {R:Fct} {σ:Env} {w:World} {f:FuncId} {args:Array Value} (hr:(execOp (ev σ) o).run P w=.ok (.enter f args) w) (hc:zRI P ch f args w (fun v w'=>R v w'∧Chg M w w') (fun w'=>X w'∧Chg M w w')):zIc M ch X P N o R σ w:=by
 intro dz a ha he Q K hK hX;unfold Oper.wp;rw[zCH,he,hr];simp only[Oper.upon];refine Calls.mono hc ?_;rintro e w' (⟨v,rfl,r,c⟩|⟨rfl,x,c⟩)
 ·exact hK v w' c r
 ·exact hX w' c x
theorem zIc.weak {M:Nat→Prop} {ch:List PanicEntry} {X:World→Prop} {P:Program} {N:Nat} {o:Oper} {R R':Fct} {σ:Env} {w:World} (h:zIc M ch X P N o R σ w) (hr:∀v w',Chg M w w'→R v w'→R' v w'):zIc M ch X P N o R' σ w:=fun dz a ha he Q K hK hX=>h dz a ha he Q K (fun v w' c r=>hK v w' c (hr v w' c r)) hX
def zKX (P:Program) (N:Nat) (ds:List Nat) (Fs:List zDE) (σ:Env) (w:World) (Ms:Nat→Nat→Prop) (Rs:Nat→World→World→Prop) (ch:List PanicEntry) (X:World→Prop) (cl:List (List Nat)) (i:Nat) (o:Oper) (ws:List Nat) (F:zDE):Prop:=
 ∀(S:Nat→Bool) σ' w',S i=false→(∀j,(cl.getD j []).contains i=true→S j=false)→Chg (fun y=>∃j,S j=true∧Ms j y) w w'→(∀t,ds.contains t=false→σ' t=σ t)→(∀j d,ds[j]?=some d→S j=false→σ' d=σ d)→(∀j,ws.contains j=true→S j=true∧zIZ ds Fs S j σ' w')→
  (zIa ds o σ'∧zIc (Ms i) ch X P N o (fun v w=>F (zMb S i) σ' (Go.Eng.valOf o v) w∧Rs i w' w) σ' w')∨(zSw ds o σ'∧F (zMb S i) σ' undef w'∧Rs i w' w')
def zCE (Ms:Nat→Nat→Prop) (Rs:Nat→World→World→Prop) (cl:List (List Nat)) (i:Nat) (ws:List Nat) (F:zDE):Prop:=∀p,p≠i→ws.contains p=false→∀S σ v w w',S i=true→S p=false→(∀j,(cl.getD p []).contains j=true→S j=true)→Chg (Ms p) w w'→Rs p w w'→F S σ v w→F (zMb S p) σ v w'
inductive DagStepsG (P:Program) (N:Nat) (ds:List Nat) (Fs:List zDE) (σ:Env) (w:World) (Ms:Nat→Nat→Prop) (Rs:Nat→World→World→Prop) (ch:List PanicEntry) (X:World→Prop) (cl:List (List Nat)):Nat→List Oper→List (List Nat)→List Bool→List zDE→Prop where
  | nil {i:Nat}:DagStepsG P N ds Fs σ w Ms Rs ch X cl i [] [] [] []
  | cons {i:Nat} {o:Oper} {ws:List Nat} {F:zDE} {l:List Oper} {wss:List (List Nat)} {hs:List Bool} {Gs:List zDE} (s:zCE Ms Rs cl i ws F) (lc:zCr ds ws F) (h:zKX P N ds Fs σ w Ms Rs ch X cl i o ws F) (t:DagStepsG P N ds Fs σ w Ms Rs ch X cl (i+1) l wss hs Gs):DagStepsG P N ds Fs σ w Ms Rs ch X cl i (o::l) (ws::wss) (true::hs) (F::Gs)
  | tail {i:Nat} {o:Oper} {ws:List Nat} {F:zDE} {l:List Oper} {wss:List (List Nat)} {hs:List Bool} {Gs:List zDE} (t:DagStepsG P N ds Fs σ w Ms Rs ch X cl (i+1) l wss hs Gs):DagStepsG P N ds Fs σ w Ms Rs ch X cl i (o::l) (ws::wss) (false::hs) (F::Gs)
theorem DagStepsG.get {P:Program} {N:Nat} {ds:List Nat} {Fs:List zDE} {σ:Env} {w:World} {Ms:Nat→Nat→Prop} {Rs:Nat→World→World→Prop} {ch:List PanicEntry} {X:World→Prop} {cl:List (List Nat)}:∀{i:Nat} {l:List Oper} {wss:List (List Nat)} {hs:List Bool} {Gs:List zDE},DagStepsG P N ds Fs σ w Ms Rs ch X cl i l wss hs Gs→∀{j:Nat} {o:Oper},l[j]?=some o→hs[j]?=some true→∃ws F,wss[j]?=some ws∧Gs[j]?=some F∧zCE Ms Rs cl (i+j) ws F∧zCr ds ws F∧zKX P N ds Fs σ w Ms Rs ch X cl (i+j) o ws F
  | _,_,_,_,_,.nil,j,o,h,_=>by simp at h
  | i,_,_,_,_,.cons s lc h t,0,o,ho,_=>by
    simp at ho;subst ho;exact ⟨_,_,rfl,rfl,s,lc,h⟩
  | _,_,_,_,_,.tail t,0,o,h,ht=>by simp at ht
  | i,_,_,_,_,.cons s lc h t,j+1,o,ho,ht=>by
    obtain ⟨ws,F,h1,h2,h3,h5,h4⟩:=t.get (j:=j) (by simpa using ho) (by simpa using ht);exact ⟨ws,F,by simpa using h1,by simpa using h2,by rw[show i+(j+1)=i+1+j from qO];exact h3,h5,by rw[show i+(j+1)=i+1+j from qO];exact h4⟩
  | i,_,_,_,_,.tail t,j+1,o,ho,ht=>by
    obtain ⟨ws,F,h1,h2,h3,h5,h4⟩:=t.get (j:=j) (by simpa using ho) (by simpa using ht);exact ⟨ws,F,by simpa using h1,by simpa using h2,by rw[show i+(j+1)=i+1+j from qO];exact h3,h5,by rw[show i+(j+1)=i+1+j from qO];exact h4⟩
theorem zMl {P:Program} {N:Nat} {Q:zFN} {σ:Env} {w:World} {id:Nat} {l:List Oper} (Ms:Nat→Nat→Prop) (Rs:Nat→World→World→Prop) (ch:List PanicEntry) (X:World→Prop) (hd:List Bool) (ts:List Nat) (ds:List Nat) (wss cl:List (List Nat)) (Fs:List zDE) {Gs:List zDE} (hG:Fs=Gs) (hC:zSa wss cl=true) (hm:P.follows .mixedOrders=true) (hB:zFe N hd 0 l ds wss hd=true) (hn:zGH ds=true)
    (hT:(zPG l hd ts && zMP l.toArray ts hd.toArray)=true) (hN:Nat.beq (zEU hd (List.replicate l.length false)+ts.length) l.length=true)
    (steps:∀w1,Ext w w1→DagStepsG P N ds Fs σ w1 Ms Rs ch X cl 0 l cl hd Gs)
    (hX:∀σ' w1 w',Ext w w1→Chg (fun y=>∃j,Ms j y) w1 w'→X w'→Q (.panic ch) σ' w')
    (k:∀σ' w1 w',Ext w w1→Chg (fun y=>∃j,hd.getD j false=true∧Ms j y) w1 w'→(∀t,ds.contains t=false→σ' t=σ t)→(∀j,hd[j]?=some true→zIZ ds Fs (zNr hd) j σ' w')→WpL P N l.toArray (Q .normal) Q (ts.filterMap fun k=>l[k]?) σ' w'):Wp P N (.region id l.toArray true) Q σ w:=by
  intro dz a ha he;have eQ:zFr dz N (thn (Q .normal) Q)=zFr dz N Q:=by funext e a w;cases e<;>rfl
  refine wp_region_any hm ?_;obtain ⟨w1,b3⟩:∃w1:World,w1={w with drawn:=w.drawn+1}:=⟨_,rfl⟩;have bo:Ext w w1:=by rw[b3];exact zFX w
  rw[←b3];have bg:=steps w1 bo;rw[←hG] at bg;rw[Bool.and_eq_true] at hT;obtain ⟨cm,b9⟩:=hT;obtain ⟨b6,bs,bq⟩:=zLe hB
  let Lf:Array Bool→Nat→Bool:=fun listed j=>listed.getD j false
  have cn:∀(m:Nat) (listed:Array Bool) (a:Act) (w':World),zEU hd listed.toList=m→listed.size=l.length→(∀(t:Nat),hd[t]?=some false→listed.toList[t]?=some false)→(∀(j:Nat) oj,l[j]?=some oj→listed.getD j false=true→∀e∈oj.after,Region.binds .any e=true→listed.getD e.on false=true)→Ok dz N a→Chg (fun y=>∃j,listed.getD j false=true∧Ms j y) w1 w'→(∀t,ds.contains t=false→env a t=σ t)→(∀j d,ds[j]?=some d→listed.getD j false=false→env a d=σ d)→(∀j,hd[j]?=some true→listed.getD j false=true→zIZ ds Fs (Lf listed) j (env a) w')→
      wpAny P .any l.toArray (zFr dz N Q) (m+ts.length) listed a w':=by
    intro m
    induction m with
    | zero=>
      intro listed a w' b7 b4 a7 bn ha hx hu be hh;have hl:listed=hd.toArray:=by
        apply Array.ext';exact zGd (by simp;omega) b7 a7
      have bv:Lf listed=zNr hd:=by
        funext j;show listed.getD j false=hd.getD j false;rw[hl];simp[List.getD_eq_getElem?_getD]
      rw[Nat.zero_add];have h1:=k (env a) w1 w' bo (hx.mono fun y _ h=>by
        obtain ⟨j,h1,h2⟩:=h;have:zNr hd j=true:=by rw[←bv];exact h1
        exact ⟨j,this,h2⟩) hu (fun j hj=>by rw[←bv];exact hh j hj (zDT (by rw[hl];exact hj))) dz a ha rfl
      rw[eQ] at h1;exact zEh ts listed a w' (by rw[hl];exact b9) (by simpa using h1)
    | succ m ih=>
      intro listed a w' hcm b4 a7 bn ha hx hu be hh;obtain ⟨i0,bf,bz⟩:=zHv (hd:=hd) (listed:=listed.toList) qO;rw[show m+1+ts.length=(m+ts.length)+1 by omega];refine ⟨fun hr=>?_,fun i hi=>?_⟩
      · exfalso;have bk:∀i:Nat,hd[i]?=some true→listed.getD i true=true:=by
          intro i
          induction i using Nat.strongRecOn with
          | _ i ihi=>
            intro hi;cases hv:listed.getD i true with
            | true=>rfl
            | false=>
              exfalso;obtain ⟨o,ho⟩:=zAN (l:=l) (i:=i) (by have:=zAE hi;omega);obtain ⟨d,ws,h,_,_,h2,h3⟩:=zFI hB ho;rw[hi] at h2;cases h2;simp only[cond_true,zGn,Bool.and_eq_true,Nat.zero_add] at h3;have:i∈Region.ready .any l.toArray listed:=by
                refine mem_ready.2 ⟨hv,o,by simpa using ho,fun e he hb=>?_⟩;have h4:=h3.1.1.2;simp only[Array.all_eq_true_iff_forall_mem,Bool.or_eq_true,Bool.not_eq_true',Bool.and_eq_true] at h4;have h6:=(h4 e he).resolve_left (by simp[hb]);have au:e.on<i:=by simpa[Nat.blt_eq] using h6.1
                have h7:=h6.2;have bt:e.on<hd.length:=by have:=zAE hi;omega
                have h8:hd[e.on]?=some true:=by
                  rw[List.getD_eq_getElem?_getD,List.getElem?_eq_getElem bt,Option.getD_some] at h7;rw[List.getElem?_eq_getElem bt,h7]
                have h9:=ihi e.on au h8;have hj:e.on<listed.size:=qO
                simpa only[Array.getD_eq_getD_getElem?,Array.getElem?_eq_getElem hj,Option.getD_some] using h9
              rw[hr] at this;cases this
        have:=bk i0 bf;rw[zDT bz] at this;cases this
      · obtain ⟨h1,o,h2,h3⟩:=mem_ready.1 hi;have ho:l[i]?=some o:=by simpa using h2
        have co:i<l.length:=zAE ho;have bc:hd[i]?=some true:=by
          obtain ⟨b,hb⟩:=zAN (l:=hd) (i:=i) qO;cases b with
          | true=>exact hb
          | false=>
            exfalso;have h4:=List.all_eq_true.1 cm i (List.mem_range.2 co);rw[List.getD_eq_getElem?_getD,hb,Option.getD_some,Bool.false_or,Bool.and_eq_true,Bool.or_eq_true] at h4;have a5:∀u,zOa l i u=true→listed.getD u false=true:=fun u a9=>by
              unfold zOa at a9;rw[ho] at a9;simp only[Array.any_eq_true',Bool.and_eq_true] at a9;obtain ⟨e,he,ax,a6⟩:=a9;have:=Nat.eq_of_beq_eq_true a6;rw[←this];exact h3 e he ax
            rcases h4.2 with h5|h5
            · have h6:=List.all_eq_true.1 h5 i0 (List.mem_range.2 (by have:=zAE bf;omega));rw[List.getD_eq_getElem?_getD,bf,Option.getD_some,Bool.not_true,Bool.false_or] at h6;have:=a5 i0 h6;rw[zDT bz] at this;cases this
            · obtain ⟨p,_,h6⟩:=List.any_eq_true.1 h5;rw[Bool.and_eq_true,Bool.not_eq_true'] at h6;have h7:=a5 p h6.2;have hp:hd[p]?=some false:=by
                have h8:=h6.1;rw[List.getD_eq_getElem?_getD] at h8;cases h9:hd[p]? with
                | none=>rw[h9] at h8;cases h8
                | some b=>rw[h9,Option.getD_some] at h8;rw[h8]
              rw[zDT (a7 p hp)] at h7;cases h7
        obtain ⟨d,ws,h,aw,ca,b0,h4⟩:=zFI hB ho;rw[bc] at b0;cases b0;obtain ⟨ci,F,b1,hF,a1,bj,an⟩:=bg.get ho bc;rw[Nat.zero_add] at a1 an;simp only[cond_true,zGn,Bool.and_eq_true,List.all_eq_true,Array.any_eq_true',Nat.zero_add] at h4;obtain ⟨⟨⟨af,_⟩,a8⟩,a4⟩:=h4;have ac:∀j,listed.getD j false=true→hd[j]?=some true:=fun j hj=>by
          obtain ⟨b,hb⟩:=zAN (l:=hd) (i:=j) (by
            rcases Nat.lt_or_ge j listed.size with h9|h9
            · omega
            · simp[Array.getD_eq_getD_getElem?,Array.getElem?_eq_none h9] at hj)
          cases b with
          | true=>exact hb
          | false=>rw[zDT (a7 j hb)] at hj;cases hj
        have br:∀j,listed.getD j false=true→∀c,(cl.getD j []).contains c=true→listed.getD c false=true:=by
          intro j
          induction j using Nat.strongRecOn with
          | _ j ihj=>
            intro am c hc;have av:=ac j am;obtain ⟨oc,bw⟩:=zAN (l:=l) (i:=j) (by have:=zAE av;omega);obtain ⟨dc,ce,hb,_,bm,bu,h5⟩:=zFI hB bw;rw[av] at bu;cases bu;simp only[cond_true,zGn,Bool.and_eq_true,List.all_eq_true,Array.any_eq_true',Array.all_eq_true_iff_forall_mem,Bool.or_eq_true,Bool.not_eq_true',Nat.zero_add] at h5;have ae:∀e'∈ce,listed.getD e' false=true∧e'<j:=by
              intro e' aq;obtain ⟨e,he,ax,a6⟩:=h5.1.2 e' aq;have ct:e.on=e':=Nat.eq_of_beq_eq_true a6;have h6:=bn j oc bw am e he ax;have h7:=(h5.1.1.2 e he).resolve_left (by simp[ax]);rw[ct] at h6 h7;exact ⟨h6,by simpa[Nat.blt_eq] using h7.1⟩
            rcases zGP hC bm hc with h6|⟨e',aq,h6⟩
            · exact (ae c h6).1
            · exact ihj e' (ae e' aq).2 (ae e' aq).1 c h6
        have ah:∀j,ci.contains j=true→listed.getD j false=true:=by
          intro j hj;have ao:(cl.getD i []).contains j=true:=by rw[List.getD_eq_getElem?_getD,b1,Option.getD_some];exact hj
          have ae:∀e'∈ws,listed.getD e' false=true:=by
            intro e' aq;obtain ⟨e,he,ax,a6⟩:=a8 e' aq;have:e.on=e':=Nat.eq_of_beq_eq_true a6;exact this▸h3 e he ax
          rcases zGP hC ca ao with h6|⟨e',aq,h6⟩
          · exact ae j h6
          · exact br e' (ae e' aq) j h6
        have a0:∀j,(cl.getD i []).contains j=true→Lf listed j=true:=fun j hj=>ah j (by rw[List.getD_eq_getElem?_getD,b1,Option.getD_some] at hj;exact hj);have bp:Lf listed i=false:=getD_both h1;have b5:∀j,(cl.getD j []).contains i=true→Lf listed j=false:=by
          intro j hj;cases am:Lf listed j with
          | false=>rfl
          | true=>
            exfalso;have:=br j am i hj;rw[getD_both h1] at this;cases this
        have hH:∀j,ci.contains j=true→Lf listed j=true∧zIZ ds Fs (Lf listed) j (env a) w':=fun j hj=>⟨ah j hj,hh j (ac j (ah j hj)) (ah j hj)⟩;have ak:i<listed.size:=qO
        have b8:Lf (listed.setIfInBounds i true)=zMb (Lf listed) i:=by
          funext j;by_cases hij:j=i
          · subst hij;rw[zEc];show (listed.setIfInBounds j true).getD j false=true;simp[Array.getD_eq_getD_getElem?,ak]
          · rw[zGg hij];exact getD_set_ne _ (Ne.symm hij)
        have ai:∀w2,Chg (Ms i) w' w2→Chg (fun y=>∃j,(listed.setIfInBounds i true).getD j false=true∧Ms j y) w1 w2:=by
          intro w2 ay;have hg:(listed.setIfInBounds i true).getD i false=true:=by simp[Array.getD_eq_getD_getElem?,ak]
          refine Chg.step (hx.mono fun y _ h=>?_) ay (fun y _ h=>⟨i,hg,h⟩);obtain ⟨j,h5,h6⟩:=h;by_cases hij:j=i
          · exact ⟨i,hg,hij▸h6⟩
          · exact ⟨j,by rw[getD_set_ne _ (Ne.symm hij)];exact h5,h6⟩
        have a2:∀v w2,Chg (Ms i) w' w2→F (zMb (Lf listed) i) (env a) (Go.Eng.valOf o v) w2∧Rs i w' w2→wpAny P .any l.toArray (zFr dz N Q) (m+ts.length) (listed.setIfInBounds i true) (a.put o.dst v) w2:=by
          rintro v w2 ay ⟨hv,bd⟩;have ad:(∀t,t≠d→env (a.put o.dst v) t=env a t)∧env (a.put o.dst v) d=Go.Eng.valOf o v:=by
            cases hod:o.dst with
            | none=>
              rw[hod] at af;have cr:N≤d:=Nat.le_of_ble_eq_true af;refine ⟨fun t _=>rfl,?_⟩;simp only[Go.Eng.valOf,hod];show a.tmps.getD d undef=undef;have:a.tmps.size≤d:=by rw[ha.size];exact cr
              simp[Array.getElem?_eq_none this]
            | some d'=>
              rw[hod] at af;simp only[Bool.and_eq_true] at af;have cd:d'=d:=Nat.eq_of_beq_eq_true af.1;have aj:d<N:=by simpa[Nat.blt_eq] using af.2
              subst cd;rw[zDQ ha aj v];refine ⟨fun t ht=>?_,?_⟩
              · have:Nat.beq t d'=false:=by cases hb:Nat.beq t d';rfl;exact absurd (Nat.eq_of_beq_eq_true hb) ht
                simp[upd,this]
              · simp[upd,Go.Eng.valOf,hod]
          have cc:listed.toList[i]?=some false:=by
            simp only[Array.getD_eq_getD_getElem?,Array.getElem?_eq_getElem ak,Option.getD_some] at h1;rw[Array.getElem?_toList,Array.getElem?_eq_getElem ak,h1]
          refine ih _ _ _ ?_ (by simpa using b4) (fun t ht=>?_) (fun j oj ab am e he hb=>?_) (ha.put _ _) (ai w2 ay) ?_ ?_ ?_
          · rw[Array.toList_setIfInBounds];have:=zHu bc cc;omega
          · rw[Array.toList_setIfInBounds,List.getElem?_set];have bh:i≠t:=fun e=>by rw[←e,bc] at ht;cases ht
            rw[if_neg bh];exact a7 t ht
          · refine getD_set_true ?_;by_cases hij:j=i
            · subst hij;rw[ho] at ab;cases ab;exact h3 e he hb
            · rw[getD_set_ne _ (Ne.symm hij)] at am;exact bn j oj ab am e he hb
          · intro t ht;rw[ad.1 t (fun h=>by
              subst h;have:=List.mem_of_getElem? aw;simp[this] at ht),hu t ht]
          · intro j d2 aj ba;by_cases hij:j=i
            · subst hij;have cb:(listed.setIfInBounds j true).getD j false=true:=by simp[Array.getD_eq_getD_getElem?,ak]
              rw[cb] at ba;cases ba
            · rw[getD_set_ne _ (Ne.symm hij)] at ba;rw[ad.1 d2 (fun h=>by subst h;exact hij (zCJ hn aj aw)),be j d2 aj ba]
          · intro j av hj d2 F2 aj bb;rw[b8];by_cases hij:j=i
            · subst hij;rw[aw] at aj;cases aj;rw[hF] at bb;cases bb;rw[ad.2];refine bj _ (env a) _ (fun j' d2 ao aj=>ad.1 d2 fun he=>?_) _ _ hv;have:=zCJ hn (he▸aj) aw;subst this;have:=ah j' ao;rw[getD_both h1] at this;cases this
            · have bh:d2≠d:=by
                intro h;subst h;exact hij (zCJ hn aj aw)
              rw[ad.1 d2 bh];rw[getD_set_ne _ (Ne.symm hij)] at hj;have h6:=hh j av hj d2 F2 aj bb;obtain ⟨oj,ab⟩:=zAN (l:=l) (i:=j) (by have:=zAE av;omega);obtain ⟨cj,Fj,cf,bx,b2,am,_⟩:=bg.get ab av;rw[bb] at bx;cases bx;rw[Nat.zero_add] at b2;have ck:cl.getD j []=cj:=by rw[List.getD_eq_getElem?_getD,cf,Option.getD_some]
              have al:cj.contains i=false:=by
                cases al:cj.contains i with
                | false=>rfl
                | true=>
                  exfalso;have:=b5 j (by rw[ck];exact al);have ao:Lf listed j=true:=hj;rw[ao] at this;cases this
              refine am _ (env a) _ (fun j' d3 ao cq=>ad.1 d3 fun he=>?_) _ _ (b2 i (Ne.symm hij) al (Lf listed) (env a) _ _ _ hj bp a0 ay bd h6);have h8:=zCJ hn (he▸cq) aw;subst h8;rw[al] at ao;cases ao
        have gd:∀j b,o.guard=some (j,b)→∀dj,ds[j]?=some dj→((∃oj,l[j]?=some oj∧oj.dst=some dj)∧dj<N)∨(N≤dj∧∃oj,l[j]?=some oj∧oj.dst=none):=fun j b ag dj az=>by
          obtain ⟨oj,ab⟩:=zAN (l:=l) (i:=j) (by have:=zAE az;omega);obtain ⟨dj',_,hj,a3,_,h5,h6⟩:=zFI hB ab;rw[az] at a3;cases a3;unfold zLQ at a4;rw[ag] at a4;simp only at a4;have h7:hj=true:=by rw[List.getD_eq_getElem?_getD,h5,Option.getD_some] at a4;exact a4
          rw[h7] at h6;simp only[cond_true,Bool.and_eq_true,zGn] at h6;have aa:=h6.1.1.1;split at aa
          · rename_i d2 hq
            rw[Bool.and_eq_true] at aa;exact .inl ⟨⟨oj,ab,by rw[hq,Nat.eq_of_beq_eq_true aa.1]⟩,by simpa[Nat.blt_eq] using aa.2⟩
          · rename_i hq
            exact .inr ⟨Nat.le_of_ble_eq_true aa,oj,ab,hq⟩
        rcases an (Lf listed) (env a) w' bp b5 hx hu be hH with ⟨hg,cp⟩|⟨⟨j,b,dj,ag,az,ap⟩,bi,bd⟩
        · have hw:Region.wanted o (yielded l.toArray a.tmps)=true:=by
            cases ag:o.guard with
            | none=>simp[Region.wanted,ag]
            | some p=>
              obtain ⟨j,b⟩:=p;obtain ⟨dj,az,ap⟩:=hg j b ag;rcases gd j b ag dj az with ⟨aa,ar⟩|⟨cs,_⟩
              · have h6:a.tmps[dj]?=some (Value.bool b):=by
                  have h2:a.tmps.getD dj undef=.bool b:=ap;have au:dj<a.tmps.size:=by rw[ha.size];exact ar
                  rw[Array.getElem?_eq_getElem au];simpa[au] using h2
                obtain ⟨oj,ab,aa⟩:=aa;simp[Region.wanted,ag,yielded,ab,aa,h6]
              · exfalso;have h2:a.tmps.getD dj undef=.bool b:=ap;have:a.tmps.size≤dj:=by rw[ha.size];exact cs
                simp[Array.getElem?_eq_none this,undef] at h2
          unfold wpOp;simp only[h2,hw,if_true];exact Or.inl (cp _ a ha rfl _ _ a2 (fun w2 ay cg=>⟨ha,hX (env a) w1 w2 bo ((ai w2 ay).mono fun y _ h=>h.imp fun j h=>h.2) cg⟩))
        · have hw:Region.wanted o (yielded l.toArray a.tmps)=false:=by
            rcases gd j b ag dj az with ⟨aa,ar⟩|⟨_,oj,ab,hq⟩
            · have au:dj<a.tmps.size:=by rw[ha.size];exact ar
              have h6:a.tmps[dj]?=some (env a dj):=by
                rw[Array.getElem?_eq_getElem au];simp[env,au]
              obtain ⟨oj,ab,aa⟩:=aa;rcases ap with ap|ap
              · rw[ap] at h6;cases b<;>simp[Region.wanted,ag,yielded,ab,aa,h6]
              · rw[ap] at h6;simp[Region.wanted,ag,yielded,ab,aa,h6,undef]
            · simp[Region.wanted,ag,yielded,ab,hq]
          unfold wpOp;simp only[h2,hw,Bool.false_eq_true,if_false];exact a2 undef w' (Chg.refl _ _) (by
            have:Go.Eng.valOf o undef=undef:=by unfold Go.Eng.valOf;split<;>rfl
            rw[this];exact ⟨bi,bd⟩)
  have h1:=cn (zEU hd (Array.replicate l.toArray.size false).toList) (Array.replicate l.toArray.size false) a w1 rfl qP (fun t ht=>by have h9:=zAE ht;rw[Array.toList_replicate,List.getElem?_replicate,if_pos (by rw[List.size_toArray];omega)]) (fun j oj _ hl=>(by rw[getD_replicate_false] at hl;cases hl)) ha (Chg.refl _ _) (fun t _=>by rw[he]) (fun j d _ _=>by rw[he]) (fun j _ hj=>by rw[getD_replicate_false] at hj;cases hj);have e3:zEU hd (Array.replicate l.toArray.size false).toList+ts.length=l.toArray.size:=by have h9:=Nat.eq_of_beq_eq_true hN;simpa using h9
  rw[e3] at h1;exact h1
theorem zKW.toG {P:Program} {N:Nat} {ds:List Nat} {Fs:List zDE} {σ:Env} {w:World} {Ms:Nat→Nat→Prop} {cl:List (List Nat)} {i:Nat} {o:Oper} {ws:List Nat} {F:zDE} (h:zKW P N ds Fs σ w Ms cl i o ws F):zKX P N ds Fs σ w Ms (fun _ _ _=>True) [] (fun _=>False) cl i o ws F:=fun S σ' w' a b c d e f=>
 (h S σ' w' a b c d e f).imp (fun ⟨g,h⟩=>⟨g,(zCj.x h).weak fun _ _ _ r=>⟨r,trivial⟩⟩) fun ⟨u,f⟩=>⟨u,f,trivial⟩
theorem DagStepsS.toG {P:Program} {N:Nat} {ds:List Nat} {Fs:List zDE} {σ:Env} {w:World} {Ms:Nat→Nat→Prop} {cl:List (List Nat)}:∀{i:Nat} {l:List Oper} {wss:List (List Nat)} {hs:List Bool} {Gs:List zDE},DagStepsS P N ds Fs σ w Ms cl i l wss hs Gs→DagStepsG P N ds Fs σ w Ms (fun _ _ _=>True) [] (fun _=>False) cl i l wss hs Gs
  | _,_,_,_,_,.nil=>.nil
  | _,_,_,_,_,.cons s lc h t=>.cons (fun p hp hw S σ v w w' hi hS _ hC _ hF=>s p hp hw S σ v w w' hi hS hC hF) lc h.toG t.toG
  | _,_,_,_,_,.tail t=>.tail t.toG
theorem zFM {P:Program} {N:Nat} {Q:zFN} {σ:Env} {w:World} {id:Nat} {l:List Oper} (Ms:Nat→Nat→Prop) (hd:List Bool) (ts:List Nat) (ds:List Nat) (wss cl:List (List Nat)) (Fs:List zDE) {Gs:List zDE} (hG:Fs=Gs) (hC:zSa wss cl=true) (hm:P.follows .mixedOrders=true) (hB:zFe N hd 0 l ds wss hd=true) (hn:zGH ds=true)
  (hT:(zPG l hd ts && zMP l.toArray ts hd.toArray)=true) (hN:Nat.beq (zEU hd (List.replicate l.length false)+ts.length) l.length=true)
  (steps:∀w1,Ext w w1→DagStepsS P N ds Fs σ w1 Ms cl 0 l cl hd Gs)
  (k:∀σ' w1 w',Ext w w1→Chg (fun y=>∃j,hd.getD j false=true∧Ms j y) w1 w'→(∀t,ds.contains t=false→σ' t=σ t)→(∀j,hd[j]?=some true→zIZ ds Fs (zNr hd) j σ' w')→WpL P N l.toArray (Q .normal) Q (ts.filterMap fun k=>l[k]?) σ' w'):Wp P N (.region id l.toArray true) Q σ w:=
 zMl Ms (fun _ _ _=>True) [] (fun _=>False) hd ts ds wss cl Fs hG hC hm hB hn hT hN (fun w1 e=>(steps w1 e).toG) (fun _ _ _ _ _ h=>h.elim) k
section
variable {Ms : Nat → Nat → Prop} {i : Nat} {ws ds : List Nat}
theorem zCP.eq {u:Value}:zCP Ms i ws (fun _ _ v _=>v=u):=fun _ _ _ _ _ _ _ _ _ _ _ h=>h
theorem zCP.chg {F:Fct} {U:Nat→Prop} (hF:∀v w w',Chg U w w'→F v w→F v w') (hM:∀p y,p≠i→ws.contains p=false→Ms p y→U y):zCP Ms i ws (fun _ _=>F):=
 fun p h1 h2 _ _ v w w' _ _ x h=>hF v w w' (x.mono fun y _ hy=>hM p y h1 h2 hy) h
theorem zCP.till {F:Fct} {U:Nat→Prop} {c:Nat} (hF:∀v w w',Chg U w w'→F v w→F v w') (hM:∀p y,p≠i→ws.contains p=false→p≠c→Ms p y→U y):zCP Ms i ws (fun S _ v w=>S c=false→F v w):=
 fun p h1 h2 S _ v w w' _ _ x h hc=>by
  have hpc:p≠c:=fun e=>by subst e;rw[zEc] at hc;cases hc
  rw[zGg (Ne.symm hpc)] at hc;exact hF v w w' (x.mono fun y _ hy=>hM p y h1 h2 hpc hy) (h hc)
theorem zCr.const {G:(Nat→Bool)→Fct}:zCr ds ws (fun S _=>G S):=fun _ _ _ _ _ _ h=>h
end
theorem qZ {P:Program} {N:Nat} {ds:List Nat} {Fs:List zDE} {σ:Env} {w:World} {Ms:Nat→Nat→Prop} {cl:List (List Nat)} {i:Nat} {dst:Option Tmp} {op:Op} {ty:TypeId} {pos:String} {af:Array Edge} {ws:List Nat} {u:Value} {l:List Oper} {wss:List (List Nat)} {hs:List Bool} {Gs:List zDE}
  (h:∀(S:Nat→Bool) σ' w',S i=false→(∀j,(cl.getD j []).contains i=true→S j=false)→Chg (fun y=>∃j,S j=true∧Ms j y) w w'→(∀t,ds.contains t=false→σ' t=σ t)→(∀j d,ds[j]?=some d→S j=false→σ' d=σ d)→(∀j,ws.contains j=true→S j=true∧zIZ ds Fs S j σ' w')→zCj (Ms i) P N ⟨dst,op,ty,pos,af,none⟩ (fun v _=>Go.Eng.valOf ⟨dst,op,ty,pos,af,none⟩ v=u) σ' w')
  (t:DagStepsS P N ds Fs σ w Ms cl (i+1) l wss hs Gs):DagStepsS P N ds Fs σ w Ms cl i (⟨dst,op,ty,pos,af,none⟩::l) (ws::wss) (true::hs) ((eF u)::Gs):=
 .cons zCP.eq zCr.const (fun S s' w' a b c d e f=>.inl ⟨zAL rfl,h S s' w' a b c d e f⟩) t
section
variable {M : Nat → Prop} {P : Program} {N : Nat} {o : Oper} {R : Fct} {σ : Env} {w : World} {dst : Option Tmp} {ty : TypeId} {pos : String} {af : Array Edge} {g : Option (Nat × Bool)} {t : TypeId}
theorem zAW {v:Value} (hr:(execOp (ev σ) o).run P w=.ok (.value v) w) (h:R v w):zCj M P N o R σ w:=zAX hr (Chg.refl _ _) h
theorem zCR {R R':Fct} (h:zCj M P N o R σ w) (hr:∀v w,R v w→R' (Go.Eng.valOf o v) w):zCj M P N o (fun v w=>R' (Go.Eng.valOf o v) w) σ w:=fun dz a ha he Q K hK=>h dz a ha he Q K fun v w2 hx2 h2=>hK v w2 hx2 (hr v w2 h2)
theorem zCF {f:FuncId} {args:Array Value} (hr:(execOp (ev σ) o).run P w=.ok (.enter f args) w) (hc:Ret P f args w fun v w'=>R v w'∧Ext w w'):zCj M P N o R σ w:=
 zCt hr (hc.mono fun _ _ h=>⟨h.1,Ext.chg h.2⟩)
theorem zEE {d hs:Nat} {z:Value} {c:Array Value} (hz:Zer P t z) (hc:z.cells=c) (hh:hs≤w.heap.size):zCj M P N ⟨some d,.alloc t,ty,pos,af,g⟩ (alF t c hs) σ w:=by
 subst hc;have hn:=New.mk' w z.cells t;exact zAX (v:=.pointer (some ⟨w.heap.size,0,none⟩)) (by simp[execOp,Instr.alloc,hz.run,newVar,newRow]) (Ext.chg hn.ext) ⟨_,rfl,hn.blk,hh⟩
end
def zKj (st:Nat) (rest:List Value) (G:Fct):zDE:=fun S _ v w=>∃u,v=.tuple (u::rest).toArray∧(S st=false→G u w)
def zOt (sa n:Nat) (T:TypeId) (G:Fct):zDE:=fun _ s _ w=>∃b vs,s sa=.pointer (some ⟨b,0,none⟩)∧n≤b∧Blk w b vs T∧G (.agg vs) w
section
variable {Ms : Nat → Nat → Prop} {i : Nat} {ws ds : List Nat}
theorem zCP.tup {st:Nat} {rest:List Value} {G:Fct} {U:Nat→Prop} (hG:∀v w w',Chg U w w'→G v w→G v w') (hM:∀p y,p≠i→ws.contains p=false→p≠st→Ms p y→U y):zCP Ms i ws (zKj st rest G):=
 fun p h1 h2 S _ v w w' _ _ x h=>by
  obtain ⟨u,h3,h4⟩:=h;refine ⟨u,h3,fun hc=>?_⟩;have hpc:p≠st:=fun e=>by subst e;rw[zEc] at hc;cases hc
  rw[zGg (Ne.symm hpc)] at hc;exact hG u w w' (x.mono fun y _ hy=>hM p y h1 h2 hpc hy) (h4 hc)
theorem zCP.put {sa n:Nat} {T:TypeId} {G:Fct} (hG:∀v w w',Ext w w'→G v w→G v w') (hM:∀p y,p≠i→ws.contains p=false→Ms p y→False):zCP Ms i ws (zOt sa n T G):=
 fun p h1 h2 _ _ v w w' _ _ x h=>by
  obtain ⟨b,vs,h3,h4,h5,h6⟩:=h;have hx:Ext w w':=x.mono fun y _ hy=>(hM p y h1 h2 hy).elim;exact ⟨b,vs,h3,h4,Ext.keep hx h5,hG _ _ _ hx h6⟩
theorem zCr.put {sa n j:Nat} {T:TypeId} {G:Fct} (hj:ws.contains j=true) (hd:ds[j]?=some sa):zCr ds ws (zOt sa n T G):=
 fun _ σ1 σ2 hs v w h=>by
  obtain ⟨b,vs,h3,h4⟩:=h;exact ⟨b,vs,by rw[hs j sa hj hd];exact h3,h4⟩
end
theorem zGw {M:Nat→Prop} {P:Program} {N:Nat} {σ:Env} {w:World} {ty:TypeId} {pos:String} {af:Array Edge} {g:Option (Nat×Bool)} {T:TypeId} {x y:Operand} {b n:Nat} {u:Value} {c:Array Value} {G:Fct} (hx:ev σ x=.pointer (some ⟨b,0,none⟩)) (hy:ev σ y=u) (hG:G u w) (hB:Blk w b c T) (hc:c.size=n) (hs:Siz P T n)
  (form:∀u w,G u w→∃vs:Array Value,u=.agg vs∧vs.size=n∧∀v∈vs.toList,v.oneCell'=true) (keep:∀u w w',Blk w b c T→Chg (fun y=>y=b) w w'→G u w→G u w') (hM:M b) :
  zCj M P N ⟨none,.store T x y,ty,pos,af,g⟩ (fun _ w'=>∃vs,Blk w' b vs T∧G (.agg vs) w') σ w:=by
 obtain ⟨vs,rfl,h1,h2⟩:=form u w hG;refine zCn hx hy h2 hs h1 hB qO hM fun w' h=>⟨vs,?_,keep _ _ _ hB h.chg hG⟩;have h3:=h.blk;rw[List.take_zero,List.nil_append,Nat.zero_add,List.drop_of_length_le (by simp;omega),List.append_nil] at h3;simpa using h3
end Go.Eng
namespace Go.Proofs
open Go Go.Eng Go.Sort
set_option maxRecDepth 100000
--BEGIN
def onP (both:Bool) (x y:Int):Bool:=bif both then decide (0≤x) && decide (0≤y) else decide (0≤x) || decide (0≤y)
def zGX (both:Bool) (a b:Dfa) (k:Int×Int) (x:Nat):Option (Int×Int):=bif onP both (toD a k.1 x) (toD b k.2 x) then some (toD a k.1 x,toD b k.2 x) else none
def jnP (both:Bool) (x y:Int):Int:=if (both && decide (y<0))=true then -1 else if (both || decide (0≤x))=true then x else y
def zJZ (both:Bool) (a b:Dfa) (k:Int×Int):Int:=jnP both (atD a k.1) (atD b k.2)
theorem zRy {both:Bool} {x y:Int} (h:onP both x y=false) (a b:Dfa) (w:List Nat):jnP both (beh a x w) (beh b y w) = -1:=by
  unfold onP at h;cases both with
  | true=>
    simp only[cond_true,Bool.and_eq_false_iff,decide_eq_false_iff_not] at h;unfold jnP;by_cases hy:beh b y w<0
    · simp[hy]
    · simp only[Bool.true_and,decide_eq_true_eq,hy,if_false,Bool.true_or,if_true];rcases h with h|h
      · exact zDi qO
      · rw[zDi (show y<0 by omega)] at hy;exact absurd qD hy
  | false=>
    simp only[cond_false,Bool.or_eq_false_iff,decide_eq_false_iff_not] at h;rw[zDi (show x<0 by omega),zDi (show y<0 by omega)];rfl
theorem zJV (both:Bool) (a b:Dfa):∀(w:List Nat) (k:Int×Int),zRA (zGX both a b) (zJZ both a b) k w=jnP both (beh a k.1 w) (beh b k.2 w)
  | [],k=>rfl
  | x::w,k=>by
    simp only[zRA,zHP,beh];cases hs:onP both (toD a k.1 x) (toD b k.2 x) with
    | true=>
      simp only[zGX,hs,cond_true,Option.bind_some];exact zJV both a b w (toD a k.1 x,toD b k.2 x)
    | false=>
      simp only[zGX,hs,cond_false,Option.bind_none];exact (zRy hs a b w).symm
theorem zKn {both:Bool} {a b:Dfa} {n m c:Nat} (ha:OkD n c a) (hb:OkD m c b):∀(w:List Nat) (k q:Int×Int),(-1≤k.1∧k.1<n)∧(-1≤k.2∧k.2<m)→zHP (zGX both a b) k w=some q→(-1≤q.1∧q.1<n)∧(-1≤q.2∧q.2<m)
  | [],k,q,h,hr=>by simp only[zHP,Option.some.injEq] at hr;subst hr;exact h
  | x::w,k,q,h,hr=>by
    simp only[zHP] at hr;cases hs:zGX both a b k x with
    | none=>rw[hs] at hr;cases hr
    | some p=>
      rw[hs] at hr;simp only[Option.bind_some] at hr;refine zKn ha hb w p q ?_ hr;unfold zGX at hs;cases ho:onP both (toD a k.1 x) (toD b k.2 x) with
      | true=>rw[ho] at hs;simp only[cond_true,Option.some.injEq] at hs;subst hs;exact ⟨ha.to,hb.to⟩
      | false=>rw[ho] at hs;cases hs
theorem zGC {both:Bool} {a b:Dfa} {n m c:Nat} (ha:OkD n c a) (hb:OkD m c b) {k:Int×Int} (h:Rch c (zGX both a b) (a.start,b.start) k):(-1≤k.1∧k.1<n)∧(-1≤k.2∧k.2<m):=by
 obtain ⟨w,_,h2⟩:=h;have h3:=ha.st;have h4:=hb.st;exact zKn ha hb w _ _ ⟨⟨by show -1≤a.start;omega,h3.2⟩,⟨by show -1≤b.start;omega,h4.2⟩⟩ h2
theorem zSt {both:Bool} {a b:Dfa} {n m c:Nat} (ha:OkD n c a) (hb:OkD m c b) (h1:∀x∈a.accept,x<2147483648) (h2:∀x∈b.accept,x<2147483648) (k:Int×Int) : -1≤zJZ both a b k∧zJZ both a b k<2147483648:=by
  have aa:∀{d:Dfa} (s:Int),(∀x∈d.accept,x<2147483648)→atD d s<2147483648:=fun {d} s h=>by
    unfold atD;split
    · decide
    · rw[List.getD_eq_getElem?_getD];cases hx:d.accept[s.toNat]? with
      | none=>decide
      | some x=>exact h x (List.mem_of_getElem? hx)
  have a1:=ha.at' (s:=k.1);have b1:=hb.at' (s:=k.2);have a2:=aa k.1 h1;have b2:=aa k.2 h2;unfold zJZ jnP;split
  · omega
  · split<;>omega
--END
theorem zRf (w0 : World) (n m c : Nat) (a b : Dfa) (av bv : List Value) (both : Bool) (ba bb bf : Nat) (k : Int × Int) (x : Nat) (oka : OkD n c a) (okb : OkD m c b) (ha : zBk w0 a av) (hb : zBk w0 b bv) (hBa : Blk w0 ba av.toArray 34) (hBb : Blk w0 bb bv.toArray 34) (hBf : Blk w0 bf #[.bool both] 4) (hk : k.1 < n ∧ k.2 < m) (hx : x < c) :
  Ret prog 130 #[.agg #[.int .i64 k.1, .int .i64 k.2], .int .i64 ((x : Nat) : Int), .pointer (some ⟨ba, 0, none⟩), .pointer (some ⟨bb, 0, none⟩), .pointer (some ⟨bf, 0, none⟩)] w0 fun r w => r = .tuple #[.agg #[.int .i64 (toD a k.1 x), .int .i64 (toD b k.2 x)], .bool (onP both (toD a k.1 x) (toD b k.2 x))] ∧ Ext w0 w := by
 have ha' := ha
 have hb' := hb
 obtain ⟨aa, ac, na, nc, rfl, _, _⟩ := ha'
 obtain ⟨aa2, ac2, na2, nc2, rfl, _, _⟩ := hb'
 refine zDc func130 rfl ntmps130 (Nat.le_of_ble_eq_true rfl) ?_
 have E : Chg zAh w0 w0 := Chg.refl _ _
 refine zAA ?_
 refine zBQ (v := (.agg #[(I6 k.1), (I6 k.2)])) (c := #[(I6 k.1), (I6 k.2)]) (by decide) rfl rfl ?_
 intro bq wq Nq
 have Fq := Nq.ge E
 have Oq_ba := Nq.lt hBa
 have Oq_bb := Nq.lt hBb
 have Oq_bf := Nq.lt hBf
 replace hBa := Nq.keep hBa
 replace hBb := Nq.keep hBb
 replace hBf := Nq.keep hBf
 replace E := E.ext Nq.ext
 have Bq := Nq.blk
 refine zBH (c := #[(I6 0), (I6 0)]) (by decide) zIs rfl ?_
 intro br wr Nr
 have Fr := Nr.ge E
 have Or_ba := Nr.lt hBa
 have Or_bb := Nr.lt hBb
 have Or_bf := Nr.lt hBf
 have Or_bq := Nr.lt Bq
 replace hBa := Nr.keep hBa
 replace hBb := Nr.keep hBb
 replace hBf := Nr.keep hBf
 replace Bq := Nr.keep Bq
 replace E := E.ext Nr.ext
 have Br := Nr.blk
 refine qA _ rfl ?_
 refine zAB ?_
 have hz_1 : w0.heap.size ≤ wr.heap.size := E.size
 have lz_1_ba : ba < wr.heap.size := hBa.lt
 have lz_1_bb : bb < wr.heap.size := hBb.lt
 have lz_1_bf : bf < wr.heap.size := hBf.lt
 have lz_1_bq : bq < wr.heap.size := Bq.lt
 have lz_1_br : br < wr.heap.size := Br.lt
 refine zAH ?_
 obtain ⟨Fs1, hFs1⟩ : ∃ Fs : List zDE, Fs = [(eF (.agg #[(I6 a.start), (.slice aa a.accept.length ac), (.slice na a.next.length nc)])), (eF (P6 bq 0)), (eF (I6 k.1)), (eF (I6 (x : Int))), (eF (I6 (toD a k.1 x))), (eF (.agg #[(I6 b.start), (.slice aa2 b.accept.length ac2), (.slice na2 b.next.length nc2)])), (eF (P6 bq 1)), (eF (I6 k.2)), (eF (I6 (x : Int))), (eF (I6 (toD b k.2 x))), (eF (.agg #[(I6 (toD a k.1 x)), (I6 (toD b k.2 x))])), (fun _ _ => alF 163 #[(I6 0), (I6 0)] wr.heap.size), (eF undef)] := ⟨_, rfl⟩
 refine zFM (MsL []) [true, true, true, true, true, true, true, true, true, true, true, true, false] [12] [10, 11, 12, 13, 14, 15, 16, 17, 18, 19, 20, 9, 52] [[], [], [1], [], [0, 2, 3], [], [], [6], [], [4, 5, 7, 8], [4, 9], [], []] [[], [], [1], [], [0, 2, 1, 3], [], [], [6], [], [4, 0, 2, 1, 3, 5, 7, 6, 8], [4, 0, 2, 1, 3, 9, 5, 7, 6, 8], [], []] Fs1 hFs1 (by kernel_rfl) mixed (by kernel_rfl) (by kernel_rfl) (by kernel_rfl) (by kernel_rfl) ?_ ?_
 ·intro wd X0
  refine qZ (fun S s' w' hi hN X U V H => ?_) ?_
  ·replace X := xN0 X
   exact zAW (zAK (U 2 rfl) zAx zAe rfl (((X0.trans X).keep hBa).cells rfl)) rfl
  refine qZ (fun S s' w' hi hN X U V H => ?_) ?_
  ·replace X := xN0 X
   exact zAW (zCB (i := 0) (U 5 rfl) rfl rfl underlying163 zAy (by omega) (by omega)) rfl
  refine qZ (fun S s' w' hi hN X U V H => ?_) ?_
  ·replace X := xN0 X
   have e11 := (H 1 rfl).2 11 _ rfl (by rw [hFs1]; rfl)
   exact zAW (zAI e11 zAo (((X0.trans X).keep Bq).cell rfl)) rfl
  refine qZ (fun S s' w' hi hN X U V H => ?_) ?_
  ·replace X := xN0 X
   exact zAW (zAl (U 1 rfl)) rfl
  refine qZ (fun S s' w' hi hN X U V H => ?_) ?_
  ·replace X := xN0 X
   have e10 := (H 0 rfl).2 10 _ rfl (by rw [hFs1]; rfl)
   have e12 := (H 2 rfl).2 12 _ rfl (by rw [hFs1]; rfl)
   have e13 := (H 3 rfl).2 13 _ rfl (by rw [hFs1]; rfl)
   exact zCF (zAQ func131 kQ kQ (zVK e10 e12 e13)) ((zQi _ n c a _ k.1 (x : Int) oka (ha.ext (Ext.trans E (X0.trans X))) hk.1 (by omega)).mono (fun v w h => h))
  refine qZ (fun S s' w' hi hN X U V H => ?_) ?_
  ·replace X := xN0 X
   exact zAW (zAK (U 3 rfl) zAx zAe rfl (((X0.trans X).keep hBb).cells rfl)) rfl
  refine qZ (fun S s' w' hi hN X U V H => ?_) ?_
  ·replace X := xN0 X
   exact zAW (zCB (i := 1) (U 5 rfl) rfl rfl underlying163 zAy (by omega) (by omega)) rfl
  refine qZ (fun S s' w' hi hN X U V H => ?_) ?_
  ·replace X := xN0 X
   have e16 := (H 6 rfl).2 16 _ rfl (by rw [hFs1]; rfl)
   exact zAW (zAI e16 zAo (((X0.trans X).keep Bq).cell rfl)) rfl
  refine qZ (fun S s' w' hi hN X U V H => ?_) ?_
  ·replace X := xN0 X
   exact zAW (zAl (U 1 rfl)) rfl
  refine qZ (fun S s' w' hi hN X U V H => ?_) ?_
  ·replace X := xN0 X
   have e15 := (H 5 rfl).2 15 _ rfl (by rw [hFs1]; rfl)
   have e17 := (H 7 rfl).2 17 _ rfl (by rw [hFs1]; rfl)
   have e18 := (H 8 rfl).2 18 _ rfl (by rw [hFs1]; rfl)
   exact zCF (zAQ func131 kQ kQ (zVK e15 e17 e18)) ((zQi _ m c b _ k.2 (x : Int) okb (hb.ext (Ext.trans E (X0.trans X))) hk.2 (by omega)).mono (fun v w h => h))
  refine qZ (fun S s' w' hi hN X U V H => ?_) ?_
  ·replace X := xN0 X
   have e14 := (H 4 rfl).2 14 _ rfl (by rw [hFs1]; rfl)
   have e19 := (H 9 rfl).2 19 _ rfl (by rw [hFs1]; rfl)
   exact zAW (zBA (ps := [(0, (I6 (toD a k.1 x))), (1, (I6 (toD b k.2 x)))]) (v := (.agg #[(I6 (toD a k.1 x)), (I6 (toD b k.2 x))])) (zXj e14 e19) (by kernel_rfl)) rfl
  refine DagStepsS.cons (zCP.chg (U := zAh) (fun v w w' x h => zIS _ _ _ v w w' x h) (fun p y hp hw h => by
     exact h.elim)) (zCr.const) (fun S s' w' hi hN X U V H => Or.inl ⟨zAL rfl, ?_⟩) ?_
  ·replace X := xN0 X
   exact zEE (c := #[(I6 0), (I6 0)]) zIs rfl (by have := X0.size; have := X.size; omega)
  refine DagStepsS.tail ?_
  exact DagStepsS.nil
 ·intro s' wd1 w1 X0 X1 U H
  replace X1 := X1.mono (M' := zAh) (fun y _ h => by
    obtain ⟨j, hj, h⟩ := h
    exact h.elim)
  have e20 := H 10 rfl 20 _ rfl (by rw [hFs1]; rfl)
  obtain ⟨b9, e9, B9, g9⟩ := (show ((fun _ _ => alF 163 #[(.int .i64 0), (.int .i64 0)] wr.heap.size) : zDE) (zNr [true, true, true, true, true, true, true, true, true, true, true, true, false]) s' (s' 9) w1 from H 11 rfl 9 (fun _ _ => alF 163 #[(.int .i64 0), (.int .i64 0)] wr.heap.size) rfl (by rw [hFs1]; rfl))
  obtain ⟨j1, rfl⟩ := zAz.out (σ := s') (l := [(4, (.pointer (some ⟨bf, 0, none⟩))), (7, (.pointer (some ⟨br, 0, none⟩))), (20, (.agg #[(.int .i64 (toD a k.1 x)), (.int .i64 (toD b k.2 x))])), (9, (.pointer (some ⟨b9, 0, none⟩)))]) ⟨U 4 rfl, U 7 rfl, e20, e9, trivial⟩
  clear U H
  replace hBa := (X0.trans X1).keep hBa
  replace hBb := (X0.trans X1).keep hBb
  replace hBf := (X0.trans X1).keep hBf
  replace Bq := (X0.trans X1).keep Bq
  replace Br := (X0.trans X1).keep Br
  replace X1 := X0.trans X1
  replace E := E.ext X1
  refine zAb (b := b9) (o := 0) (c' := #[(I6 (toD a k.1 x)), (I6 (toD b k.2 x))]) rfl rfl (by simp [Value.oneCell']) zCL rfl B9 (by first | (simp; done) | exact Nat.le_of_ble_eq_true rfl) rfl ?_
  intro w2 S2
  replace hBa := S2.keep (by omega) hBa
  replace hBb := S2.keep (by omega) hBb
  replace hBf := S2.keep (by omega) hBf
  replace Bq := S2.keep (by omega) Bq
  replace Br := S2.keep (by omega) Br
  replace E := S2.step E (by first | exact Or.inl (by omega) | exact Or.inr rfl | exact Or.inr (by assumption) | exact Or.inr (by simp) | exact Or.inr (by omega) | exact Or.inr (by dsimp only; omega))
  replace B9 := S2.blk
  refine zAB (zAC ?_)
  rcases Bool.eq_false_or_eq_true (both) with hbo | hbo
  ·have khbo := hbo
   rcases Bool.eq_false_or_eq_true (decide ((0 : Int) ≤ toD a k.1 x)) with hp1 | hp1
   ·have khp1 := hp1
    replace khp1 := of_decide_eq_true khp1
    refine zAH (zAA ?_)
    refine qV (zAI rfl zKE (hBf.cell rfl)) ?_
    refine zAB ?_
    refine zAk (congrArg Value.bool hbo) ?_
    have hz_3 : w0.heap.size ≤ w2.heap.size := E.size
    have lz_3_ba : ba < w2.heap.size := hBa.lt
    have lz_3_bb : bb < w2.heap.size := hBb.lt
    have lz_3_bf : bf < w2.heap.size := hBf.lt
    have lz_3_bq : bq < w2.heap.size := Bq.lt
    have lz_3_br : br < w2.heap.size := Br.lt
    have lz_3_b9 : b9 < w2.heap.size := B9.lt
    refine zAH ?_
    obtain ⟨Fs3, hFs3⟩ : ∃ Fs : List zDE, Fs = [(eF (.agg #[(I6 (toD a k.1 x)), (I6 (toD b k.2 x))])), (eF (P6 b9 0)), (eF (I6 (toD a k.1 x))), (eF (.bool true)), (eF (.bool true)), (eF (P6 b9 1)), (eF (I6 (toD b k.2 x))), (eF (.bool (decide ((0 : Int) ≤ toD b k.2 x)))), (eF (.bool (decide ((0 : Int) ≤ toD b k.2 x)))), (fun _ _ => (fun _ w => Blk w br #[(I6 (toD a k.1 x)), (I6 (toD b k.2 x))] 163)), (eF undef)] := ⟨_, rfl⟩
    refine zFM (MsL [(9, (fun y => y = br))]) [true, true, true, true, true, true, true, true, true, true, false] [10] [22, 23, 24, 25, 26, 27, 28, 29, 30, 49, 50] [[], [], [1], [2], [3], [4], [4, 5], [4, 6], [4, 7], [0, 4], []] [[], [], [1], [2, 1], [3, 2, 1], [4, 3, 2, 1], [4, 3, 2, 1, 5], [4, 3, 2, 1, 6, 5], [4, 3, 2, 1, 7, 6, 5], [0, 4, 3, 2, 1], []] Fs3 hFs3 (by kernel_rfl) mixed (by kernel_rfl) (by kernel_rfl) (by kernel_rfl) (by kernel_rfl) ?_ ?_
    ·intro wd X0
     refine qZ (fun S s' w' hi hN X U V H => ?_) ?_
     ·replace X := xN1 (hN 9 rfl) X
      exact zAW (zAK (U 9 rfl) zED zCL rfl (((X0.trans X).keep B9).cells rfl)) rfl
     refine qZ (fun S s' w' hi hN X U V H => ?_) ?_
     ·replace X := xN1 (hN 9 rfl) X
      exact zAW (zCB (i := 0) (U 9 rfl) rfl rfl underlying163 zAy (by omega) (by omega)) rfl
     refine qZ (fun S s' w' hi hN X U V H => ?_) ?_
     ·replace X := xN1 (hN 9 rfl) X
      have e23 := (H 1 rfl).2 23 _ rfl (by rw [hFs3]; rfl)
      exact zAW (zAI e23 zAo (((X0.trans X).keep B9).cell rfl)) rfl
     refine qZ (fun S s' w' hi hN X U V H => ?_) ?_
     ·replace X := xN1 (hN 9 rfl) X
      have e24 := (H 2 rfl).2 24 _ rfl (by rw [hFs3]; rfl)
      exact zAW (Eq.trans (zDK e24 rfl) (by rw [hp1])) rfl
     refine qZ (fun S s' w' hi hN X U V H => ?_) ?_
     ·replace X := xN1 (hN 9 rfl) X
      have e25 := (H 3 rfl).2 25 _ rfl (by rw [hFs3]; rfl)
      exact zAW (zAl e25) rfl
     refine DagStepsS.cons (zCP.eq) (zCr.const) (fun S s' w' hi hN X U V H => Or.inl ⟨zCw rfl rfl (d := 26) ((H 4 rfl).2 26 (eF (.bool true)) rfl (by rw [hFs3]; rfl)), ?_⟩) ?_
     ·replace X := xM1 X
      exact zAW (zCB (i := 1) (U 9 rfl) rfl rfl underlying163 zAy (by omega) (by omega)) rfl
     refine DagStepsS.cons (zCP.eq) (zCr.const) (fun S s' w' hi hN X U V H => Or.inl ⟨zCw rfl rfl (d := 26) ((H 4 rfl).2 26 (eF (.bool true)) rfl (by rw [hFs3]; rfl)), ?_⟩) ?_
     ·replace X := xM1 X
      have e27 := (H 5 rfl).2 27 _ rfl (by rw [hFs3]; rfl)
      exact zAW (zAI e27 zAo ((Chg.keep X kH (X0.keep B9)).cell rfl)) rfl
     refine DagStepsS.cons (zCP.eq) (zCr.const) (fun S s' w' hi hN X U V H => Or.inl ⟨zCw rfl rfl (d := 26) ((H 4 rfl).2 26 (eF (.bool true)) rfl (by rw [hFs3]; rfl)), ?_⟩) ?_
     ·replace X := xM1 X
      have e28 := (H 6 rfl).2 28 _ rfl (by rw [hFs3]; rfl)
      exact zAW (zDK e28 rfl) rfl
     refine qZ (fun S s' w' hi hN X U V H => ?_) ?_
     ·replace X := xM1 X
      have e26 := (H 4 rfl).2 26 _ rfl (by rw [hFs3]; rfl)
      have e29 := (H 7 rfl).2 29 _ rfl (by rw [hFs3]; rfl)
      exact zAW (zAr e26 e29) rfl
     refine DagStepsS.cons (zCP.chg (U := zAh) (fun v w w' x h => Chg.keep x (fun h => h) h) (fun p y hp hw h => by
        rcases zBg h with ⟨rfl, h0⟩ | h0
        ·exact absurd rfl hp
        exact h0.elim)) (zCr.const) (fun S s' w' hi hN X U V H => Or.inl ⟨zAL rfl, ?_⟩) ?_
     ·replace X := xN1 hi X
      have e22 := (H 0 rfl).2 22 _ rfl (by rw [hFs3]; rfl)
      exact zCn (b := br) (o := 0) (n := 2) (U 7 rfl) e22 (by simp [Value.oneCell']) zCL rfl ((X0.trans X).keep Br) (by simp) (by first | exact .inl ⟨rfl, rfl⟩ | exact .inr (.inl ⟨rfl, rfl⟩) | exact .inr (.inr (.inl ⟨rfl, rfl⟩))) (fun w9 h => by have h2 := h.blk; simpa using h2)
     refine DagStepsS.tail ?_
     exact DagStepsS.nil
    ·intro s' wd3 w3 X0 X3 U H
     replace X3 := X3.mono (M' := (fun y => (fun y => y = br) y)) (fun y _ h => by
       obtain ⟨j, hj, h⟩ := h
       rcases zBg h with ⟨rfl, h0⟩ | h0
       ·exact h0
       exact h0.elim)
     have e30 := H 8 rfl 30 _ rfl (by rw [hFs3]; rfl)
     obtain B49 := (show ((fun _ _ => (fun _ w => Blk w br #[(.int .i64 (toD a k.1 x)), (.int .i64 (toD b k.2 x))] 163)) : zDE) (zNr [true, true, true, true, true, true, true, true, true, true, false]) s' (s' 49) w3 from H 9 rfl 49 (fun _ _ => (fun _ w => Blk w br #[(.int .i64 (toD a k.1 x)), (.int .i64 (toD b k.2 x))] 163)) rfl (by rw [hFs3]; rfl))
     obtain ⟨j3, rfl⟩ := zAz.out (σ := s') (l := [(7, (.pointer (some ⟨br, 0, none⟩))), (30, (.bool (decide ((0 : Int) ≤ toD b k.2 x))))]) ⟨U 7 rfl, e30, trivial⟩
     clear U H
     replace Br := B49
     replace hBa := Chg.keep X3 kH (X0.keep hBa)
     replace hBb := Chg.keep X3 kH (X0.keep hBb)
     replace hBf := Chg.keep X3 kH (X0.keep hBf)
     replace Bq := Chg.keep X3 kH (X0.keep Bq)
     replace B9 := Chg.keep X3 kH (X0.keep B9)
     replace E := (E.ext X0).step X3 (fun y hy h => by first | omega | (dsimp only at h; omega))
     refine qA _ rfl ?_
     refine zAB (zAC (zAV (zAU ?_)))
     refine zAu results130 (vs := [(.int .i64 (toD a k.1 x)), (.int .i64 (toD b k.2 x))]) (b := br) (v' := (.bool (decide ((0 : Int) ≤ toD b k.2 x)))) rfl zED zCL rfl (Br.cells rfl) rfl ?_
     exact ⟨by unfold onP; rw [hbo]; simp [khp1], E⟩
   ·have khp1 := hp1
    replace khp1 := of_decide_eq_false khp1
    refine zAH (zAA ?_)
    refine qV (zAI rfl zKE (hBf.cell rfl)) ?_
    refine zAB ?_
    refine zAk (congrArg Value.bool hbo) ?_
    have hz_4 : w0.heap.size ≤ w2.heap.size := E.size
    have lz_4_ba : ba < w2.heap.size := hBa.lt
    have lz_4_bb : bb < w2.heap.size := hBb.lt
    have lz_4_bf : bf < w2.heap.size := hBf.lt
    have lz_4_bq : bq < w2.heap.size := Bq.lt
    have lz_4_br : br < w2.heap.size := Br.lt
    have lz_4_b9 : b9 < w2.heap.size := B9.lt
    refine zAH ?_
    obtain ⟨Fs4, hFs4⟩ : ∃ Fs : List zDE, Fs = [(eF (.agg #[(I6 (toD a k.1 x)), (I6 (toD b k.2 x))])), (eF (P6 b9 0)), (eF (I6 (toD a k.1 x))), (eF (.bool false)), (eF (.bool false)), (eF undef), (eF undef), (eF undef), (eF (.bool false)), (fun _ _ => (fun _ w => Blk w br #[(I6 (toD a k.1 x)), (I6 (toD b k.2 x))] 163)), (eF undef)] := ⟨_, rfl⟩
    refine zFM (MsL [(9, (fun y => y = br))]) [true, true, true, true, true, true, true, true, true, true, false] [10] [22, 23, 24, 25, 26, 27, 28, 29, 30, 49, 50] [[], [], [1], [2], [3], [4], [4, 5], [4, 6], [4, 7], [0, 4], []] [[], [], [1], [2, 1], [3, 2, 1], [4, 3, 2, 1], [4, 3, 2, 1, 5], [4, 3, 2, 1, 6, 5], [4, 3, 2, 1, 7, 6, 5], [0, 4, 3, 2, 1], []] Fs4 hFs4 (by kernel_rfl) mixed (by kernel_rfl) (by kernel_rfl) (by kernel_rfl) (by kernel_rfl) ?_ ?_
    ·intro wd X0
     refine qZ (fun S s' w' hi hN X U V H => ?_) ?_
     ·replace X := xN1 (hN 9 rfl) X
      exact zAW (zAK (U 9 rfl) zED zCL rfl (((X0.trans X).keep B9).cells rfl)) rfl
     refine qZ (fun S s' w' hi hN X U V H => ?_) ?_
     ·replace X := xN1 (hN 9 rfl) X
      exact zAW (zCB (i := 0) (U 9 rfl) rfl rfl underlying163 zAy (by omega) (by omega)) rfl
     refine qZ (fun S s' w' hi hN X U V H => ?_) ?_
     ·replace X := xN1 (hN 9 rfl) X
      have e23 := (H 1 rfl).2 23 _ rfl (by rw [hFs4]; rfl)
      exact zAW (zAI e23 zAo (((X0.trans X).keep B9).cell rfl)) rfl
     refine qZ (fun S s' w' hi hN X U V H => ?_) ?_
     ·replace X := xN1 (hN 9 rfl) X
      have e24 := (H 2 rfl).2 24 _ rfl (by rw [hFs4]; rfl)
      exact zAW (Eq.trans (zDK e24 rfl) (by rw [hp1])) rfl
     refine qZ (fun S s' w' hi hN X U V H => ?_) ?_
     ·replace X := xN1 (hN 9 rfl) X
      have e25 := (H 3 rfl).2 25 _ rfl (by rw [hFs4]; rfl)
      exact zAW (zAl e25) rfl
     refine DagStepsS.cons (zCP.eq) (zCr.const) (fun S s' w' hi hN X U V H => Or.inr ⟨zFb rfl rfl (d := 26) (Or.inl ((H 4 rfl).2 26 (eF (.bool false)) rfl (by rw [hFs4]; rfl))), ?_⟩) ?_
     ·exact rfl
     refine DagStepsS.cons (zCP.eq) (zCr.const) (fun S s' w' hi hN X U V H => Or.inr ⟨zFb rfl rfl (d := 26) (Or.inl ((H 4 rfl).2 26 (eF (.bool false)) rfl (by rw [hFs4]; rfl))), ?_⟩) ?_
     ·exact rfl
     refine DagStepsS.cons (zCP.eq) (zCr.const) (fun S s' w' hi hN X U V H => Or.inr ⟨zFb rfl rfl (d := 26) (Or.inl ((H 4 rfl).2 26 (eF (.bool false)) rfl (by rw [hFs4]; rfl))), ?_⟩) ?_
     ·exact rfl
     refine qZ (fun S s' w' hi hN X U V H => ?_) ?_
     ·replace X := xM1 X
      have e26 := (H 4 rfl).2 26 _ rfl (by rw [hFs4]; rfl)
      exact zAW (zAr e26 rfl) rfl
     refine DagStepsS.cons (zCP.chg (U := zAh) (fun v w w' x h => Chg.keep x (fun h => h) h) (fun p y hp hw h => by
        rcases zBg h with ⟨rfl, h0⟩ | h0
        ·exact absurd rfl hp
        exact h0.elim)) (zCr.const) (fun S s' w' hi hN X U V H => Or.inl ⟨zAL rfl, ?_⟩) ?_
     ·replace X := xN1 hi X
      have e22 := (H 0 rfl).2 22 _ rfl (by rw [hFs4]; rfl)
      exact zCn (b := br) (o := 0) (n := 2) (U 7 rfl) e22 (by simp [Value.oneCell']) zCL rfl ((X0.trans X).keep Br) (by simp) (by first | exact .inl ⟨rfl, rfl⟩ | exact .inr (.inl ⟨rfl, rfl⟩) | exact .inr (.inr (.inl ⟨rfl, rfl⟩))) (fun w9 h => by have h2 := h.blk; simpa using h2)
     refine DagStepsS.tail ?_
     exact DagStepsS.nil
    ·intro s' wd4 w4 X0 X4 U H
     replace X4 := X4.mono (M' := (fun y => (fun y => y = br) y)) (fun y _ h => by
       obtain ⟨j, hj, h⟩ := h
       rcases zBg h with ⟨rfl, h0⟩ | h0
       ·exact h0
       exact h0.elim)
     have e30 := H 8 rfl 30 _ rfl (by rw [hFs4]; rfl)
     obtain B49 := (show ((fun _ _ => (fun _ w => Blk w br #[(.int .i64 (toD a k.1 x)), (.int .i64 (toD b k.2 x))] 163)) : zDE) (zNr [true, true, true, true, true, true, true, true, true, true, false]) s' (s' 49) w4 from H 9 rfl 49 (fun _ _ => (fun _ w => Blk w br #[(.int .i64 (toD a k.1 x)), (.int .i64 (toD b k.2 x))] 163)) rfl (by rw [hFs4]; rfl))
     obtain ⟨j4, rfl⟩ := zAz.out (σ := s') (l := [(7, (.pointer (some ⟨br, 0, none⟩))), (30, (.bool false))]) ⟨U 7 rfl, e30, trivial⟩
     clear U H
     replace Br := B49
     replace hBa := Chg.keep X4 kH (X0.keep hBa)
     replace hBb := Chg.keep X4 kH (X0.keep hBb)
     replace hBf := Chg.keep X4 kH (X0.keep hBf)
     replace Bq := Chg.keep X4 kH (X0.keep Bq)
     replace B9 := Chg.keep X4 kH (X0.keep B9)
     replace E := (E.ext X0).step X4 (fun y hy h => by first | omega | (dsimp only at h; omega))
     refine qA _ rfl ?_
     refine zAB (zAC (zAV (zAU ?_)))
     refine zAu results130 (vs := [(.int .i64 (toD a k.1 x)), (.int .i64 (toD b k.2 x))]) (b := br) (v' := (.bool false)) rfl zED zCL rfl (Br.cells rfl) rfl ?_
     exact ⟨by unfold onP; rw [hbo]; simp [show ¬ (0 : Int) ≤ toD a k.1 x by omega], E⟩
  ·have khbo := hbo
   rcases Bool.eq_false_or_eq_true (decide ((0 : Int) ≤ toD a k.1 x)) with hp1 | hp1
   ·have khp1 := hp1
    replace khp1 := of_decide_eq_true khp1
    refine zAH (zAA ?_)
    refine qV (zAI rfl zKE (hBf.cell rfl)) ?_
    refine zAB ?_
    refine zAP (congrArg Value.bool hbo) ?_
    refine zAO (zAC ?_)
    have hz_5 : w0.heap.size ≤ w2.heap.size := E.size
    have lz_5_ba : ba < w2.heap.size := hBa.lt
    have lz_5_bb : bb < w2.heap.size := hBb.lt
    have lz_5_bf : bf < w2.heap.size := hBf.lt
    have lz_5_bq : bq < w2.heap.size := Bq.lt
    have lz_5_br : br < w2.heap.size := Br.lt
    have lz_5_b9 : b9 < w2.heap.size := B9.lt
    refine zAH ?_
    obtain ⟨Fs5, hFs5⟩ : ∃ Fs : List zDE, Fs = [(eF (.agg #[(I6 (toD a k.1 x)), (I6 (toD b k.2 x))])), (eF (P6 b9 0)), (eF (I6 (toD a k.1 x))), (eF (.bool true)), (eF (.bool true)), (eF undef), (eF undef), (eF undef), (eF (.bool true)), (fun _ _ => (fun _ w => Blk w br #[(I6 (toD a k.1 x)), (I6 (toD b k.2 x))] 163)), (eF undef)] := ⟨_, rfl⟩
    refine zFM (MsL [(9, (fun y => y = br))]) [true, true, true, true, true, true, true, true, true, true, false] [10] [31, 32, 33, 34, 35, 36, 37, 38, 39, 49, 50] [[], [], [1], [2], [3], [4], [4, 5], [4, 6], [4, 7], [0, 4], []] [[], [], [1], [2, 1], [3, 2, 1], [4, 3, 2, 1], [4, 3, 2, 1, 5], [4, 3, 2, 1, 6, 5], [4, 3, 2, 1, 7, 6, 5], [0, 4, 3, 2, 1], []] Fs5 hFs5 (by kernel_rfl) mixed (by kernel_rfl) (by kernel_rfl) (by kernel_rfl) (by kernel_rfl) ?_ ?_
    ·intro wd X0
     refine qZ (fun S s' w' hi hN X U V H => ?_) ?_
     ·replace X := xN1 (hN 9 rfl) X
      exact zAW (zAK (U 9 rfl) zED zCL rfl (((X0.trans X).keep B9).cells rfl)) rfl
     refine qZ (fun S s' w' hi hN X U V H => ?_) ?_
     ·replace X := xN1 (hN 9 rfl) X
      exact zAW (zCB (i := 0) (U 9 rfl) rfl rfl underlying163 zAy (by omega) (by omega)) rfl
     refine qZ (fun S s' w' hi hN X U V H => ?_) ?_
     ·replace X := xN1 (hN 9 rfl) X
      have e32 := (H 1 rfl).2 32 _ rfl (by rw [hFs5]; rfl)
      exact zAW (zAI e32 zAo (((X0.trans X).keep B9).cell rfl)) rfl
     refine qZ (fun S s' w' hi hN X U V H => ?_) ?_
     ·replace X := xN1 (hN 9 rfl) X
      have e33 := (H 2 rfl).2 33 _ rfl (by rw [hFs5]; rfl)
      exact zAW (Eq.trans (zDK e33 rfl) (by rw [hp1])) rfl
     refine qZ (fun S s' w' hi hN X U V H => ?_) ?_
     ·replace X := xN1 (hN 9 rfl) X
      have e34 := (H 3 rfl).2 34 _ rfl (by rw [hFs5]; rfl)
      exact zAW (zAl e34) rfl
     refine DagStepsS.cons (zCP.eq) (zCr.const) (fun S s' w' hi hN X U V H => Or.inr ⟨zFb rfl rfl (d := 35) (Or.inl ((H 4 rfl).2 35 (eF (.bool true)) rfl (by rw [hFs5]; rfl))), ?_⟩) ?_
     ·exact rfl
     refine DagStepsS.cons (zCP.eq) (zCr.const) (fun S s' w' hi hN X U V H => Or.inr ⟨zFb rfl rfl (d := 35) (Or.inl ((H 4 rfl).2 35 (eF (.bool true)) rfl (by rw [hFs5]; rfl))), ?_⟩) ?_
     ·exact rfl
     refine DagStepsS.cons (zCP.eq) (zCr.const) (fun S s' w' hi hN X U V H => Or.inr ⟨zFb rfl rfl (d := 35) (Or.inl ((H 4 rfl).2 35 (eF (.bool true)) rfl (by rw [hFs5]; rfl))), ?_⟩) ?_
     ·exact rfl
     refine qZ (fun S s' w' hi hN X U V H => ?_) ?_
     ·replace X := xM1 X
      have e35 := (H 4 rfl).2 35 _ rfl (by rw [hFs5]; rfl)
      exact zAW (zAr e35 rfl) rfl
     refine DagStepsS.cons (zCP.chg (U := zAh) (fun v w w' x h => Chg.keep x (fun h => h) h) (fun p y hp hw h => by
        rcases zBg h with ⟨rfl, h0⟩ | h0
        ·exact absurd rfl hp
        exact h0.elim)) (zCr.const) (fun S s' w' hi hN X U V H => Or.inl ⟨zAL rfl, ?_⟩) ?_
     ·replace X := xN1 hi X
      have e31 := (H 0 rfl).2 31 _ rfl (by rw [hFs5]; rfl)
      exact zCn (b := br) (o := 0) (n := 2) (U 7 rfl) e31 (by simp [Value.oneCell']) zCL rfl ((X0.trans X).keep Br) (by simp) (by first | exact .inl ⟨rfl, rfl⟩ | exact .inr (.inl ⟨rfl, rfl⟩) | exact .inr (.inr (.inl ⟨rfl, rfl⟩))) (fun w9 h => by have h2 := h.blk; simpa using h2)
     refine DagStepsS.tail ?_
     exact DagStepsS.nil
    ·intro s' wd5 w5 X0 X5 U H
     replace X5 := X5.mono (M' := (fun y => (fun y => y = br) y)) (fun y _ h => by
       obtain ⟨j, hj, h⟩ := h
       rcases zBg h with ⟨rfl, h0⟩ | h0
       ·exact h0
       exact h0.elim)
     have e39 := H 8 rfl 39 _ rfl (by rw [hFs5]; rfl)
     obtain B49 := (show ((fun _ _ => (fun _ w => Blk w br #[(.int .i64 (toD a k.1 x)), (.int .i64 (toD b k.2 x))] 163)) : zDE) (zNr [true, true, true, true, true, true, true, true, true, true, false]) s' (s' 49) w5 from H 9 rfl 49 (fun _ _ => (fun _ w => Blk w br #[(.int .i64 (toD a k.1 x)), (.int .i64 (toD b k.2 x))] 163)) rfl (by rw [hFs5]; rfl))
     obtain ⟨j5, rfl⟩ := zAz.out (σ := s') (l := [(7, (.pointer (some ⟨br, 0, none⟩))), (39, (.bool true))]) ⟨U 7 rfl, e39, trivial⟩
     clear U H
     replace Br := B49
     replace hBa := Chg.keep X5 kH (X0.keep hBa)
     replace hBb := Chg.keep X5 kH (X0.keep hBb)
     replace hBf := Chg.keep X5 kH (X0.keep hBf)
     replace Bq := Chg.keep X5 kH (X0.keep Bq)
     replace B9 := Chg.keep X5 kH (X0.keep B9)
     replace E := (E.ext X0).step X5 (fun y hy h => by first | omega | (dsimp only at h; omega))
     refine qA _ rfl ?_
     refine zAB (zAC (zAV ?_))
     refine zAu results130 (vs := [(.int .i64 (toD a k.1 x)), (.int .i64 (toD b k.2 x))]) (b := br) (v' := (.bool true)) rfl zED zCL rfl (Br.cells rfl) rfl ?_
     exact ⟨by unfold onP; rw [hbo]; simp [khp1], E⟩
   ·have khp1 := hp1
    replace khp1 := of_decide_eq_false khp1
    refine zAH (zAA ?_)
    refine qV (zAI rfl zKE (hBf.cell rfl)) ?_
    refine zAB ?_
    refine zAP (congrArg Value.bool hbo) ?_
    refine zAO (zAC ?_)
    have hz_6 : w0.heap.size ≤ w2.heap.size := E.size
    have lz_6_ba : ba < w2.heap.size := hBa.lt
    have lz_6_bb : bb < w2.heap.size := hBb.lt
    have lz_6_bf : bf < w2.heap.size := hBf.lt
    have lz_6_bq : bq < w2.heap.size := Bq.lt
    have lz_6_br : br < w2.heap.size := Br.lt
    have lz_6_b9 : b9 < w2.heap.size := B9.lt
    refine zAH ?_
    obtain ⟨Fs6, hFs6⟩ : ∃ Fs : List zDE, Fs = [(eF (.agg #[(I6 (toD a k.1 x)), (I6 (toD b k.2 x))])), (eF (P6 b9 0)), (eF (I6 (toD a k.1 x))), (eF (.bool false)), (eF (.bool false)), (eF (P6 b9 1)), (eF (I6 (toD b k.2 x))), (eF (.bool (decide ((0 : Int) ≤ toD b k.2 x)))), (eF (.bool (decide ((0 : Int) ≤ toD b k.2 x)))), (fun _ _ => (fun _ w => Blk w br #[(I6 (toD a k.1 x)), (I6 (toD b k.2 x))] 163)), (eF undef)] := ⟨_, rfl⟩
    refine zFM (MsL [(9, (fun y => y = br))]) [true, true, true, true, true, true, true, true, true, true, false] [10] [31, 32, 33, 34, 35, 36, 37, 38, 39, 49, 50] [[], [], [1], [2], [3], [4], [4, 5], [4, 6], [4, 7], [0, 4], []] [[], [], [1], [2, 1], [3, 2, 1], [4, 3, 2, 1], [4, 3, 2, 1, 5], [4, 3, 2, 1, 6, 5], [4, 3, 2, 1, 7, 6, 5], [0, 4, 3, 2, 1], []] Fs6 hFs6 (by kernel_rfl) mixed (by kernel_rfl) (by kernel_rfl) (by kernel_rfl) (by kernel_rfl) ?_ ?_
    ·intro wd X0
     refine qZ (fun S s' w' hi hN X U V H => ?_) ?_
     ·replace X := xN1 (hN 9 rfl) X
      exact zAW (zAK (U 9 rfl) zED zCL rfl (((X0.trans X).keep B9).cells rfl)) rfl
     refine qZ (fun S s' w' hi hN X U V H => ?_) ?_
     ·replace X := xN1 (hN 9 rfl) X
      exact zAW (zCB (i := 0) (U 9 rfl) rfl rfl underlying163 zAy (by omega) (by omega)) rfl
     refine qZ (fun S s' w' hi hN X U V H => ?_) ?_
     ·replace X := xN1 (hN 9 rfl) X
      have e32 := (H 1 rfl).2 32 _ rfl (by rw [hFs6]; rfl)
      exact zAW (zAI e32 zAo (((X0.trans X).keep B9).cell rfl)) rfl
     refine qZ (fun S s' w' hi hN X U V H => ?_) ?_
     ·replace X := xN1 (hN 9 rfl) X
      have e33 := (H 2 rfl).2 33 _ rfl (by rw [hFs6]; rfl)
      exact zAW (Eq.trans (zDK e33 rfl) (by rw [hp1])) rfl
     refine qZ (fun S s' w' hi hN X U V H => ?_) ?_
     ·replace X := xN1 (hN 9 rfl) X
      have e34 := (H 3 rfl).2 34 _ rfl (by rw [hFs6]; rfl)
      exact zAW (zAl e34) rfl
     refine DagStepsS.cons (zCP.eq) (zCr.const) (fun S s' w' hi hN X U V H => Or.inl ⟨zCw rfl rfl (d := 35) ((H 4 rfl).2 35 (eF (.bool false)) rfl (by rw [hFs6]; rfl)), ?_⟩) ?_
     ·replace X := xM1 X
      exact zAW (zCB (i := 1) (U 9 rfl) rfl rfl underlying163 zAy (by omega) (by omega)) rfl
     refine DagStepsS.cons (zCP.eq) (zCr.const) (fun S s' w' hi hN X U V H => Or.inl ⟨zCw rfl rfl (d := 35) ((H 4 rfl).2 35 (eF (.bool false)) rfl (by rw [hFs6]; rfl)), ?_⟩) ?_
     ·replace X := xM1 X
      have e36 := (H 5 rfl).2 36 _ rfl (by rw [hFs6]; rfl)
      exact zAW (zAI e36 zAo ((Chg.keep X kH (X0.keep B9)).cell rfl)) rfl
     refine DagStepsS.cons (zCP.eq) (zCr.const) (fun S s' w' hi hN X U V H => Or.inl ⟨zCw rfl rfl (d := 35) ((H 4 rfl).2 35 (eF (.bool false)) rfl (by rw [hFs6]; rfl)), ?_⟩) ?_
     ·replace X := xM1 X
      have e37 := (H 6 rfl).2 37 _ rfl (by rw [hFs6]; rfl)
      exact zAW (zDK e37 rfl) rfl
     refine qZ (fun S s' w' hi hN X U V H => ?_) ?_
     ·replace X := xM1 X
      have e35 := (H 4 rfl).2 35 _ rfl (by rw [hFs6]; rfl)
      have e38 := (H 7 rfl).2 38 _ rfl (by rw [hFs6]; rfl)
      exact zAW (zAr e35 e38) rfl
     refine DagStepsS.cons (zCP.chg (U := zAh) (fun v w w' x h => Chg.keep x (fun h => h) h) (fun p y hp hw h => by
        rcases zBg h with ⟨rfl, h0⟩ | h0
        ·exact absurd rfl hp
        exact h0.elim)) (zCr.const) (fun S s' w' hi hN X U V H => Or.inl ⟨zAL rfl, ?_⟩) ?_
     ·replace X := xN1 hi X
      have e31 := (H 0 rfl).2 31 _ rfl (by rw [hFs6]; rfl)
      exact zCn (b := br) (o := 0) (n := 2) (U 7 rfl) e31 (by simp [Value.oneCell']) zCL rfl ((X0.trans X).keep Br) (by simp) (by first | exact .inl ⟨rfl, rfl⟩ | exact .inr (.inl ⟨rfl, rfl⟩) | exact .inr (.inr (.inl ⟨rfl, rfl⟩))) (fun w9 h => by have h2 := h.blk; simpa using h2)
     refine DagStepsS.tail ?_
     exact DagStepsS.nil
    ·intro s' wd6 w6 X0 X6 U H
     replace X6 := X6.mono (M' := (fun y => (fun y => y = br) y)) (fun y _ h => by
       obtain ⟨j, hj, h⟩ := h
       rcases zBg h with ⟨rfl, h0⟩ | h0
       ·exact h0
       exact h0.elim)
     have e39 := H 8 rfl 39 _ rfl (by rw [hFs6]; rfl)
     obtain B49 := (show ((fun _ _ => (fun _ w => Blk w br #[(.int .i64 (toD a k.1 x)), (.int .i64 (toD b k.2 x))] 163)) : zDE) (zNr [true, true, true, true, true, true, true, true, true, true, false]) s' (s' 49) w6 from H 9 rfl 49 (fun _ _ => (fun _ w => Blk w br #[(.int .i64 (toD a k.1 x)), (.int .i64 (toD b k.2 x))] 163)) rfl (by rw [hFs6]; rfl))
     obtain ⟨j6, rfl⟩ := zAz.out (σ := s') (l := [(7, (.pointer (some ⟨br, 0, none⟩))), (39, (.bool (decide ((0 : Int) ≤ toD b k.2 x))))]) ⟨U 7 rfl, e39, trivial⟩
     clear U H
     replace Br := B49
     replace hBa := Chg.keep X6 kH (X0.keep hBa)
     replace hBb := Chg.keep X6 kH (X0.keep hBb)
     replace hBf := Chg.keep X6 kH (X0.keep hBf)
     replace Bq := Chg.keep X6 kH (X0.keep Bq)
     replace B9 := Chg.keep X6 kH (X0.keep B9)
     replace E := (E.ext X0).step X6 (fun y hy h => by first | omega | (dsimp only at h; omega))
     refine qA _ rfl ?_
     refine zAB (zAC (zAV ?_))
     refine zAu results130 (vs := [(.int .i64 (toD a k.1 x)), (.int .i64 (toD b k.2 x))]) (b := br) (v' := (.bool (decide ((0 : Int) ≤ toD b k.2 x)))) rfl zED zCL rfl (Br.cells rfl) rfl ?_
     exact ⟨by unfold onP; rw [hbo]; simp [show ¬ (0 : Int) ≤ toD a k.1 x by omega], E⟩
theorem zRe (w0 : World) (n m c : Nat) (a b : Dfa) (av bv : List Value) (both : Bool) (ba bb bf : Nat) (k : Int × Int) (oka : OkD n c a) (okb : OkD m c b) (ha : zBk w0 a av) (hb : zBk w0 b bv) (hBa : Blk w0 ba av.toArray 34) (hBb : Blk w0 bb bv.toArray 34) (hBf : Blk w0 bf #[.bool both] 4) (hk : k.1 < n ∧ k.2 < m) :
  Ret prog 132 #[.agg #[.int .i64 k.1, .int .i64 k.2], .pointer (some ⟨ba, 0, none⟩), .pointer (some ⟨bb, 0, none⟩), .pointer (some ⟨bf, 0, none⟩)] w0 fun r w => r = .int .i64 (zJZ both a b k) ∧ Ext w0 w := by
 have ha' := ha
 have hb' := hb
 have hal := oka.al
 have hbl := okb.al
 obtain ⟨aa, ac, na, nc, rfl, _, _⟩ := ha'
 obtain ⟨aa2, ac2, na2, nc2, rfl, _, _⟩ := hb'
 obtain ⟨x, hx⟩ : ∃ x, x = atD a k.1 := ⟨_, rfl⟩
 obtain ⟨y, hy⟩ : ∃ y, y = atD b k.2 := ⟨_, rfl⟩
 refine zDc func132 rfl ntmps132 (Nat.le_of_ble_eq_true rfl) ?_
 have E : Chg zAh w0 w0 := Chg.refl _ _
 refine zAA ?_
 refine zBQ (v := (.agg #[(I6 k.1), (I6 k.2)])) (c := #[(I6 k.1), (I6 k.2)]) (by decide) rfl rfl ?_
 intro bq wq Nq
 have Fq := Nq.ge E
 have Oq_ba := Nq.lt hBa
 have Oq_bb := Nq.lt hBb
 have Oq_bf := Nq.lt hBf
 replace hBa := Nq.keep hBa
 replace hBb := Nq.keep hBb
 replace hBf := Nq.keep hBf
 replace E := E.ext Nq.ext
 have Bq := Nq.blk
 refine qA _ rfl ?_
 refine zAB ?_
 have hz_1 : w0.heap.size ≤ wq.heap.size := E.size
 have lz_1_ba : ba < wq.heap.size := hBa.lt
 have lz_1_bb : bb < wq.heap.size := hBb.lt
 have lz_1_bf : bf < wq.heap.size := hBf.lt
 have lz_1_bq : bq < wq.heap.size := Bq.lt
 refine zAH ?_
 obtain ⟨Fs1, hFs1⟩ : ∃ Fs : List zDE, Fs = [(eF (.agg #[(I6 a.start), (.slice aa a.accept.length ac), (.slice na a.next.length nc)])), (eF (P6 bq 0)), (eF (I6 k.1)), (eF (I6 x)), (eF (.agg #[(I6 b.start), (.slice aa2 b.accept.length ac2), (.slice na2 b.next.length nc2)])), (eF (P6 bq 1)), (eF (I6 k.2)), (eF (I6 y)), (eF (I6 x)), (eF (I6 y))] := ⟨_, rfl⟩
 refine zFM (MsL []) [true, true, true, true, true, true, true, true, true, true] [] [8, 9, 10, 11, 12, 13, 14, 15, 6, 7] [[], [], [1], [0, 2], [], [], [5], [3, 4, 6], [0, 1, 2, 3, 7], [0, 1, 2, 3, 4, 5, 6, 7, 8]] [[], [], [1], [0, 2, 1], [], [], [5], [3, 0, 2, 1, 4, 6, 5], [0, 1, 2, 3, 7, 4, 6, 5], [0, 1, 2, 3, 4, 5, 6, 7, 8]] Fs1 hFs1 (by kernel_rfl) mixed (by kernel_rfl) (by kernel_rfl) (by kernel_rfl) (by kernel_rfl) ?_ ?_
 ·intro wd X0
  refine qZ (fun S s' w' hi hN X U V H => ?_) ?_
  ·replace X := xN0 X
   exact zAW (zAK (U 1 rfl) zAx zAe rfl (((X0.trans X).keep hBa).cells rfl)) rfl
  refine qZ (fun S s' w' hi hN X U V H => ?_) ?_
  ·replace X := xN0 X
   exact zAW (zCB (i := 0) (U 4 rfl) rfl rfl underlying163 zAy (by omega) (by omega)) rfl
  refine qZ (fun S s' w' hi hN X U V H => ?_) ?_
  ·replace X := xN0 X
   have e9 := (H 1 rfl).2 9 _ rfl (by rw [hFs1]; rfl)
   exact zAW (zAI e9 zAo (((X0.trans X).keep Bq).cell rfl)) rfl
  refine qZ (fun S s' w' hi hN X U V H => ?_) ?_
  ·replace X := xN0 X
   have e8 := (H 0 rfl).2 8 _ rfl (by rw [hFs1]; rfl)
   have e10 := (H 2 rfl).2 10 _ rfl (by rw [hFs1]; rfl)
   exact zCF (zAQ func133 kQ kQ (zOu e8 e10)) ((zQl _ a _ k.1 (ha.ext (Ext.trans E (X0.trans X))) (by omega)).mono (fun v w h => ⟨by rw [hx]; exact h.1, h.2⟩))
  refine qZ (fun S s' w' hi hN X U V H => ?_) ?_
  ·replace X := xN0 X
   exact zAW (zAK (U 2 rfl) zAx zAe rfl (((X0.trans X).keep hBb).cells rfl)) rfl
  refine qZ (fun S s' w' hi hN X U V H => ?_) ?_
  ·replace X := xN0 X
   exact zAW (zCB (i := 1) (U 4 rfl) rfl rfl underlying163 zAy (by omega) (by omega)) rfl
  refine qZ (fun S s' w' hi hN X U V H => ?_) ?_
  ·replace X := xN0 X
   have e13 := (H 5 rfl).2 13 _ rfl (by rw [hFs1]; rfl)
   exact zAW (zAI e13 zAo (((X0.trans X).keep Bq).cell rfl)) rfl
  refine qZ (fun S s' w' hi hN X U V H => ?_) ?_
  ·replace X := xN0 X
   have e12 := (H 4 rfl).2 12 _ rfl (by rw [hFs1]; rfl)
   have e14 := (H 6 rfl).2 14 _ rfl (by rw [hFs1]; rfl)
   exact zCF (zAQ func133 kQ kQ (zOu e12 e14)) ((zQl _ b _ k.2 (hb.ext (Ext.trans E (X0.trans X))) (by omega)).mono (fun v w h => ⟨by rw [hy]; exact h.1, h.2⟩))
  refine qZ (fun S s' w' hi hN X U V H => ?_) ?_
  ·replace X := xN0 X
   have e11 := (H 3 rfl).2 11 _ rfl (by rw [hFs1]; rfl)
   exact zAW (zEp e11) rfl
  refine qZ (fun S s' w' hi hN X U V H => ?_) ?_
  ·replace X := xN0 X
   have e15 := (H 7 rfl).2 15 _ rfl (by rw [hFs1]; rfl)
   exact zAW (zEp e15) rfl
  exact DagStepsS.nil
 ·intro s' wd1 w1 X0 X1 U H
  replace X1 := X1.mono (M' := zAh) (fun y _ h => by
    obtain ⟨j, hj, h⟩ := h
    exact h.elim)
  have e6 := H 8 rfl 6 _ rfl (by rw [hFs1]; rfl)
  have e7 := H 9 rfl 7 _ rfl (by rw [hFs1]; rfl)
  obtain ⟨j1, rfl⟩ := zAz.out (σ := s') (l := [(3, (.pointer (some ⟨bf, 0, none⟩))), (6, (.int .i64 x)), (7, (.int .i64 y))]) ⟨U 3 rfl, e6, e7, trivial⟩
  clear U H
  replace hBa := (X0.trans X1).keep hBa
  replace hBb := (X0.trans X1).keep hBb
  replace hBf := (X0.trans X1).keep hBf
  replace Bq := (X0.trans X1).keep Bq
  replace X1 := X0.trans X1
  replace E := E.ext X1
  refine zAB (zAC (zAH (zAS (zAA ?_))))
  refine qV (zAI rfl zKE (hBf.cell rfl)) ?_
  refine qM _ rfl ?_
  refine qG (.bool both) (yU both (I6 y)) (by cases both <;> first | exact gA | exact gB | exact .inl ⟨rfl, zAl rfl⟩) ?_
  obtain ⟨e2, he2⟩ : ∃ e, (decide ((y : Int) < 0)) = e := ⟨_, rfl⟩
  refine qG (.bool both) (yU both (.bool e2)) (by cases both <;> first | exact gA | exact gB | exact .inl ⟨rfl, (zBF rfl rfl).trans (by rw [he2]; try rfl)⟩) ?_
  obtain ⟨e3, he3⟩ : ∃ e, (both && e2) = e := ⟨_, rfl⟩
  refine qV (zAr (v := .bool e3) rfl (by rw [← he3]; cases both <;> rfl)) ?_
  refine qA _ rfl ?_
  refine zAB ?_
  subst he3
  subst he2
  refine zBD rfl (fun hq1 => ?_) (fun hq1 => ?_)
  ·have khq1 := hq1
   refine zAA ?_
   refine qA _ rfl ?_
   refine zAB (zAV (zAi (zAU ?_)))
   refine zAY results132 (v := (.int .i64 (-1))) rfl ?_
   exact ⟨zBJ (by unfold zJZ jnP; rw [← hx, ← hy, if_pos khq1]), E⟩
  ·have khq1 := hq1
   refine zAA ?_
   refine qV (zAI rfl zKE (hBf.cell rfl)) ?_
   refine qM _ rfl ?_
   refine qG (.bool both) (nU both (I6 x)) (by cases both <;> first | exact gA | exact gB | exact .inl ⟨rfl, zAl rfl⟩) ?_
   obtain ⟨e5, he5⟩ : ∃ e, (decide ((0 : Int) ≤ x)) = e := ⟨_, rfl⟩
   refine qG (.bool both) (nU both (.bool e5)) (by cases both <;> first | exact gA | exact gB | exact .inl ⟨rfl, (zDK rfl rfl).trans (by rw [he5]; try rfl)⟩) ?_
   obtain ⟨e6, he6⟩ : ∃ e, (both || e5) = e := ⟨_, rfl⟩
   refine qV (zAr (v := .bool e6) rfl (by rw [← he6]; cases both <;> rfl)) ?_
   refine qA _ rfl ?_
   refine zAB ?_
   subst he6
   subst he5
   refine zBD rfl (fun hq2 => ?_) (fun hq2 => ?_)
   ·have khq2 := hq2
    refine zAA ?_
    refine qM _ rfl ?_
    refine qA _ rfl ?_
    refine zAB (zAV (zAi (zAU ?_)))
    refine zAY results132 (v := (.int .i64 x)) rfl ?_
    exact ⟨zBJ (by unfold zJZ jnP; rw [← hx, ← hy, if_neg (by rw [khq1]; decide), if_pos khq2]), E⟩
   ·have khq2 := hq2
    refine zAO (zAR (zAC (zAA ?_)))
    refine qM _ rfl ?_
    refine qA _ rfl ?_
    refine zAB (zAV ?_)
    refine zAY results132 (v := (.int .i64 y)) rfl ?_
    exact ⟨zBJ (by unfold zJZ jnP; rw [← hx, ← hy, if_neg (by rw [khq1]; decide), if_neg (by rw [khq2]; decide)]), E⟩
def expG {α:Type} (c most:Nat) (stp:α→Nat→Option α) (acc:α→Int) (a0:α) (base:Nat):Fct:=fun v w=>∃D ea ec na nc vs,v=.agg #[.int .i64 D.start,.slice ea D.accept.length ec,.slice na D.next.length nc]∧ExpOf c most stp acc a0 D∧OutSt w base (.slice ea D.accept.length ec) (.slice na D.next.length nc) vs D.accept D.next
theorem OutSt.dfa {w:World} {base:Nat} {ea na:Option Addr} {ec nc:Nat} {vs:List Value} {D:Dfa} (h:OutSt w base (.slice ea D.accept.length ec) (.slice na D.next.length nc) vs D.accept D.next):zBk w D [.int .i64 D.start,.slice ea D.accept.length ec,.slice na D.next.length nc]:=
 ⟨ea,ec,na,nc,rfl,zEZ h.e rfl,h.intss⟩
theorem zMu (both:Bool) (a b:Dfa) (k:Int×Int) (x:Nat):(zGX both a b k x).isSome=onP both (toD a k.1 x) (toD b k.2 x)∧∀q,zGX both a b k x=some q→(toD a k.1 x,toD b k.2 x)=q:=by
  unfold zGX;cases onP both (toD a k.1 x) (toD b k.2 x) with
  | true=>exact ⟨rfl,fun q h=>Option.some.inj h⟩
  | false=>exact ⟨rfl,fun q h=>by cases h⟩
end Go.Proofs
namespace Go.Proofs
open Go Go.Eng Go.Sort
set_option maxRecDepth 100000
theorem zNN {n c:Nat} {d:Dfa} {dv:List Value} {w:World} (ok:OkD n c d) (h:zBk w d dv) (hn:1≤n):∃nb no nc aa ac ra rc,dv=[.int .i64 d.start,.slice aa d.accept.length ac,.slice (some ⟨nb,no,none⟩) d.next.length nc]∧w.cell? ⟨nb,no+0,none⟩=some (.slice ra c rc):=by
 have hnl:=ok.nl;obtain ⟨aa,ac,na,nc,rfl,ag,ae⟩:=h;obtain ⟨nb,no,rfl,ah⟩:=zBs (n:=d.next.length) ae qO;obtain ⟨row,ad⟩:=zAN (l:=d.next) (i:=0) qO;have af:=(ok.row row (List.mem_of_getElem? ad)).1;obtain ⟨ra,rc,ab,_⟩:=ah 0 row ad;rw[af] at ab;exact ⟨nb,no,nc,aa,ac,ra,rc,rfl,ab⟩
end Go.Proofs
namespace Go.Proofs
open Go Go.Eng Go.Sort
set_option maxRecDepth 100000
theorem zSL (w0:World) (v1 v2:Value) (l1 l2:List (List Int)) (h1:zDk w0 v1 l1) (h2:zDk w0 v2 l2) (n1 n2:Nat) (a1 a2:Option Addr) (c1 c2:Nat) (e1:v1=.slice a1 n1 c1) (e2:v2=.slice a2 n2 c2) (hn1:l1.length=n1) (hn2:l2.length=n2) (hb:n1≤20000) :
  Ret prog 41 #[v1,v2,.func (.func 25) #[] #[]] w0 fun v w=>v=.bool (decide (l1=l2))∧Ext w0 w:=by
 subst e1;subst e2;refine qR func41 rfl ntmps41 rfl (fun E=>(zAA (qA _ rfl (zAB (zAH (zAA (qM _ rfl (qV (zAJ underlying32 rfl) (qM _ rfl (qV (zAJ underlying32 rfl) (qV (zDA rfl rfl) (zAB (qC rfl (fun hl=>?_) (fun hl=>?_))))))))))))))
 ·refine zAA (qA _ rfl (zAB (zAV (zAU (zAY results41 (v:=(.bool false)) rfl ?_)))));exact ⟨zBy (by symm;rw[decide_eq_false_iff_not];intro h;rw[h] at hn1;omega),E⟩
 ·refine zAO (zAC (zAH (zAA (qM _ rfl (qV (zAJ underlying32 rfl) (qM _ rfl (zAB (zAS (zAp (fun nn_ σ W2=>∃(k:Nat),(∃jj_,σ=zCT jj_ [(1,(.slice a2 n2 c2)),(2,(.func (.func 25) #[] #[])),(15,(.slice a1 n1 c1)),(16,(I6 (n1:Int))),(17,(I6 (k:Int)))])∧Chg zAh w0 W2∧(k≤n1)∧(∀(i:Nat),i<k→l1[i]?=l2[i]?)∧nn_=n1 - k) (n:=n1 - 0) ?_ ?_)))))))))
  ·exact ⟨0,zAz.out ⟨rfl,rfl,rfl,rfl,rfl,trivial⟩,E,Nat.zero_le _,(fun i h=>absurd h (Nat.not_lt_zero _)),rfl⟩
  ·clear E;rintro _ _ W2 ⟨k,⟨j2,rfl⟩,E,hk,ad,rfl⟩;refine zAA (qV (zBF rfl rfl) (zAB (zAH (qC rfl (fun af=>?_) (fun af=>?_)))))
   ·obtain ⟨p,hp⟩:=zAN (l:=l1) (i:=k) qO;obtain ⟨q,hq⟩:=zAN (l:=l2) (i:=k) qO;obtain ⟨b1,o1,rfl,ak⟩:=zBs h1 qO;obtain ⟨b2,o2,rfl,ae⟩:=zBs h2 qO;obtain ⟨ra1,rc1,ag,ah⟩:=ak k p hp;obtain ⟨ra2,rc2,ai,aj⟩:=ae k q hq;refine zAO (zAC (zAH (zAS (zAA (qM _ rfl (qV (zAD (b:=b1) (o:=o1) (len:=n1) (cap:=c1) (i:=k) (o':=o1+k) rfl rfl rfl underlying32 zBL qO qO) (qV (zAI rfl zBP (E.cell (fun f=>f) ag)) (qA _ rfl (qA _ rfl (zAB (zAA (qM _ rfl (qM _ rfl (qV (zAD (b:=b2) (o:=o2) (len:=n2) (cap:=c2) (i:=k) (o':=o2+k) rfl rfl rfl underlying32 zBL qO qO) (qV (zAI rfl zBP (E.cell (fun f=>f) ai)) (qA _ rfl (zAB (zAA (qM _ rfl (qM _ rfl ?_))))))))))))))))))));refine qM _ rfl (qE rfl (zDL rfl func25 kQ kQ rfl rfl) (zTR _ _ _ p q (ah.ext E) (aj.ext E)) ?_);rintro _ w9 ⟨rfl,X9⟩;replace E:=E.ext X9;refine qV (zCa rfl) (zAB (zBD rfl (fun aa=>?_) (fun aa=>?_)))
    ·have ab:=aa;replace aa:=by simpa using aa
     refine zAA (qA _ rfl (zAB (zAV (zAi (zAU (zAU (zAi (zAU (zAY results41 (v:=(.bool false)) rfl ?_)))))))));exact ⟨zBy (by symm;rw[decide_eq_false_iff_not];intro h;rw[h] at hp;rw[hp] at hq;exact aa (Option.some.inj hq)),E⟩
    ·have ab:=aa;replace aa:=by simpa using aa
     refine zAO (zAR (zAC (zAF (qV (zAv rfl rfl (zBb qO)) (qM _ rfl (zAB (zAC ?_)))))));exact ⟨n1 - (k+1),qO,k+1,zAz.out ⟨rfl,rfl,rfl,rfl,rfl,trivial⟩,E,qO,(fun i hi=>by rcases Nat.lt_or_ge i k with h|h;exact ad i h;(have h':i=k:=qO);subst h';(have ac:p=q:=by simpa using aa);rw[hp,hq,ac]),rfl⟩
   ·refine zAn (zAT (zAT (zAg (zAC (zAA (qA _ rfl (zAB (zAV (zAY results41 (v:=(.bool true)) rfl ?_)))))))));exact ⟨zBy (by symm;rw[decide_eq_true_iff];apply List.ext_getElem?;intro i;rcases Nat.lt_or_ge i n1 with h|h;exact ad i qO;rw[List.getElem?_eq_none qO,List.getElem?_eq_none qO]),E⟩
theorem zFY (a b:Dfa):a=b↔a.start=b.start∧a.accept=b.accept∧a.next=b.next:=by
 cases a;cases b;simp
instance:DecidableEq Dfa:=fun a b=>decidable_of_iff _ (zFY a b).symm
end Go.Proofs
namespace Go.Proofs
open Go Go.Eng Go.Sort
set_option maxRecDepth 100000
--BEGIN
theorem zDf.ok {c:Nat} {f:List Nat→Int} {C:Dfa} (h:zDf c f C):OkD C.next.length c C∧C.start=0∧(∀w,inW c w→beh C C.start w=f w)∧1≤C.next.length:=by
 obtain ⟨m,b,h1,_,_⟩:=h;have e:=b.ok.nl;have:=b.ok.st;exact ⟨by rw[e];exact b.ok,b.st,fun w hw=>by rw[b.st];exact h1 w hw,qO⟩
--END
end Go.Proofs
namespace Go.Eng
open Go
theorem zMK {P:Program} {σ:Env} {w:World} {dst:Option Tmp} {ty:TypeId} {pos:String} {af:Array Edge} {g:Option (Nat×Bool)} {t:TypeId} {x y:Operand} {k:ByteArray} {n:Nat} {b:UInt8} {c:Int} (hu:P.underlying t=some .string) (hx:ev σ x=.string k) (hy:ev σ y=.int .i64 ((n:Nat):Int)) (hb:k[n]?=some b) (hc:(b.toNat:Int)=c) :
  (execOp (ev σ) ⟨dst,.index t x y,ty,pos,af,g⟩).run P w=.ok (.value (.int .u8 c)) w:=by
 subst hc;have h0:(0:Int)≤((n:Nat):Int):=qO
 simp[execOp,hx,hy,Instr.index,asIntOf,run_underlying hu,h0,hb]
end Go.Eng
namespace Go.Proofs
open Go Go.Eng Go.Sort
set_option maxRecDepth 100000
--BEGIN
end Go.Proofs
namespace Go.Proofs
open Go Go.Eng Go.Sort
set_option maxRecDepth 100000
theorem zTI:∀b:Nat,b<256→∀j:Nat,j<8→b ||| 2 ^ j=b+(if b / 2 ^ j % 2=1 then 0 else 2 ^ j)∧b ||| 2 ^ j<256:=by decide +kernel
theorem zWt {n:Nat} (h:n<256):IntKind.u8.wrap ((n:Nat):Int)=((n:Nat):Int):=by
 have:=zVU ((n:Nat):Int);rw[this];omega
theorem zNO (m:Nat) (h:m<256):(BitVec.ofInt 8 (m:Int)).toNat=m:=by
 rw[BitVec.toNat_ofInt];omega
theorem or8 {P:Program} {w:World} {a b c:Nat} (ha:a<256) (hb:b<256) (hc:a ||| b=c) (hc2:c<256):(Op.intBits .or .u8 ((a:Nat):Int) ((b:Nat):Int)).run P w=.ok (.int .u8 ((c:Nat):Int)) w:=by
 show Result.ok (Value.int .u8 (IntKind.u8.wrap ((BitVec.ofInt 8 ((a:Nat):Int) ||| BitVec.ofInt 8 ((b:Nat):Int):BitVec 8).toNat:Int))) w=_;rw[BitVec.toNat_or,zNO a qO,zNO b qO,hc,zWt hc2]
theorem zXZ {P:Program} {w:World} {a b c:Nat} (ha:a<256) (hb:b<256) (hc:a &&& b=c) (hc2:c<256):(Op.intBits .and .u8 ((a:Nat):Int) ((b:Nat):Int)).run P w=.ok (.int .u8 ((c:Nat):Int)) w:=by
 show Result.ok (Value.int .u8 (IntKind.u8.wrap ((BitVec.ofInt 8 ((a:Nat):Int) &&& BitVec.ofInt 8 ((b:Nat):Int):BitVec 8).toNat:Int))) w=_;rw[BitVec.toNat_and,zNO a qO,zNO b qO,hc,zWt hc2]
theorem pow8 {j:Nat} (h:j<8):2 ^ j<256:=by
 have:=Nat.pow_le_pow_right (show 0<2 by decide) (show j≤7 by omega);omega
theorem zRT {j:Nat} (h:j<8):IntKind.u8.wrap ((1:Int)*2 ^ (min (((j:Nat):Int)).toNat IntKind.u8.bits))=((2 ^ j:Nat):Int):=by
 rw[Int.toNat_natCast,show min j IntKind.u8.bits=j from Nat.min_eq_left (by show j≤8;omega),Int.one_mul,show (2:Int) ^ j=((2 ^ j:Nat):Int) from (Int.natCast_pow 2 j).symm];exact zWt (pow8 h)
theorem zRS {v j:Nat} (h:j<8):(((v:Nat):Int)).fdiv (2 ^ (min (((j:Nat):Int)).toNat IntKind.u8.bits))=((v / 2 ^ j:Nat):Int):=by
 rw[Int.toNat_natCast,show min j IntKind.u8.bits=j from Nat.min_eq_left (by show j≤8;omega),show (2:Int) ^ j=((2 ^ j:Nat):Int) from (Int.natCast_pow 2 j).symm,Int.fdiv_eq_ediv_of_nonneg _ (Int.natCast_nonneg _)];rfl
theorem zSg {k:ByteArray} {i:Nat} (h:i<k.size):k[i]?=some (k.data.toList.getD i 0):=by
 rw[getElem?_pos k i h,List.getD_eq_getElem?_getD];congr 1;have h2:k.data.toList[i]?=some (k.data[i]'h):=by rw[Array.getElem?_toList];exact Array.getElem?_eq_getElem h
 rw[h2];rfl
def zJA (n:Nat) (M:Nat→Bool):Array Value:=((zIj n M).map (Value.int .u8)).toArray
theorem zPT (n:Nat) (M:Nat→Bool):(zJA n M).size=(n+7) / 8:=by simp[zJA,zDn]
theorem zPU (n:Nat):zJA n (fun _=>false)=(List.replicate ((n+7) / 8) (Value.int .u8 0)).toArray:=by
 unfold zJA zIj;congr 1;rw[List.map_map];refine List.eq_replicate_iff.2 ⟨qP,fun x hx=>?_⟩;obtain ⟨i,_,rfl⟩:=List.mem_map.1 hx;simp[zCm,zIf]
theorem zSi {n s:Nat} (M:Nat→Bool) (hs:s<n):(zIj n M)[s / 8]?=some ((zCm (zIf n M) (s / 8):Nat):Int):=by
 unfold zIj;rw[List.getElem?_map,List.getElem?_range qO];rfl
theorem zSh {n s:Nat} (M:Nat→Bool) (hs:s<n):(zIj n M).set (s / 8) ((zCm (zIf n M) (s / 8) ||| 2 ^ (s % 8):Nat):Int)=zIj n fun q=>M q || decide (q=s):=by
 have hb:=zMj (zIf n M) (s / 8);have hm:=Nat.mod_lt s (show 0<8 by decide);have aa:zIf n (fun q=>M q || decide (q=s))=fun q=>zIf n M q || decide (q=8*(s / 8)+s % 8):=funext fun q=>by
  unfold zIf;rw[Nat.div_add_mod];by_cases hq:q=s
  ·subst hq;simp[hs]
  ·simp[hq]
 apply List.ext_getElem?;intro i;rw[List.getElem?_set];unfold zIj;rw[aa];by_cases hi:s / 8=i
 ·subst hi;rw[if_pos rfl,if_pos (by simp;omega),List.getElem?_map,List.getElem?_range qO];simp only[Option.map_some];rw[zSf _ _ _ hm,(zTI _ hb _ hm).1,zNo _ _ _ hm];cases zIf n M (8*(s / 8)+s % 8)<;>simp
 ·rw[if_neg hi,List.getElem?_map,List.getElem?_map];rcases Nat.lt_or_ge i ((n+7) / 8) with h|h
  ·rw[List.getElem?_range h];simp only[Option.map_some];rw[zOh hm (fun e=>hi e.symm)]
  ·rw[List.getElem?_eq_none (by simpa using h)];rfl
theorem zJu (w0:World) (n:Nat) (hn:n≤100000):Ret prog 180 #[.int .i64 ((n:Nat):Int)] w0 fun v w=>(∃b,v=.slice (some ⟨b,0,none⟩) ((n+7) / 8) ((n+7) / 8)∧Blk w b (zJA n fun _=>false) 5∧w0.heap.size≤b)∧Ext w0 w:=by
 refine qR func180 rfl ntmps180 rfl (fun E=>(zAA (qA _ rfl (zAB (zAA (qM _ rfl (qV (zAv rfl rfl (zBb qO)) (qV (zUE (c:=(((n+7) / 8:Nat):Int)) rfl rfl qD ((by rw[show ((n:Int)+7).tdiv 8=(((n+7) / 8:Nat):Int) from by rw[Int.tdiv_eq_ediv_of_nonneg qO];omega];exact zBb qO))) (zEx (n:=(n+7) / 8) (z:=(.int .u8 0)) (bytes:=1) qD underlying69 zRR zXX zWh rfl rfl rfl qO qO ?_)))))))));intro b1 w1 N1;replace E:=E.ext N1.ext;have B1:=N1.blk;refine qA _ rfl (zAB (zAV (zAY results180 (v:=(.slice (some ⟨b1,0,none⟩) ((n+7) / 8) ((n+7) / 8))) rfl ?_)));exact ⟨⟨b1,rfl,by rw[zPU];exact B1,by have:=N1.eq;omega⟩,E⟩
theorem zTY (w0:World) (n b s:Nat) (M:Nat→Bool) (hn:n≤100000) (hB:Blk w0 b (zJA n M) 5) (hs:s<n):Ret prog 178 #[.slice (some ⟨b,0,none⟩) ((n+7) / 8) ((n+7) / 8),.int .i64 ((s:Nat):Int)] w0 fun v w=>v=.tuple #[]∧Chg (fun y=>y=b) w0 w∧Blk w b (zJA n fun q=>M q || decide (q=s)) 5:=by
 have hq:(((s:Nat):Int)).tdiv 8=((s / 8:Nat):Int):=by rw[Int.tdiv_eq_ediv_of_nonneg qO];omega
 have hr:(((s:Nat):Int)).tmod 8=((s % 8:Nat):Int):=by rw[Int.tmod_eq_emod_of_nonneg qO];omega
 have hb:=zMj (zIf n M) (s / 8);have hm:=Nat.mod_lt s (show 0<8 by decide);have hp:2 ^ (s % 8)<256:=by
  have:=Nat.pow_le_pow_right (show 0<2 by decide) (show s % 8≤7 by omega);omega
 have hsl:s / 8<(n+7) / 8:=qO
 refine zDc func178 rfl ntmps178 (leT rfl) ?_;have E:Chg (fun y=>y=b) w0 w0:=Chg.refl _ _;refine zKU 10 mixed qK ?_;intro w1 X1 _;replace hB:=X1.keep hB;replace E:=E.ext X1;refine qT (zAl (v:=(.slice (some ⟨b,0,none⟩) ((n+7) / 8) ((n+7) / 8))) rfl) (qT (zAl (v:=(I6 (s:Int))) rfl) (qT (zUE (k:=.i64) (a:=(s:Int)) (b:=8) (c:=((s / 8:Nat):Int)) rfl rfl qD ((by rw[hq];exact zBb qO))) (qT (zAD (b:=b) (o:=0) (len:=(n+7) / 8) (cap:=(n+7) / 8) (i:=s / 8) (o':=0+(s / 8)) rfl rfl rfl underlying69 zRR qO qO) (qT (zAI (v:=(.int .u8 ((zCm (zIf n M) (s / 8):Nat):Int))) rfl zXN (hB.cell (by unfold zJA;rw[Nat.zero_add];simp[zSi M hs]))) (qT (zAl (v:=(I6 (s:Int))) rfl) (qT (zUD (k:=.i64) (a:=(s:Int)) (b:=8) (c:=((s % 8:Nat):Int)) rfl rfl qD rfl) (qT (zVm (k:=.u8) (a:=1) (b:=((s % 8:Nat):Int)) (c:=((2 ^ (s % 8):Nat):Int)) (k':=.i64) rfl rfl qO (zRT hm)) (qT (zJF (k:=.u8) (a:=((zCm (zIf n M) (s / 8):Nat):Int)) (b:=((2 ^ (s % 8):Nat):Int)) (v:=.int .u8 ((zCm (zIf n M) (s / 8) ||| 2 ^ (s % 8):Nat):Int)) rfl rfl qP (or8 hb hp rfl (zTI _ hb _ hm).2)) (qT (zAD (b:=b) (o:=0) (len:=(n+7) / 8) (cap:=(n+7) / 8) (i:=s / 8) (o':=0+(s / 8)) rfl rfl rfl underlying69 zRR qO qO) (zCq (zBC (b:=b) (o:=0+(s / 8)) (c':=zJA n (fun q=>M q || decide (q=s))) (v:=(.int .u8 ((zCm (zIf n M) (s / 8) ||| 2 ^ (s % 8):Nat):Int))) rfl rfl rfl zRR hB (by rw[zPT];omega) (by unfold zJA;rw[←zSh M hs];simp) ?_)))))))))));intro w2 S2;replace E:=S2.step E qQ;replace hB:=S2.blk;refine zAB (zFW results178 ?_);exact ⟨rfl,E,hB⟩
theorem zLP (w0:World) (n s:Nat) (k:ByteArray) (hn:n≤100000) (hk:k.size=(n+7) / 8) (hs:s<n):Ret prog 195 #[.string k,.int .i64 ((s:Nat):Int)] w0 fun v w=>v=.bool (zGh k s)∧Ext w0 w:=by
 have hq:(((s:Nat):Int)).tdiv 8=((s / 8:Nat):Int):=by rw[Int.tdiv_eq_ediv_of_nonneg qO];omega
 have hr:(((s:Nat):Int)).tmod 8=((s % 8:Nat):Int):=by rw[Int.tmod_eq_emod_of_nonneg qO];omega
 have hm:=Nat.mod_lt s (show 0<8 by decide);obtain ⟨v,hv⟩:∃v,v=(k.data.toList.getD (s / 8) 0).toNat:=⟨_,rfl⟩;have ab:v<256:=by rw[hv];exact UInt8.toNat_lt _
 have hd:v / 2 ^ (s % 8)<256:=Nat.lt_of_le_of_lt (Nat.div_le_self _ _) ab;have aa:zGh k s=decide (v / 2 ^ (s % 8) % 2=1):=by rw[hv];rfl
 rw[aa];refine qR func195 rfl ntmps195 rfl (fun E=>(zAA (qA _ rfl (zAB (zAA (qM _ rfl (qM _ rfl (qV (zUE (c:=((s / 8:Nat):Int)) rfl rfl qD ((by rw[hq];exact zBb qO))) (qV (zMK (n:=s / 8) (b:=k.data.toList.getD (s / 8) 0) (c:=(v:Int)) underlying203 rfl rfl (zSg qO) (by rw[hv])) (qM _ rfl (qV (zUD (c:=((s % 8:Nat):Int)) rfl rfl qD rfl) (qV (zIg (c:=((v / 2 ^ (s % 8):Nat):Int)) rfl rfl qO (zRS hm)) (qV (zJF (v:=.int .u8 ((v / 2 ^ (s % 8) % 2:Nat):Int)) rfl rfl qP (zXZ hd qD (Nat.and_one_is_mod _) qO)) (qV (zAs rfl rfl) (qA _ rfl (zAB (zAV ?_)))))))))))))))));refine zAY results195 (v:=(.bool (decide ((((v / 2 ^ (s % 8) % 2:Nat):Int):Int)=1)))) rfl ?_;exact ⟨zBy (decide_eq_decide.2 qO),E⟩
end Go.Proofs
namespace Go.Proofs
open Go Go.Eng Go.Sort
set_option maxRecDepth 100000
def zRH (b:Dfa) (k:ByteArray) (x s:Nat):Nat→Bool:=fun q=>(List.range s).any fun p=>zGh k p && decide (toD b ((p:Nat):Int) x=((q:Nat):Int))
def zMF (b:Dfa) (k:ByteArray) (x s:Nat):Bool:=(List.range s).any fun p=>zGh k p && decide (0≤toD b ((p:Nat):Int) x)
theorem zLB (b:Dfa) (k:ByteArray) (x s q:Nat):zRH b k x (s+1) q=(zRH b k x s q || (zGh k s && decide (toD b ((s:Nat):Int) x=((q:Nat):Int)))):=by
 unfold zRH;rw[List.range_succ,List.any_append];simp
theorem zIx (b:Dfa) (k:ByteArray) (x s:Nat):zMF b k x (s+1)=(zMF b k x s || (zGh k s && decide (0≤toD b ((s:Nat):Int) x))):=by
 unfold zMF;rw[List.range_succ,List.any_append];simp
theorem zPx {b:Dfa} {k:ByteArray} {x s:Nat} (h:zGh k s=false∨toD b ((s:Nat):Int) x<0):zRH b k x (s+1)=zRH b k x s∧zMF b k x (s+1)=zMF b k x s:=by
 refine ⟨funext fun q=>?_,?_⟩
 ·rw[zLB];rcases h with h|h
  ·rw[h];simp
  ·rw[decide_eq_false (show ¬toD b ((s:Nat):Int) x=((q:Nat):Int) by omega)];simp
 ·rw[zIx];rcases h with h|h
  ·rw[h];simp
  ·rw[decide_eq_false (show ¬0≤toD b ((s:Nat):Int) x by omega)];simp
theorem zRu {b:Dfa} {k:ByteArray} {x s t:Nat} (h:zGh k s=true) (ht:toD b ((s:Nat):Int) x=((t:Nat):Int)):(fun q=>zRH b k x s q || decide (q=t))=zRH b k x (s+1)∧zMF b k x (s+1)=true:=by
 refine ⟨funext fun q=>?_,?_⟩
 ·rw[zLB,h,ht,Bool.true_and];congr 1;exact decide_eq_decide.2 qO
 ·rw[zIx,h,ht,decide_eq_true qO];simp
theorem zIT (w0:World) (n c:Nat) (b:Dfa) (dv:List Value) (k:ByteArray) (ok:OkD n c b) (hb:zBk w0 b dv) (hn:n≤20000) (hk:k.size=(n+7) / 8) :
    Ret prog 184 #[.agg dv.toArray,.string k] w0 fun v w=>v=.bool (zLs b n k)∧Ext w0 w:=by
  have hal:=ok.al;obtain ⟨aa,ac,na,nc,rfl,ag,aj⟩:=hb;have ae:=zHZ (b:=b) (m:=n) (k:=k);obtain ⟨A,hA⟩:∃A,A=zLs b n k:=⟨_,rfl⟩;rw[←hA] at ae⊢;refine qR func184 rfl ntmps184 rfl (fun E=>(zAA (zBQ (v:=(.agg #[(I6 b.start),(.slice aa b.accept.length ac),(.slice na b.next.length nc)])) (c:=#[(I6 b.start),(.slice aa b.accept.length ac),(.slice na b.next.length nc)]) qD rfl rfl ?_)));intro bd wd Nd;replace E:=E.ext Nd.ext;have Bd:=Nd.blk;refine qA _ rfl (zAB (zAH (zAA (qF bd 0 1 rfl underlying34 rfl zBL rfl (qV (zAI rfl zBP (Bd.cell rfl)) (qV (zAJ underlying22 rfl) (qM _ rfl (zAB (zAS (zAp (fun nn_ σ W1=>∃(i:Nat),(∃jj_,σ=zCT jj_ [(1,(.string k)),(8,(.slice aa b.accept.length ac)),(9,(I6 (b.accept.length:Int))),(10,(I6 (i:Int)))])∧Chg zAh w0 W1∧Blk W1 bd #[(I6 b.start),(.slice aa b.accept.length ac),(.slice na b.next.length nc)] 34∧(i≤b.accept.length)∧(∀p,p<i→¬(0≤atD b (p:Int)∧zGh k p=true))∧nn_=b.accept.length - i) (n:=b.accept.length - 0) ?_ ?_))))))))))
  · exact ⟨0,zAz.out ⟨rfl,rfl,rfl,rfl,trivial⟩,E,Bd,Nat.zero_le _,(fun p hp=>absurd hp qO),rfl⟩
  · clear E Bd;rintro _ _ W1 ⟨i,⟨j1,rfl⟩,E,Bd,hi,af,rfl⟩;refine zAA (qV (zBF rfl rfl) (zAB (zAH (qC rfl (fun ak=>?_) (fun ak=>?_)))))
    · obtain ⟨y,hy⟩:=zAN (l:=b.accept) (i:=i) qO;obtain ⟨b9,o9,am,ai⟩:=zBG ag qO;subst am;have ah:=zEC hy;refine zAO (zAC (zAH (zAS (zAA (qM _ rfl (qV (zAD (b:=b9) (o:=o9) (len:=b.accept.length) (cap:=ac) (i:=i) (o':=o9+i) rfl rfl rfl underlying22 zAy qO qO) (qV (zAI rfl zAo (E.cell (fun f=>f) (ai i y hy))) (qA _ rfl (qA _ rfl (zAB (zAA (qM _ rfl (qV (zDK rfl rfl) (qM _ rfl ?_))))))))))))));rcases Bool.eq_false_or_eq_true (decide ((0:Int)≤y)) with ad|ad
      · have ab:=ad;replace ab:=of_decide_eq_true ab;refine zAG rfl rfl qD (cbk ad) (qM _ rfl (zAG rfl rfl qD (cbk ad) (qM _ rfl (zAG rfl rfl qD (cbk ad) (qE rfl (zAQ func195 kQ kQ rfl) (zLP _ n i k qO hk qO) ?_)))));rintro _ w9 ⟨rfl,X9⟩;replace Bd:=X9.keep Bd;replace E:=E.ext X9;refine qV (zAr (v:=(.bool (zGh k i))) rfl (by rw[ad];rfl)) (zAB (zBD rfl (fun hh=>?_) (fun hh=>?_)))
        · have an:=hh;refine zAA (qA _ rfl (zAB (zAV (zAi (zAU (zAU (zAi (zAU (zAY results184 (v:=(.bool true)) rfl ?_)))))))));exact ⟨zBy (ae.2 ⟨i,qO,by rw[ah];exact ab,hh⟩).symm,E⟩
        · have an:=hh;refine zAO (zAR (zAC (zAF (qV (zAv rfl rfl (zBb qO)) (qM _ rfl (zAB (zAC ?_)))))));exact ⟨b.accept.length - (i+1),qO,i+1,zAz.out ⟨rfl,rfl,rfl,rfl,trivial⟩,E,Bd,qO,(fun p hp=>by rcases Nat.lt_or_ge p i with h|h;exact af p h;obtain rfl:p=i:=qO;exact fun h9=>by rw[h9.2] at hh;cases hh),rfl⟩
      · have ab:=ad;replace ab:=of_decide_eq_false ab;refine zAM rfl rfl qD (v:=.bool false) (cbk ad) (Or.inl rfl) (zAM rfl rfl qD (v:=.bool false) (cbk ad) (Or.inl rfl) (zAM rfl rfl qD (v:=.bool false) (cbk ad) (Or.inl rfl) (qV (zAr (v:=(.bool false)) rfl (by rw[ad];rfl)) (zAB (zAP rfl (zAO (zAR (zAC (zAF (qV (zAv rfl rfl (zBb qO)) (qM _ rfl (zAB (zAC ?_)))))))))))));exact ⟨b.accept.length - (i+1),qO,i+1,zAz.out ⟨rfl,rfl,rfl,rfl,trivial⟩,E,Bd,qO,(fun p hp=>by rcases Nat.lt_or_ge p i with h|h;exact af p h;obtain rfl:p=i:=qO;exact fun h9=>by rw[ah] at h9;omega),rfl⟩
    · refine zAn (zAT (zAT (zAg (zAC (zAA (qA _ rfl (zAB (zAV (zAY results184 (v:=(.bool false)) rfl (⟨zBy ?_,E⟩))))))))));cases A with
      | false=>rfl
      | true=>
        obtain ⟨p,h1,h2,h3⟩:=ae.1 rfl;exact absurd ⟨h2,h3⟩ (af p qO)
theorem zMC (w0:World) (n c x:Nat) (b:Dfa) (dv:List Value) (k:ByteArray) (ok:OkD n c b) (hb:zBk w0 b dv) (hn:n≤20000) (hk:k.size=(n+7) / 8) (hx:x<c) (hc:c≤16) :
  Ret prog 182 #[.agg dv.toArray,.string k,.int .i64 ((x:Nat):Int)] w0 fun v w=>(∃g,v=.tuple #[.slice (some ⟨g,0,none⟩) ((n+7) / 8) ((n+7) / 8),.bool (zEI b n k x)]∧Blk w g (zJA n (zIe b n k x)) 5∧w0.heap.size≤g)∧Ext w0 w:=by
 have ax:=ok.nl;subst ax;have hst:=ok.st;have ag:zRH b k x 0=fun _=>false:=rfl;obtain ⟨aa,ac,na,nc,rfl,az,ai⟩:=hb;obtain ⟨nb,no,rfl,aq⟩:=zBs (n:=b.next.length) ai qO;refine qR func182 rfl ntmps182 rfl (fun E=>(zAA (zBQ (v:=(.agg #[(I6 b.start),(.slice aa b.accept.length ac),(.slice (some ⟨nb,no,none⟩) b.next.length nc)])) (c:=#[(I6 b.start),(.slice aa b.accept.length ac),(.slice (some ⟨nb,no,none⟩) b.next.length nc)]) qD rfl rfl ?_)));intro bd wd Nd;replace E:=E.ext Nd.ext;have Bd:=Nd.blk;refine qA _ rfl (qA _ rfl (zAB (zAA (qF bd 0 2 rfl underlying34 rfl zBu rfl (qV (zAI rfl zBi (Bd.cell rfl)) (qV (zAJ underlying32 rfl) (qE rfl (zAQ func180 kQ kQ rfl) ((zJu _ b.next.length qO).mono (R':=fun v w=>(∃g,v=.slice (some ⟨g,0,none⟩) ((b.next.length+7) / 8) ((b.next.length+7) / 8)∧Blk w g (zJA b.next.length (zRH b k x 0)) 5∧wd.heap.size≤g)∧Ext wd w) (fun v w h=>by rw[ag];exact h)) ?_)))))));rintro _ w9 ⟨⟨g,rfl,hG,hg0⟩,X9⟩;replace Bd:=X9.keep Bd;replace E:=E.ext X9;have hgd:bd<g:=by have:=Nd.eq;have:=Nd.size;omega
 have ap:w0.heap.size≤g:=by have:=Nd.ext.size;omega
 refine qA _ rfl (qA _ rfl (zAB (zAH (zAA (qF bd 0 2 rfl underlying34 rfl zBu rfl (qV (zAI rfl zBi (Bd.cell rfl)) (qV (zAJ underlying32 rfl) (qM _ rfl (zAB (zAS (zAp (fun nn_ σ W1=>∃(i:Nat) (sm:Bool),(∃jj_,σ=zCT jj_ [(1,(.string k)),(2,(I6 (x:Int))),(3,(P6 bd 0)),(8,(.slice (some ⟨g,0,none⟩) ((b.next.length+7) / 8) ((b.next.length+7) / 8))),(17,(I6 (b.next.length:Int))),(18,(I6 (i:Int))),(9,(.bool sm))])∧Chg zAh w0 W1∧Blk W1 bd #[(I6 b.start),(.slice aa b.accept.length ac),(.slice (some ⟨nb,no,none⟩) b.next.length nc)] 34∧Blk W1 g (zJA b.next.length (zRH b k x i)) 5∧(i≤b.next.length)∧(sm=zMF b k x i)∧nn_=b.next.length - i) (n:=b.next.length - 0) ?_ ?_)))))))))))
 ·exact ⟨0,false,zAz.out ⟨rfl,rfl,rfl,rfl,rfl,rfl,rfl,trivial⟩,E,Bd,hG,Nat.zero_le _,rfl,rfl⟩
 ·clear E Bd hG;rintro _ _ W1 ⟨i,sm,⟨j1,rfl⟩,E,Bd,hG,hi,ah,rfl⟩;refine zAA (qV (zBF rfl rfl) (zAB (zAH (qC rfl (fun ar=>?_) (fun ar=>?_)))))
  ·obtain ⟨row,ab⟩:=zAN (l:=b.next) (i:=i) qO;have hrl:=(ok.row row (List.mem_of_getElem? ab)).1;obtain ⟨ra,rc,ad,av⟩:=aq i row ab;obtain ⟨b9,o9,au,am⟩:=zBG av qO;subst au;obtain ⟨y,hy⟩:=zAN (l:=row) (i:=x) qO;have hyr:=(ok.row row (List.mem_of_getElem? ab)).2 y (List.mem_of_getElem? hy);have ao:=zEl ab hy;refine zAO (zAC (zAH (zAS (zAA (qM _ rfl (qA _ rfl (zAB (zAA (qM _ rfl (qM _ rfl (qE rfl (zAQ func195 kQ kQ rfl) (zLP _ b.next.length i k qO hk qO) ?_)))))))))));rintro _ w19 ⟨rfl,aj⟩;replace Bd:=aj.keep Bd;replace hG:=aj.keep hG;replace E:=E.ext aj;refine qM _ rfl ?_;rcases Bool.eq_false_or_eq_true (zGh k i) with hh|hh
   ·have aw:=hh;refine zAG rfl rfl qD (cbk hh) (qF bd 0 2 rfl underlying34 rfl zBu rfl (zAG rfl rfl qD (cbk hh) (qV (zAI rfl zBi (Bd.cell rfl)) (zAG rfl rfl qD (cbk hh) (qM _ rfl (zAG rfl rfl qD (cbk hh) (qV (zAD (b:=nb) (o:=no) (len:=b.next.length) (cap:=nc) (i:=i) (o':=no+i) rfl rfl rfl underlying32 zBL qO qO) (zAG rfl rfl qD (cbk hh) (qV (zAI rfl zBP (E.cell (fun f=>f) ad)) (zAG rfl rfl qD (cbk hh) (qM _ rfl (zAG rfl rfl qD (cbk hh) (qV (zAD (b:=b9) (o:=o9) (len:=row.length) (cap:=rc) (i:=x) (o':=o9+x) rfl rfl rfl underlying22 zAy qO qO) (zAG rfl rfl qD (cbk hh) ?_))))))))))))));refine qV (zAI rfl zAo (E.cell (fun f=>f) (am x y hy))) (zAG rfl rfl qD (cbk hh) (qV (zDK rfl rfl) (qV (zAr (v:=(.bool (decide ((0:Int)≤y)))) rfl (by rw[hh];rfl)) (zAB (qC rfl (fun ak=>?_) (fun ak=>?_))))))
    ·obtain ⟨t,rfl⟩:=Int.eq_ofNat_of_zero_le ak;refine zAA (qM _ rfl (qF bd 0 2 rfl underlying34 rfl zBu rfl (qV (zAI rfl zBi (Bd.cell rfl)) (qM _ rfl (qV (zAD (b:=nb) (o:=no) (len:=b.next.length) (cap:=nc) (i:=i) (o':=no+i) rfl rfl rfl underlying32 zBL qO qO) (qV (zAI rfl zBP (E.cell (fun f=>f) ad)) (qM _ rfl (qV (zAD (b:=b9) (o:=o9) (len:=row.length) (cap:=rc) (i:=x) (o':=o9+x) rfl rfl rfl underlying22 zAy qO qO) (qV (zAI rfl zAo (E.cell (fun f=>f) (am x _ hy))) (qE rfl (zAQ func178 kQ kQ rfl) (zTY _ b.next.length g t _ qO hG qO) ?_))))))))));rintro _ w29 ⟨rfl,al,an⟩;replace Bd:=al.keep qO Bd;replace E:=E.step al (by intro x hx hm;omega);obtain ⟨ae,af⟩:=zRu (b:=b) (k:=k) (x:=x) (s:=i) (t:=t) hh ao;rw[ae] at an;refine zAB (zAF (qA _ rfl (zAB (zAR (zAC (zAF (qV (zAv rfl rfl (zBb qO)) (qM _ rfl (zAB (zAC ?_))))))))));exact ⟨b.next.length - (i+1),qO,i+1,true,zAz.out ⟨rfl,rfl,rfl,rfl,rfl,rfl,rfl,trivial⟩,E,Bd,an,qO,af.symm,rfl⟩
    ·obtain ⟨ae,af⟩:=zPx (b:=b) (k:=k) (x:=x) (s:=i) (.inr (by rw[ao];omega));rw[←ae] at hG;refine zAO (zAR (zAC (zAF (qV (zAv rfl rfl (zBb qO)) (qM _ rfl (zAB (zAC ?_)))))));exact ⟨b.next.length - (i+1),qO,i+1,sm,zAz.out ⟨rfl,rfl,rfl,rfl,rfl,rfl,rfl,trivial⟩,E,Bd,hG,qO,(by rw[af];exact ah),rfl⟩
   ·have aw:=hh;obtain ⟨ae,af⟩:=zPx (b:=b) (k:=k) (x:=x) (s:=i) (.inl hh);rw[←ae] at hG;refine zAM rfl rfl qD (v:=.bool false) (cbk hh) (Or.inl rfl) (zAM rfl rfl qD (v:=.bool false) (cbk hh) (Or.inl rfl) (zAM rfl rfl qD (v:=.bool false) (cbk hh) (Or.inl rfl) (zAM rfl rfl qD (v:=.bool false) (cbk hh) (Or.inl rfl) (zAM rfl rfl qD (v:=.bool false) (cbk hh) (Or.inl rfl) (zAM rfl rfl qD (v:=.bool false) (cbk hh) (Or.inl rfl) (zAM rfl rfl qD (v:=.bool false) (cbk hh) (Or.inl rfl) (zAM rfl rfl qD (v:=.bool false) (cbk hh) (Or.inl rfl) (zAM rfl rfl qD (v:=.bool false) (cbk hh) (Or.inl rfl) (qV (zAr (v:=(.bool false)) rfl (by rw[hh];rfl)) (zAB (zAP rfl (zAO (zAR (zAC (zAF (qV (zAv rfl rfl (zBb qO)) (qM _ rfl ?_)))))))))))))))));refine zAB (zAC ?_);exact ⟨b.next.length - (i+1),qO,i+1,sm,zAz.out ⟨rfl,rfl,rfl,rfl,rfl,rfl,rfl,trivial⟩,E,Bd,hG,qO,(by rw[af];exact ah),rfl⟩
  ·have ay:i=b.next.length:=qO
   subst ay;refine zAn (zAT (zAT (zAg (zAC (zAA (qM _ rfl (qM _ rfl (qA _ rfl (qA _ rfl (zAB (zAV (zCO results182 (v:=(.slice (some ⟨g,0,none⟩) ((b.next.length+7) / 8) ((b.next.length+7) / 8))) (v':=(.bool sm)) rfl rfl ?_))))))))))));subst ah;exact ⟨⟨g,rfl,hG,ap⟩,E⟩
end Go.Proofs
namespace Go.Eng
open Go
abbrev Plc:=Int×ByteArray
def zQJ (p:Plc):Value:=.agg #[.int .i64 p.1,.string p.2]
theorem zRU (k:Plc):Instr.sameBits 10000 (zQJ k) (zQJ k)=true:=by
 show Instr.sameBits (9999+1) (.agg _) (.agg _)=true;simp[Instr.sameBits,(MapKept.bytes_beq k.2 k.2).2 rfl]
theorem zXP {P : Program} {t e f : TypeId} {n1 n2 p1 p2 g1 g2 : String} {m1 m2 : Bool} {o1 o2 : Nat} (hu : P.underlying t = some (.struct #[⟨n1, e, 0, m1, p1, g1, o1⟩, ⟨n2, f, 1, m2, p2, g2, o2⟩])) (hs : P.stoodInHeld t = false) (he : P.underlying e = some (.int .i64)) (hf' : P.underlying f = some .string) (h1 : n1 ≠ "_") (h2 : n2 ≠ "_") (w : World) (a b : Plc) :
  (Op.equal t (zQJ a) (zQJ b)).run P w=.ok (decide (a=b)) w:=by
 have hp:P.plainKey e=true:=by simp[Program.plainKey,he]
 have aa:P.plainKey f=true:=by simp[Program.plainKey,hf']
 have hf:P.fieldsOf t=#[⟨n1,e,0,m1,p1,g1,o1⟩,⟨n2,f,1,m2,p2,g2,o2⟩]:=by simp[Program.fieldsOf,hu]
 have hq:∀(d:Nat) (x y:Int),(Op.equalIn (d+1) e (.int .i64 x) (.int .i64 y)).run P w=.ok (x == y) w:=fun d x y=>by
  simp[Op.equalIn,run_underlying he]
 have hr:∀(d:Nat) (x y:ByteArray),(Op.equalIn (d+1) f (.string x) (.string y)).run P w=.ok (x == y) w:=fun d x y=>by
  simp[Op.equalIn,run_underlying hf']
 show (Op.equalIn (9999+1) t (.agg _) (.agg _)).run P w=_;rw[run_equalIn_struct w 9999 t _ _ (by rw[hf];exact hu) hs,hf];obtain ⟨a1,a2⟩:=a;obtain ⟨b1,b2⟩:=b;have q0:∀(x:Int) (y:ByteArray),(part e #[.int .i64 x,.string y] 0).run P w=.ok (.int .i64 x) w:=fun x y=>run_part_plain w hp rfl;have q1:∀(x:Int) (y:ByteArray),(part f #[.int .i64 x,.string y] 1).run P w=.ok (.string y) w:=fun x y=>run_part_plain w aa rfl;have b':∀x y:Int,(x == y)=decide (x=y):=fun x y=>by rw[Bool.eq_iff_iff];simp
 have c':∀x y:ByteArray,(x == y)=decide (x=y):=fun x y=>by rw[Bool.eq_iff_iff,MapKept.bytes_beq];simp
 simp only[Op.eqFields,h1,h2,ne_eq,not_false_eq_true,if_true,Sem.run_bind,q0,Result.andThen_ok,hq 9998,b',Prod.mk.injEq];by_cases e1:a1=b1
 ·by_cases e2:a2=b2<;>simp[e1,e2,q1,hr 9998,c']
 ·simp[e1]
end Go.Eng
