/- Contracts and plain lemmas, part 3. -/
import Derived.Test.YtllhcafmcbibbaaGreatZy2
open Go.Proofs.Tryz
set_option maxHeartbeats 16000000
namespace Go.Proofs
open Go Go.Eng Go.Sort
set_option maxRecDepth 100000
def Us (k:ByteArray):List Value:=[.string k]
theorem G8 {α:Type} {a:α->List Value} {sz:Nat} (d:∀k,(a k).length=sz) {w:World} {b:Nat}:∀{l:List α} {o i:Nat} {k:α},BA w b o (l.map a).flatten->l[i]?=some k->BA w b (o+i*sz) (a k)
 | [],_,_,_,_,h=>by simp at h
 | q::l,o,0,k,h,hi=>by
  simp at hi;subst hi;intro j v c;rw[Nat.zero_mul,Nat.add_zero];exact h j v (by rw[List.map_cons,List.flatten_cons,List.getElem?_append_left (AG c)];exact c)
 | q::l,o,i+1,k,h,hi=>by
  have e:BA w b (o+sz) (l.map a).flatten:=λj v c=>by
   have:=h (sz+j) v (by rw[List.map_cons,List.flatten_cons,List.getElem?_append_right (by rw[d];omega),d,show sz+j - sz=j by omega];exact c)
   rwa [<-Nat.add_assoc] at this
  have:=G8 d e (i:=i) (k:=k) (by simpa using hi)
  rwa [show o+(i+1)*sz=o+sz+i*sz by rw[Nat.add_mul];omega]
def VX {α:Type} (c:Nat) (stp:α->Nat->Option α) (a0 k:α):Prop:=∃w,C0 c w∧DV stp a0 w=some k
def Uo (base:Nat) (D:Dfa) (r:Value) (w:World):Prop:=∃ea ec na nc vs,r=.agg #[.int .i64 D.start,.slice ea D.accept.length ec,.slice na D.next.length nc]∧OutSt w base (.slice ea D.accept.length ec) (.slice na D.next.length nc) vs D.accept D.next
structure ExpOf {α:Type} (c most:Nat) (stp:α->Nat->Option α) (acc:α->Int) (a0:α) (D:Dfa):Prop where
 ok:OkD D.next.length c D
 most:D.next.length<=most
 start:D.start=0
 beh:∀w,C0 c w->beh D 0 w=OD stp acc a0 w
 acc:∀x∈D.accept,x<2147483648
def Lh {α:Type} (c most:Nat) (stp:α->Nat->Option α) (acc:α->Int) (first:α) (base:Nat) (r:Value) (w:World):Prop:=
 (Ge c stp first most∧∃D v,(∀mx,Ge c stp first mx->ExpOf c mx stp acc first D)∧r=.tuple #[v,.bool true]∧Uo base D v w)∨(¬Ge c stp first most∧r=.tuple #[.agg #[.int .i64 0,.slice none 0 0,.slice none 0 0],.bool false])
theorem OutSt.low {w:World} {base b:Nat} {E N:Value} {vs:List Value} {acc:List Int} {rows:List (List Int)} (h:OutSt w base E N vs acc rows) (a:b<=base):OutSt w b E N vs acc rows:=
 ⟨Dc h.e a,⟨Dc h.n.o a,h.n.len,λi v p c d=>Dc (h.n.inn i v p c d) a,h.n.apo⟩,h.en,h.ei⟩
theorem TA (w0:World) (first:ByteArray) (c most:Nat) (sv av:Value) (stp:ByteArray→Nat→Option ByteArray) (acc:ByteArray→Int) (hc:1≤c∧c≤16) (hm:1≤most∧most≤20000) (hac:∀k,VX c stp first k→-1≤acc k∧acc k<2147483648)
  (hs:∀w k x,Al w0 w→VX c stp first k→x<c→CQ prog sv #[.string k,.int .i64 ((x:Nat):Int)] w fun r w'=>(∃q,r=.tuple #[.string q,.bool (stp k x).isSome]∧∀b,stp k x=some b→q=b)∧Al w w')
  (ha:∀w k,Al w0 w→VX c stp first k→CQ prog av #[.string k] w fun r w'=>r=.int .i64 (acc k)∧Al w w') :
  CB prog 237 #[.string first,.int .i64 ((c:Nat):Int),sv,av,.int .i64 ((most:Nat):Int)] w0 fun r w=>Lh c most stp acc first w0.heap.size r w∧Al w0 w:=by
 have cw:∀k,(Us k).length=1:=fun _=>rfl;refine qR func237 rfl ntmps237 rfl (fun E=>(Y (By (c:=#[(I6 0),(.slice none 0 0),(.slice none 0 0)]) qD Ce rfl ?_)));intro br wr Nr;have Fr:=Nr.ge E;replace E:=E.ext Nr.ext;have Br:=Nr.blk;refine qA (.bool false) rfl (AA (Y (qM (.string first) rfl (Ah (ps:=[(0,(.string first))]) (c:=#[(.string first)]) qD rfl underlying276 PO SA qD qD qK ?_))));intro bs ws Ns;have Fs:=Ns.ge E;have Os_br:=Ns.lt Br;replace Br:=Ns.keep Br;replace E:=E.ext Ns.ext;have Bs:=Ns.blk;refine qA (.slice (some ⟨bs,0,none⟩) 1 1) rfl (AA (Y (EB GI Cd qD ?_)));intro bm wm Nm;have Fm:=Nm.ge E;have Om_br:=Nm.lt Br;have Om_bs:=Nm.lt Bs;replace Br:=Nm.keep Br;replace Bs:=Nm.keep Bs;replace E:=E.ext Nm.ext;intro Mm;refine qM (.string first) rfl (HH (k:=first) (v:=0) underlying161 (GQ underlying9) Mm rfl rfl rfl ?_);intro w1 S1 H1;replace Br:=S1.keep qO Br;replace Bs:=S1.keep qO Bs;replace E:=S1.step E qQ;replace Mm:=H1;refine qM (.map (some bm)) rfl (qA (.map (some bm)) rfl (AA (Y (By (c:=#[(I6 0),(.slice none 0 0),(.slice none 0 0)]) qD Ce rfl ?_))));intro bd wd Nd;have Fd:=Nd.ge E;have Od_br:=Nd.lt Br;have Od_bs:=Nd.lt Bs;have Od_bm:=Nd.ltM Mm;replace Br:=Nd.keep Br;replace Bs:=Nd.keep Bs;replace Mm:=Nd.keepM Mm;replace E:=E.ext Nd.ext;have Bd:=Nd.blk;refine AA (AI (Y (qA (I6 0) rfl (AA (AO ?_)))));obtain ⟨n1,dg⟩:∃n1,n1=bs:=⟨_,rfl⟩;obtain ⟨n2,aq⟩:∃n2,n2=(wd).heap.size:=⟨_,rfl⟩;have dw:br<n2∧bs<n2∧bm<n2∧bd<n2:=⟨by rw[aq];exact Br.lt,by rw[aq];exact Bs.lt,by rw[aq];exact Mm.lt,by rw[aq];exact Bd.lt⟩;have ch:w0.heap.size≤n1∧w0.heap.size≤n2:=qO
 have c1:(wd).ownsRow n1 9 1 (.slice (some ⟨bs,0,none⟩) 1 1) 1 ([first].map Us).flatten:=FL (base:=n1) Bs qO;refine Ap (fun nn_ σ W2=>∃(i:Nat) (ab:List (List Int)) (ks:List ByteArray) (ac:List Int) (vs:List Value) (sa ea ag:Option Addr) (ae sn ec af:Nat),(∃jj_,σ=BK jj_ [(1,(I6 (c:Int))),(2,sv),(3,av),(4,(I6 (most:Int))),(10,(P6 br 0)),(13,(.map (some bm))),(14,(P6 bd 0)),(15,(I6 (i:Int))),(12,(.slice sa sn ae))])∧Chg Ab w0 W2∧Az W2 br #[(I6 0),(.slice none 0 0),(.slice none 0 0)] 48∧BZ W2 bm GI Cd (Cb ks 0)∧Az W2 bd (#[Value.int .i64 0,.slice ea i ec,.slice ag i af]) 48∧(ExpP c stp first ks ab [])∧(ab.length=i)∧(ks.length≤most)∧(sn=ks.length)∧(i≤sn)∧(ac=(ks.take i).map acc)∧(W2.ownsRow n1 9 1 (.slice sa sn ae) sn (ks.map Us).flatten)∧(OutSt W2 n2 (.slice ea i ec) (.slice ag i af) vs ac ab)∧(∀b,(Value.slice sa sn ae).ownBlock=some b→¬Eb (.slice ea i ec) (.slice ag i af) vs b∧b≠bm∧b≠bd)∧(n2≤W2.heap.size)∧nn_=most - i) (n:=most - 0) ?_ ?_
 ·exact ⟨0,[],[first],[],[],some ⟨bs,0,none⟩,none,none,1,1,0,0,Ac.out ⟨rfl,rfl,rfl,rfl,rfl,rfl,rfl,rfl,rfl,trivial⟩,E,Br,Mm,Bd,ExpP.start _ _ _,rfl,hm.1,rfl,qO,rfl,c1,OutSt.start _ _,(fun b hb=>⟨(fun h=>by rcases h with h|h|⟨i,v,h,_⟩;cases h;cases h;simp at h),(by have df:bs=b:=Option.some.inj hb;omega),(by have df:bs=b:=Option.some.inj hb;omega)⟩),qO,rfl⟩
 ·clear E Br Mm Bd;rintro _ _ W2 ⟨i,ab,ks,ac,vs,sa,ea,ag,ae,sn,ec,af,⟨j2,rfl⟩,E,Br,Mm,Bd,hC,bj,a2,bc,c8,a0,hS,hO,ah,ak,rfl⟩;refine AI (Y (qM (I6 (i:Int)) rfl (qM (.slice sa sn ae) rfl (qV (AL (ad:=sa) (n:=sn) (cap:=ae) underlying276 rfl) (qV (A0 (k:=.i64) (a:=(i:Int)) (b:=(sn:Int)) rfl rfl) (AA (qC rfl (fun dm=>?_) (fun dm=>?_))))))))
  ·obtain ⟨k,al⟩:=AK (l:=ks) (i:=i) qO;have cx:=hC.rch k (List.mem_of_getElem? al);obtain ⟨sb,rfl,d0,hsc⟩:=BS hS qO;obtain ⟨z0,hz0⟩:∃z0,z0=(W2).heap.size:=⟨_,rfl⟩;have ed:n2≤z0:=qO
   have bp:∀b,Eb (.slice ea i ec) (.slice ag i af) vs b→b<z0:=fun b hb=>by have:=(hO.lt hb).2;omega
   have c4:∀b,(Value.slice (some ⟨sb,0,none⟩) sn ae).ownBlock=some b→b<z0:=fun b hb=>by have:=(hS.lt b hb).2;omega
   refine AM (AB (AI (AO (Y (qM (I6 (c:Int)) rfl (Dx (n:=c) (z:=(I6 0)) (bytes:=8) qD underlying22 Ad Dj BY rfl rfl rfl qO qO ?_))))));intro bq wq Nq;have Fq:=Nq.ge E;have Oq_br:=Nq.lt Br;have Oq_bm:=Nq.ltM Mm;have Oq_bd:=Nq.lt Bd;replace Br:=Nq.keep Br;replace Mm:=Nq.keepM Mm;replace Bd:=Nq.keep Bd;replace hS:=Am hS Nq.ext;replace hO:=hO.ext Nq.ext;replace ak:=Nat.le_trans ak Nq.ext.size;replace E:=E.ext Nq.ext;have Bq:=Nq.blk;refine qA (.slice (some ⟨bq,0,none⟩) c c) rfl (AA (AI (Y (qM (I6 (c:Int)) rfl (qM (I6 0) rfl (AA (AO ?_)))))));have hqz:z0≤bq:=by have:=Nq.eq;omega
   rw[show List.replicate c (Value.int .i64 0)=(List.replicate c (0:Int)).map (Value.int .i64) by simp] at Bq;refine Ap (fun nn_ σ W4=>∃(x:Nat) (R:List Int) (ks:List ByteArray) (sa:Option Addr) (ae sn:Nat),(∃jj_,σ=BK jj_ [(1,(I6 (c:Int))),(2,sv),(3,av),(4,(I6 (most:Int))),(10,(P6 br 0)),(13,(.map (some bm))),(14,(P6 bd 0)),(15,(I6 (i:Int))),(16,(.slice (some ⟨bq,0,none⟩) c c)),(35,(I6 (c:Int))),(36,(I6 (x:Int))),(12,(.slice sa sn ae))])∧Chg Ab w0 W4∧Az W4 br #[(I6 0),(.slice none 0 0),(.slice none 0 0)] 48∧BZ W4 bm GI Cd (Cb ks 0)∧Az W4 bd (#[Value.int .i64 0,.slice ea i ec,.slice ag i af]) 48∧Az W4 bq ((R.map (Value.int .i64)).toArray) 3∧(x≤c)∧(R.length=c)∧(ExpP c stp first ks ab (R.take x))∧(ks.length≤most)∧(ks[i]?=some k)∧(sn=ks.length)∧((ks.take i).map acc=ac)∧(W4.ownsRow n1 9 1 (.slice sa sn ae) sn (ks.map Us).flatten)∧(OutSt W4 n2 (.slice ea i ec) (.slice ag i af) vs ac ab)∧(∀b,(Value.slice sa sn ae).ownBlock=some b→¬Eb (.slice ea i ec) (.slice ag i af) vs b∧b≠bm∧b≠bd∧b≠bq)∧(n2≤W4.heap.size)∧nn_=c - x) (n:=c - 0) ?_ ?_
   ·exact ⟨0,List.replicate c 0,ks,some ⟨sb,0,none⟩,ae,sn,Ac.out ⟨rfl,rfl,rfl,rfl,rfl,rfl,rfl,rfl,rfl,rfl,rfl,rfl,trivial⟩,E,Br,Mm,Bd,Bq,Nat.zero_le _,qP,(by simpa using hC),a2,al,bc,a0.symm,hS,hO,(fun b hb=>⟨(ah b hb).1,(ah b hb).2.1,(ah b hb).2.2,fun e=>by have:=c4 b hb;omega⟩),ak,rfl⟩
   ·clear E Br Mm Bd Bq;rintro _ _ W4 ⟨x,R,ks,sa,ae,sn,⟨j4,rfl⟩,E,Br,Mm,Bd,Bq,hx,bh,hC,a2,al,bc,bx,hS,hO,ah,ak,rfl⟩;refine Y (qV (A0 (k:=.i64) (a:=(x:Int)) (b:=(c:Int)) rfl rfl) (AA (AI (qC rfl (fun cl=>?_) (fun cl=>?_)))))
    ·obtain ⟨aj,rfl,_,bb⟩:=BS hS (by have:=AG al;omega);have c2:i<sn:=by have:=AG al;omega
     have b6:(W4).cell? ⟨aj,0+i,none⟩=some (.string k):=by have h9:=G8 cw bb al 0 _ rfl;rwa [Nat.mul_one,Nat.add_zero] at h9
     refine AM (AB (AI (AO (Y (qM (I6 (x:Int)) rfl (qA (I6 (x:Int)) rfl (AA (Y (qM sv rfl (qM (.slice (some ⟨aj,0,none⟩) sn ae) rfl (qM (I6 (i:Int)) rfl (qV (AC (b:=aj) (o:=0) (len:=sn) (cap:=ae) (i:=i) (o':=0+i) rfl rfl rfl underlying276 PO qO qO) (qV (AE (v:=(.string k)) rfl MY (b6)) (qM (I6 (x:Int)) rfl (DU (fv:=sv) (vs:=[(.string k),(I6 (x:Int))]) qD rfl rfl (hs _ k x E cx qO) ?_)))))))))))))));rintro _ w9 ⟨⟨q,rfl,hq⟩,X9⟩;replace Br:=X9.keep Br;replace Mm:=X9.keepM Mm;replace Bd:=X9.keep Bd;replace Bq:=X9.keep Bq;replace E:=E.ext X9;have hS:=Am hS X9;have hO:=hO.ext X9;have ak:=Nat.le_trans ak X9.size;have a5:(R.take x).length=x:=by simp;omega
     have a8:ks[ab.length]?=some k:=by rw[bj];exact al
     have di:=DA (L:=R) (s:=x) (x:=-1) qO;refine qM (.tuple #[(.string q),(.bool ((stp k x).isSome))]) rfl (qV (Aj (vs:=#[(.string q),(.bool ((stp k x).isSome))]) (v:=(.string q)) rfl rfl) (qV (Aj (vs:=#[(.string q),(.bool ((stp k x).isSome))]) (v:=(.bool ((stp k x).isSome))) rfl rfl) (qA (.string q) rfl (qA (.bool ((stp k x).isSome)) rfl (AA (AI (Y (qM (.slice (some ⟨bq,0,none⟩) c c) rfl (qM (I6 (x:Int)) rfl (qV (AC (b:=bq) (o:=0) (len:=c) (cap:=c) (i:=x) (o':=0+x) rfl rfl rfl underlying22 Ad qO qO) (A9 (b:=bq) (o:=0+x) (c':=((R.set x (-1)).map (Value.int .i64)).toArray) (v:=(I6 (-1))) rfl rfl rfl Ad Bq (by simp;omega) (DC _) ?_)))))))))));intro w6 S6;replace hS:=Av hS S6.chg fun b hb h=>(ah b hb).2.2.2 h;replace hO:=hO.chg S6.chg fun b hb h=>by have:=bp b hb;have h':b=bq:=h;omega
     replace ak:=Nat.le_trans ak S6.chg.size;replace Br:=S6.keep qO Br;replace Mm:=S6.keepM qO Mm;replace Bd:=S6.keep qO Bd;replace E:=S6.step E qQ;replace Bq:=S6.blk;refine AA (Y (qM (.bool ((stp k x).isSome)) rfl (qV (CM (b:=(stp k x).isSome) rfl) (AA (As (b:=!((stp k x).isSome)) rfl (fun au=>?_) (fun au=>?_))))))
     ·have cm:=au;replace au:=by simpa using au
      have ca:stp k x=none:=by simpa using au
      have d5:HC stp ks k (R.take x).length (-1):=by unfold HC;rw[a5,ca]
      refine Ak (AP (Ae (AB (AJ (qV (Ar (k:=.i64) (a:=(x:Int)) (b:=1) (c:=(x:Int)+1) rfl rfl (A5 qO)) (qM (I6 ((x:Int)+1)) rfl (AA (AB ?_))))))));exact ⟨c - (x+1),qO,x+1,R.set x (-1),ks,some ⟨aj,0,none⟩,ae,sn,Ac.out ⟨rfl,rfl,rfl,rfl,rfl,rfl,rfl,rfl,rfl,rfl,rfl,rfl,trivial⟩,E,Br,Mm,Bd,Bq,qO,(by simp[bh]),(by rw[di];exact hC.add a8 d5),a2,al,bc,bx,hS,hO,ah,ak,rfl⟩
     ·have cm:=au;replace au:=by simpa using au
      obtain ⟨q',b4⟩:=Option.isSome_iff_exists.1 (show (stp k x).isSome=true by simpa using au);have d1:=hq q' b4;subst d1;refine AM (AB (Y (qM (.map (some bm)) rfl (qM (.string q) rfl (BV (v:=(.tuple #[(I6 ((A3 (Cb ks 0) q).getD 0)),(.bool ((A3 (Cb ks 0) q).isSome))])) rfl rfl qD (FK (k:=q) (z:=0) underlying161 (GQ underlying9) BY Mm rfl rfl) (qM (.tuple #[(I6 ((A3 (Cb ks 0) q).getD 0)),(.bool ((A3 (Cb ks 0) q).isSome))]) rfl (qV (Aj (vs:=#[(I6 ((A3 (Cb ks 0) q).getD 0)),(.bool ((A3 (Cb ks 0) q).isSome))]) (v:=(I6 ((A3 (Cb ks 0) q).getD 0))) rfl rfl) (qV (Aj (vs:=#[(I6 ((A3 (Cb ks 0) q).getD 0)),(.bool ((A3 (Cb ks 0) q).isSome))]) (v:=(.bool ((A3 (Cb ks 0) q).isSome))) rfl rfl) (qA (I6 ((A3 (Cb ks 0) q).getD 0)) rfl (qA (.bool ((A3 (Cb ks 0) q).isSome)) rfl (AA (Ex (fun σ W8=>∃(ar:List ByteArray) (j:Nat) (bv:Option Addr) (bn a9:Nat),(∃jj_,σ=BK jj_ [(1,(I6 (c:Int))),(2,sv),(3,av),(4,(I6 (most:Int))),(10,(P6 br 0)),(13,(.map (some bm))),(14,(P6 bd 0)),(15,(I6 (i:Int))),(16,(.slice (some ⟨bq,0,none⟩) c c)),(17,(I6 (x:Int))),(35,(I6 (c:Int))),(36,(I6 (x:Int))),(12,(.slice bv a9 bn)),(20,(I6 (j:Int)))])∧Chg Ab w0 W8∧Az W8 br #[(I6 0),(.slice none 0 0),(.slice none 0 0)] 48∧BZ W8 bm GI Cd (Cb ar 0)∧Az W8 bd (#[Value.int .i64 0,.slice ea i ec,.slice ag i af]) 48∧Az W8 bq (((R.set x (-1)).map (Value.int .i64)).toArray) 3∧(ExpP c stp first ar ab (R.take x++[(j:Int)]))∧(ar.length≤most)∧(ar[i]?=some k)∧(a9=ar.length)∧((ar.take i).map acc=ac)∧(W8.ownsRow n1 9 1 (.slice bv a9 bn) a9 (ar.map Us).flatten)∧(OutSt W8 n2 (.slice ea i ec) (.slice ag i af) vs ac ab)∧(∀b,(Value.slice bv a9 bn).ownBlock=some b→¬Eb (.slice ea i ec) (.slice ag i af) vs b∧b≠bm∧b≠bd∧b≠bq)∧(n2≤W8.heap.size)) ?_ ?_))))))))))))
      ·skip
       refine Y (qM (.bool ((A3 (Cb ks 0) q).isSome)) rfl (qV (CM (b:=(A3 (Cb ks 0) q).isSome) rfl) (AA (As (b:=!((A3 (Cb ks 0) q).isSome)) rfl (fun ai=>?_) (fun ai=>?_)))))
       ·have bu:=ai;replace ai:=by simpa using ai
        have dd:A3 (Cb ks 0) q=none:=by simpa using ai
        obtain ⟨b8,ce⟩:=NP dd;have cd:=hC.new a8 qO (by rw[a5];exact b4) b8;refine Y (qM (.slice (some ⟨aj,0,none⟩) sn ae) rfl (qV (AL (ad:=some ⟨aj,0,none⟩) (n:=sn) (cap:=ae) underlying276 rfl) (qA (I6 (sn:Int)) rfl (AA (AI (Y (qM (I6 (sn:Int)) rfl (qM (I6 (most:Int)) rfl (qV (BF (k:=.i64) (a:=(sn:Int)) (b:=(most:Int)) rfl rfl) (AA (qC rfl (fun bt=>?_) (fun bt=>?_))))))))))))
        ·refine Y (qV (B' (ps:=[]) (v:=(.agg #[(I6 0),(.slice none 0 0),(.slice none 0 0)])) rfl qK) (A8 (b:=br) (o:=0) (c':=#[(I6 0),(.slice none 0 0),(.slice none 0 0)]) rfl rfl qS Aw rfl Br qL rfl ?_));intro w11 bi;replace Mm:=bi.keepM qO Mm;replace Bd:=bi.keep qO Bd;replace Bq:=bi.keep qO Bq;replace E:=bi.step E qQ;replace Br:=bi.blk;refine qA (.bool false) rfl (AA (AS (AU (AU (A1 (AU (AU (A1 (AU (A1 (AU (AU (A1 (AU (DJ results237 (vs:=[(.int .i64 0),(.slice none 0 0),(.slice none 0 0)]) (b:=br) (v':=(.bool false)) rfl BB Aw rfl (Br.cells rfl) rfl ?_)))))))))))))));exact ⟨.inr ⟨fun hF=>by have h9:=hF _ cd.nd cd.rch;rw[List.length_append,List.length_singleton] at h9;omega,rfl⟩,E⟩
        ·refine AM (AB (Y (qM (.map (some bm)) rfl (qM (.string q) rfl (qM (I6 (sn:Int)) rfl (Dk (k:=q) (v:=(sn:Int)) underlying161 (GQ underlying9) Mm rfl rfl rfl ?_))))));intro w12 a3 dp;replace hS:=Av hS a3.chg fun b hb h=>(ah b hb).2.1 h;replace hO:=hO.chg a3.chg fun b hb h=>by have:=(hO.lt hb).1;have h':b=bm:=h;omega
         replace ak:=Nat.le_trans ak a3.chg.size;replace Br:=a3.keep qO Br;replace Bd:=a3.keep qO Bd;replace Bq:=a3.keep qO Bq;replace E:=a3.step E qQ;replace Mm:=dp;refine AA (AJ (qM (.slice (some ⟨aj,0,none⟩) sn ae) rfl (qM (.string q) rfl (Ah (ps:=[(0,(.string q))]) (c:=#[(.string q)]) qD rfl underlying276 PO SA qD qD qK ?_))));intro b13 dv am;have F13:=am.ge E;have O13_br:=am.lt Br;have O13_bm:=am.ltM Mm;have O13_bd:=am.lt Bd;have O13_bq:=am.lt Bq;replace Br:=am.keep Br;replace Mm:=am.keepM Mm;replace Bd:=am.keep Bd;replace Bq:=am.keep Bq;replace hS:=Am hS am.ext;replace hO:=hO.ext am.ext;replace ak:=Nat.le_trans ak am.ext.size;replace E:=E.ext am.ext;have d4:=am.blk;have dx:bq<(dv).heap.size:=Bq.lt;refine BU (base:=n1) (n:=sn) (m:=1) (xs:=(ks.map Us).flatten) (news:=[(.string q)]) (size:=1) (bytes:=16) (v:=(.slice (some ⟨aj,0,none⟩) sn ae)) qD underlying276 PO Vm SA rfl qD rfl hS rfl (rfl) (d4.cells rfl) qS (by unfold maxLen;omega) qO (qO) ?_;intro v7 w59 c0 ba ds;replace Br:=ba.keep (fun h=>by have:=(hS.lt _ h).1;omega) Br;replace Mm:=ba.keepM (fun h=>(ah _ h).2.1 rfl) Mm;replace Bd:=ba.keep (fun h=>(ah _ h).2.2.1 rfl) Bd;replace Bq:=ba.keep (fun h=>(ah _ h).2.2.2 rfl) Bq;replace E:=E.step ba (fun x hx h=>absurd (hS.lt x h).1 qO);obtain ⟨cv,cy,rfl⟩:=BD c0;rw[bc,ce] at Mm;refine qA (.slice cv (sn+1) cy) rfl (AA (AB ?_));exact ⟨ks++[q],sn,cv,cy,sn+1,Ac.out ⟨rfl,rfl,rfl,rfl,rfl,rfl,rfl,rfl,rfl,rfl,rfl,rfl,rfl,rfl,trivial⟩,E,Br,Mm,Bd,Bq,(by rw[bc];exact cd),(by rw[List.length_append,List.length_singleton];omega),(by rw[List.getElem?_append_left (AG al)];exact al),(by simp;omega),(by rw[List.take_append_of_le_length (by have:=AG al;omega)];exact bx),(by rw[List.map_append,List.flatten_append];exact c0),hO.chg ba (fun b hb h=>(ah b h).1 hb),(fun b hb=>by rcases ds b hb with h9|h9;exact ah b h9;exact ⟨fun ho=>by have:=(hO.lt ho).2;omega,qO,qO,qO⟩),Nat.le_trans ak ba.size⟩
       ·have bu:=ai;replace ai:=by simpa using ai
        have dt:(A3 (Cb ks 0) q).isSome=true:=by simpa using ai
        obtain ⟨v9,cs⟩:=Option.isSome_iff_exists.1 dt;obtain ⟨j9,rfl,dn⟩:=Pf cs;rw[show (A3 (Cb ks 0) q).getD 0=((j9:Nat):Int) from by rw[cs];rfl];refine AM (AB ?_);exact ⟨ks,j9,some ⟨aj,0,none⟩,ae,sn,Ac.out ⟨rfl,rfl,rfl,rfl,rfl,rfl,rfl,rfl,rfl,rfl,rfl,rfl,rfl,rfl,trivial⟩,E,Br,Mm,Bd,Bq,hC.add a8 (by unfold HC;rw[a5,b4];exact ⟨j9,rfl,dn⟩),a2,al,bc,bx,hS,hO,ah,ak⟩
      ·clear E Br Mm Bd Bq;rintro _ W8 ⟨ar,j,bv,bn,a9,⟨j8,rfl⟩,E,Br,Mm,Bd,Bq,c7,cc,cg,ci,cb,b7,cj,b0,a4⟩;have co:=DA (L:=R.set x (-1)) (s:=x) (x:=((j:Nat):Int)) (by simp;omega);refine AJ (qM (.slice (some ⟨bq,0,none⟩) c c) rfl (qM (I6 (x:Int)) rfl (qM (I6 (j:Int)) rfl (qV (AC (b:=bq) (o:=0) (len:=c) (cap:=c) (i:=x) (o':=0+x) rfl rfl rfl underlying22 Ad qO qO) (A9 (b:=bq) (o:=0+x) (c':=(((R.set x (-1)).set x (j:Int)).map (Value.int .i64)).toArray) (v:=(I6 (j:Int))) rfl rfl rfl Ad Bq (by simp;omega) (DC _) ?_)))));intro w14 ay;replace b7:=Av b7 ay.chg fun b hb h=>(b0 b hb).2.2.2 h;replace cj:=cj.chg ay.chg fun b hb h=>by have:=bp b hb;have h':b=bq:=h;omega
       replace a4:=Nat.le_trans a4 ay.chg.size;replace Br:=ay.keep qO Br;replace Mm:=ay.keepM qO Mm;replace Bd:=ay.keep qO Bd;replace E:=ay.step E qQ;replace Bq:=ay.blk;refine AA (AN (AB (AJ (qV (Ar (k:=.i64) (a:=(x:Int)) (b:=1) (c:=(x:Int)+1) rfl rfl (A5 qO)) (qM (I6 ((x:Int)+1)) rfl (AA (AB ?_)))))));exact ⟨c - (x+1),qO,x+1,(R.set x (-1)).set x ((j:Nat):Int),ar,bv,bn,a9,Ac.out ⟨rfl,rfl,rfl,rfl,rfl,rfl,rfl,rfl,rfl,rfl,rfl,rfl,trivial⟩,E,Br,Mm,Bd,Bq,qO,(by simp[bh]),(by rw[co,List.take_set_of_le (Nat.le_refl x)];exact c7),cc,cg,ci,cb,b7,cj,b0,a4,rfl⟩
    ·have d7:x=c:=qO
     rw[d7,show R.take c=R by rw[←bh,List.take_length]] at hC;obtain ⟨n4,cu⟩:∃n4,n4=(W4).heap.size:=⟨_,rfl⟩;have c2:=AG al;obtain ⟨aj,rfl,_,bb⟩:=BS hS qO;have b6:(W4).cell? ⟨aj,0+i,none⟩=some (.string k):=by have h9:=G8 cw bb al 0 _ rfl;rwa [Nat.mul_one,Nat.add_zero] at h9
     have bw:ac.length=i:=by rw[←bx,List.length_map,List.length_take];omega
     have an:(W4).ownsRow n2 CF 1 (.slice ea i ec) i (ac.map (Value.int .i64)):=by have h9:=hO.e;rwa [bw] at h9
     have ap:(W4).ownsRow n2 CX 1 (.slice ag i af) i vs:=hO.n.on (by rw[List.length_map];omega);have ee:=a2;have du:=Bq.lt;have dk:=Ht (base:=bq) Bq (Nat.le_refl _) bh;refine Ak (AP (AP (Ae (AB ?_))));obtain ⟨b1,aa⟩:∃Fs:List Cy,Fs=[(fun _ v _=>v=(P6 bd 2)),(fun _ v _=>v=(.slice ag i af)),(fun _ v _=>v=(.slice (some ⟨bq,0,none⟩) c c)),(fun _=>Ct CX #[.slice (some ⟨bq,0,none⟩) c c] n4),(fun _=>CW n2 CX 1 (i+1) (vs++[Value.slice (some ⟨bq,0,none⟩) c c]) (.slice ag i af) n4),(fun _ v _=>v=(P6 bd 1)),(fun _ v _=>v=(.slice ea i ec)),(fun _ v _=>v=av),(fun _ v _=>v=(.slice (some ⟨aj,0,none⟩) sn ae)),(fun _ v _=>v=(I6 (i:Int))),(fun _ v _=>v=(.pointer (some ⟨aj,0+i,none⟩))),(fun _ v _=>v=(.string k)),(fun _ v _=>v=(I6 (acc k))),(fun _=>Ct CF #[.int .i64 (acc k)] n4),(fun s v w=>CW n2 CF 1 (i+1) (ac.map (Value.int .i64)++[Value.int .i64 (acc k)]) (.slice ea i ec) n4 v w∧∀b,(s 84).ownBlock=some b→v.ownBlock≠some b),(fun _ v _=>v=(P6 bd 2))]:=⟨_,rfl⟩;refine Hi (two 4 14 (fun b=>(Value.slice ag i af).ownBlock=some b) (fun b=>(Value.slice ea i ec).ownBlock=some b)) 16 [80,81,82,83,84,85,86,87,88,89,90,91,92,93,94,95] [[],[0],[],[2],[1,3],[],[5],[],[],[],[8,9],[10],[4,7,11],[12],[6,12,13],[0,1,2,3,4,5,6]] [[],[0],[],[2],[1,0,3,2],[],[5],[],[],[],[8,9],[10,8,9],[4,1,0,3,2,7,11,10,8,9],[12,4,1,0,3,2,7,11,10,8,9],[6,5,12,4,1,0,3,2,7,11,10,8,9,13],[0,1,2,3,4,5,6]] b1 aa qK mixed qK qK qK ?_ ?_
     ·intro wd X0;refine DagStepsX.cons (BE.eq) (fun _ _ _ _ _ h=>h) (fun s' w' X U H=>?_) ?_
      ·exact AR (AT (b:=bd) (o:=0) (o':=2) (U 14 rfl) underlying48 rfl A' rfl) (Chg.refl _ _) rfl
      refine DagStepsX.cons (BE.eq) (fun _ _ _ _ _ h=>h) (fun s' w' X U H=>?_) ?_
      ·have dl:=H 0 rfl 80 _ rfl (by rw[aa];rfl);exact AR (AE (v:=(.slice ag i af)) dl A4 ((Chg.keep X (fun h=>(fun h=>h.elim (fun h=>by have:=(ap.lt _ h).1;omega) (fun h=>by have:=(an.lt _ h).1;omega)) (C3.or h)) (X0.keep Bd)).cell rfl)) (Chg.refl _ _) rfl
      refine DagStepsX.cons (BE.eq) (fun _ _ _ _ _ h=>h) (fun s' w' X U H=>?_) ?_
      ·exact AR (AZ (v:=(.slice (some ⟨bq,0,none⟩) c c)) (U 16 rfl)) (Chg.refl _ _) rfl
      refine DagStepsX.cons (DB (fun y h=>by have:=(ap.lt y h).2;omega) (fun y h=>by have:=(an.lt y h).2;omega)) (FS.const) (fun s' w' X U H=>?_) ?_
      ·have dr:=H 2 rfl 82 _ rfl (by rw[aa];rfl);exact Cl (hs:=n4) underlying46 Ay DY dr qD qD qK (by have:=X0.size;have:=X.size;omega)
      refine DagStepsX.cons (Hg (fun k hk hm=>hk.elim (fun h=>hO.en k hm h) (fun h=>by have:=(an.lt k hm).2;omega))) (FS.const) (fun s' w' X U H=>?_) ?_
      ·have c9:=H 1 rfl 81 _ rfl (by rw[aa];rfl);obtain ⟨b83,de,d6,g83⟩:=(show ((fun _=>Ct CX #[.slice (some ⟨bq,0,none⟩) c c] n4):Cy) s' (s' 83) w' from H 3 rfl 83 ((fun _=>Ct CX #[.slice (some ⟨bq,0,none⟩) c c] n4)) rfl (by rw[aa];rfl));exact CL (hs:=n4) underlying46 Ay IR DY rfl qD c9 (Am (Am ap X0) (X.mono (fun y _ h=>C3.none rfl rfl h))) de rfl (d6.cells rfl) qS (by unfold maxLen;omega) qO (by have:=X0.size;have:=X.size;omega) (fun y h=>h) (by have:=X0.size;have:=X.size;omega)
      refine DagStepsX.cons (BE.eq) (fun _ _ _ _ _ h=>h) (fun s' w' X U H=>?_) ?_
      ·exact AR (AT (b:=bd) (o:=0) (o':=1) (U 14 rfl) underlying48 rfl Ay rfl) (Chg.refl _ _) rfl
      refine DagStepsX.cons (BE.eq) (fun _ _ _ _ _ h=>h) (fun s' w' X U H=>?_) ?_
      ·have c5:=H 5 rfl 85 _ rfl (by rw[aa];rfl);exact AR (AE (v:=(.slice ea i ec)) c5 Ax ((Chg.keep X (fun h=>(fun h=>h.elim (fun h=>by have:=(ap.lt _ h).1;omega) (fun h=>by have:=(an.lt _ h).1;omega)) (C3.or h)) (X0.keep Bd)).cell rfl)) (Chg.refl _ _) rfl
      refine DagStepsX.cons (BE.eq) (fun _ _ _ _ _ h=>h) (fun s' w' X U H=>?_) ?_
      ·exact AR (AZ (v:=av) (U 3 rfl)) (Chg.refl _ _) rfl
      refine DagStepsX.cons (BE.eq) (fun _ _ _ _ _ h=>h) (fun s' w' X U H=>?_) ?_
      ·exact AR (AZ (v:=(.slice (some ⟨aj,0,none⟩) sn ae)) (U 12 rfl)) (Chg.refl _ _) rfl
      refine DagStepsX.cons (BE.eq) (fun _ _ _ _ _ h=>h) (fun s' w' X U H=>?_) ?_
      ·exact AR (AZ (v:=(I6 (i:Int))) (U 15 rfl)) (Chg.refl _ _) rfl
      refine DagStepsX.cons (BE.eq) (fun _ _ _ _ _ h=>h) (fun s' w' X U H=>?_) ?_
      ·have c3:=H 8 rfl 88 _ rfl (by rw[aa];rfl);have db:=H 9 rfl 89 _ rfl (by rw[aa];rfl);exact AR (AC (b:=aj) (o:=0) (len:=sn) (cap:=ae) (i:=i) (o':=0+i) c3 db rfl underlying276 PO qO qO) (Chg.refl _ _) rfl
      refine DagStepsX.cons (BE.eq) (fun _ _ _ _ _ h=>h) (fun s' w' X U H=>?_) ?_
      ·have eb:=H 10 rfl 90 _ rfl (by rw[aa];rfl);exact AR (AE (v:=(.string k)) eb MY (Chg.cell X (fun h=>(C3.or h).elim (fun h=>(ah _ rfl).1 (.inr (.inl h))) (fun h=>(ah _ rfl).1 (.inl h))) (X0.cell b6))) (Chg.refl _ _) rfl
      refine DagStepsX.cons (BE.eq) (fun _ _ _ _ _ h=>h) (fun s' w' X U H=>?_) ?_
      ·have dj:=H 7 rfl 87 _ rfl (by rw[aa];rfl);have dh:=H 11 rfl 91 _ rfl (by rw[aa];rfl);exact Mw (fv:=av) (vs:=[.string k]) dj (NK dh) ((ha w' k ((E.ext X0).step X (fun y hy h=>(C3.or h).elim (fun h=>by have:=(ap.lt y h).1;omega) (fun h=>by have:=(an.lt y h).1;omega))) cx).mono (fun v w h=>⟨h.1,Al.chg h.2⟩))
      refine DagStepsX.cons (DB (fun y h=>by have:=(ap.lt y h).2;omega) (fun y h=>by have:=(an.lt y h).2;omega)) (FS.const) (fun s' w' X U H=>?_) ?_
      ·have dy:=H 12 rfl 92 _ rfl (by rw[aa];rfl);exact Cl (hs:=n4) underlying22 Ad BY dy qD qD qK (by have:=X0.size;have:=X.size;omega)
      refine DagStepsX.cons (Hf rfl) (fun s1 s2 h v w h2=>⟨h2.1,by have:=h 4 84 rfl rfl;rw[this];exact h2.2⟩) (fun s' w' X U H=>?_) ?_
      ·have d8:=H 6 rfl 86 _ rfl (by rw[aa];rfl);obtain ⟨b93,d3,dz,g93⟩:=(show ((fun _=>Ct CF #[.int .i64 (acc k)] n4):Cy) s' (s' 93) w' from H 13 rfl 93 ((fun _=>Ct CF #[.int .i64 (acc k)] n4)) rfl (by rw[aa];rfl));exact He (H 4 rfl 84 _ rfl (by rw[aa];rfl)) (CL (hs:=w'.heap.size) underlying22 Ad Dj BY rfl qD d8 (Av (Am an X0) (X.mono (fun y _ h=>C3.fst rfl h)) (fun k hk hm=>hO.en k hk hm)) d3 rfl (dz.cells rfl) qS (by unfold maxLen;omega) qO (by have:=X0.size;have:=X.size;omega) (fun y h=>h) (Nat.le_refl _)) (by have:=X0.size;have:=X.size;omega) (fun k h1 h2=>h1.elim (fun h=>hO.en k h2 h) (fun h=>by have:=(an.lt k h2).2;omega))
      refine DagStepsX.cons (BE.eq) (fun _ _ _ _ _ h=>h) (fun s' w' X U H=>?_) ?_
      ·exact AR (AT (b:=bd) (o:=0) (o':=2) (U 14 rfl) underlying48 rfl A' rfl) (Chg.refl _ _) rfl
      exact DagStepsX.nil
     ·intro s' da cq X0 ax U H;replace ax:=ax.mono (M':=fun y=>(fun b=>(Value.slice ag i af).ownBlock=some b) y∨(fun b=>(Value.slice ea i ec).ownBlock=some b) y) (fun y _ h=>by obtain ⟨j,h⟩:=h;rcases Eg h with h|h;exact .inl h.2;exact .inr h.2);obtain ⟨⟨a7,a6,cz⟩,cp,cn⟩:=(show ((fun _=>CW n2 CX 1 (i+1) (vs++[Value.slice (some ⟨bq,0,none⟩) c c]) (.slice ag i af) n4):Cy) s' (s' 84) cq from H 4 84 ((fun _=>CW n2 CX 1 (i+1) (vs++[Value.slice (some ⟨bq,0,none⟩) c c]) (.slice ag i af) n4)) rfl (by rw[aa];rfl));obtain ⟨⟨⟨bg,bf,cr⟩,ct,b2⟩,b9⟩:=(show ((fun s v w=>CW n2 CF 1 (i+1) (ac.map (Value.int .i64)++[Value.int .i64 (acc k)]) (.slice ea i ec) n4 v w∧∀b,(s 84).ownBlock=some b→v.ownBlock≠some b):Cy) s' (s' 94) cq from H 14 94 ((fun s v w=>CW n2 CF 1 (i+1) (ac.map (Value.int .i64)++[Value.int .i64 (acc k)]) (.slice ea i ec) n4 v w∧∀b,(s 84).ownBlock=some b→v.ownBlock≠some b)) rfl (by rw[aa];rfl));have dc:s' 95=(.pointer (some ⟨bd,2,none⟩)):=H 15 95 ((fun _ v _=>v=(.pointer (some ⟨bd,2,none⟩)))) rfl (by rw[aa];rfl);obtain ⟨j15,rfl⟩:=Ac.out (σ:=s') (l:=[(1,(.int .i64 ((c:Nat):Int))),(2,sv),(3,av),(4,(.int .i64 ((most:Nat):Int))),(10,(.pointer (some ⟨br,0,none⟩))),(12,(.slice (some ⟨aj,0,none⟩) sn ae)),(13,(.map (some bm))),(14,(.pointer (some ⟨bd,0,none⟩))),(15,(.int .i64 ((i:Nat):Int))),(84,(.slice a7 (i+1) a6)),(94,(.slice bg (i+1) bf)),(95,(.pointer (some ⟨bd,2,none⟩)))]) ⟨U 1 rfl,U 2 rfl,U 3 rfl,U 4 rfl,U 10 rfl,U 12 rfl,U 13 rfl,U 14 rfl,U 15 rfl,cz,cr,dc,trivial⟩;clear U H;replace Br:=Chg.keep ax (fun h=>h.elim (fun h=>by have:=(ap.lt _ h).1;omega) (fun h=>by have:=(an.lt _ h).1;omega)) (X0.keep Br);replace Mm:=Chg.keepM ax (fun h=>h.elim (fun h=>by have:=(ap.lt _ h).1;omega) (fun h=>by have:=(an.lt _ h).1;omega)) (X0.keepM Mm);replace Bd:=Chg.keep ax (fun h=>h.elim (fun h=>by have:=(ap.lt _ h).1;omega) (fun h=>by have:=(an.lt _ h).1;omega)) (X0.keep Bd);replace Bq:=Chg.keep ax (fun h=>h.elim (fun h=>by have:=bp _ (.inr (.inl h));omega) (fun h=>by have:=bp _ (.inl h);omega)) (X0.keep Bq);have cf:=Chg.trans (Al.chg X0) ax;replace E:=(E.ext X0).step ax (fun y hy h=>h.elim (fun h=>by have:=(ap.lt y h).1;omega) (fun h=>by have:=(an.lt y h).1;omega));rw[cz] at cp cn b9;rw[cr] at ct b2 b9;have be:=hO.push (y:=acc k) (N':=.slice a7 (i+1) a6) (E':=.slice bg (i+1) bf) dk bh.symm qO (fun b hb=>by have:=bp b hb;omega) cf (by rw[bj];exact cp) (fun k hk=>by rw[←cu];exact cn k hk) (by rw[bw,List.map_append];exact ct) (fun k hk=>by rw[←cu];exact b2 k hk) b9;have bz:=Av hS cf (fun b hb h=>h.elim (fun h=>(ah b hb).1 (.inr (.inl h))) (fun h=>(ah b hb).1 (.inl h)));have ao:=Nat.le_trans ak cf.size;have ck:∀b,(Value.slice (some ⟨aj,0,none⟩) sn ae).ownBlock=some b→¬Eb (.slice bg (i+1) bf) (.slice a7 (i+1) a6) (vs++[.slice (some ⟨bq,0,none⟩) c c]) b∧b≠bm∧b≠bd:=fun b hb=>⟨fun ho=>MF ⟨(ah b hb).1,(ah b hb).2.2.2⟩ (by have:=(hS.lt b hb).2;omega) cn b2 ho,(ah b hb).2.1,(ah b hb).2.2.1⟩;refine A9 (b:=bd) (o:=2) (c':=#[(I6 0),(.slice ea i ec),(.slice a7 (i+1) a6)]) (v:=(.slice a7 (i+1) a6)) rfl rfl rfl A' Bd qP rfl ?_;intro w16 a1;replace be:=be.chg a1.chg fun b hb h=>by have:=(be.lt hb).1;have h':b=bd:=h;omega
      replace bz:=Av bz a1.chg fun b hb h=>(ah b hb).2.2.1 h;replace ao:=Nat.le_trans ao a1.chg.size;replace Br:=a1.keep qO Br;replace Mm:=a1.keepM qO Mm;replace Bq:=a1.keep qO Bq;replace E:=a1.step E qQ;replace Bd:=a1.blk;refine qF bd 0 1 rfl underlying48 rfl Ay rfl (A9 (b:=bd) (o:=1) (c':=#[(I6 0),(.slice bg (i+1) bf),(.slice a7 (i+1) a6)]) (v:=(.slice bg (i+1) bf)) rfl rfl rfl Ay Bd qP rfl ?_);intro w17 az;replace be:=be.chg az.chg fun b hb h=>by have:=(be.lt hb).1;have h':b=bd:=h;omega
      replace bz:=Av bz az.chg fun b hb h=>(ah b hb).2.2.1 h;replace ao:=Nat.le_trans ao az.chg.size;replace Br:=az.keep qO Br;replace Mm:=az.keepM qO Mm;replace Bq:=az.keep qO Bq;replace E:=az.step E qQ;replace Bd:=az.blk;refine AA (AN (AB (AJ (qM (I6 (i:Int)) rfl (qV (Ar (k:=.i64) (a:=(i:Int)) (b:=1) (c:=(i:Int)+1) rfl rfl (A5 qO)) (qA (I6 ((i:Int)+1)) rfl (AA (AB ?_))))))));exact ⟨most - (i+1),qO,i+1,ab++[R],ks,ac++[acc k],vs++[.slice (some ⟨bq,0,none⟩) c c],some ⟨aj,0,none⟩,bg,a7,ae,sn,bf,a6,Ac.out ⟨rfl,rfl,rfl,rfl,rfl,rfl,rfl,rfl,rfl,trivial⟩,E,Br,Mm,Bd,hC.rowed bh,(by simp[bj]),a2,bc,qO,(by rw[Eh al,List.map_append,bx];rfl),bz,be,ck,ao,rfl⟩
  ·have c6:i=ks.length:=qO
   have b5:ab.length=ks.length:=qO
   obtain ⟨b3,dq⟩:=hC.done (acc:=acc) b5 (fun k hk=>(hac k (hC.rch k hk)).1);have aw:ac=ks.map acc:=by rw[a0,c6,List.take_length]
   refine Ak (AP (AP (Ae (AB (Y (qV (Aa (vs:=[(I6 0),(.slice ea i ec),(.slice ag i af)]) rfl BB Aw rfl (Bd.cells rfl)) (A8 (b:=br) (o:=0) (c':=#[(I6 0),(.slice ea i ec),(.slice ag i af)]) rfl rfl qS Aw rfl Br qL rfl ?_)))))));intro w18 bo;replace hO:=hO.chg bo.chg fun b hb h=>by have:=(hO.lt hb).1;have h':b=br:=h;omega
   replace Mm:=bo.keepM qO Mm;replace Bd:=bo.keep qO Bd;replace E:=bo.step E qQ;replace Br:=bo.blk;refine qA (.bool true) rfl (AA (AS (DJ results237 (vs:=[(.int .i64 0),(.slice ea i ec),(.slice ag i af)]) (b:=br) (v':=(.bool true)) rfl BB Aw rfl (Br.cells rfl) rfl (⟨.inl ⟨(hC.all b5).mono a2,⟨0,ac,ab⟩,_,fun mx d9=>⟨?_,?_,rfl,?_,?_⟩,rfl,?_⟩,E⟩))))
   ·rw[aw];show OkD ab.length c _;rw[b5];exact b3
   ·show ab.length≤mx;have:=d9 ks hC.nd hC.rch;omega
   ·rw[aw];exact dq
   ·intro x hx;have hx:x∈ac:=hx;rw[aw] at hx;obtain ⟨u,hu,rfl⟩:=List.mem_map.1 hx;exact (hac u (hC.rch u hu)).2
   ·have bk:ac.length=i:=by rw[aw,List.length_map];omega
    exact ⟨ea,ec,ag,af,vs,by show Value.agg #[_,_,_]=.agg #[_,.slice ea ac.length ec,.slice ag ab.length af];rw[bk,bj],by show OutSt _ _ (.slice ea ac.length ec) (.slice ag ab.length af) vs ac ab;rw[bk,bj];exact hO.low ch.2⟩
end Go.Proofs
namespace Go.Proofs
open Go Go.Eng
set_option maxRecDepth 100000
theorem QF {S:Type} (F:S→Re→Bool×S) (Inv:S→World→Prop) (M:Nat→Prop) (bd:Nat) (fv:Value) (wb:World)
    (hM:∀b,M b→wb.heap.size≤b∧b<bd) (hst:∀s w w',Inv s w→Al w w'→Inv s w')
    (hf:∀s w t vs,bd≤w.heap.size→Al wb w→Inv s w→CG wb t vs→CQ prog fv #[.agg vs.toArray] w fun v w'=>v=.bool (F s t).1∧Chg M w w'∧Inv (F s t).2 w') :
    ∀n t,t.size≤n→∀s w0 vs,bd≤w0.heap.size→Al wb w0→Inv s w0→CG wb t vs→
      CB prog 129 #[.agg vs.toArray,fv] w0 fun v w'=>v=.bool (CY F t s).1∧Chg M w0 w'∧Inv (CY F t s).2 w':=by
  have ae:∀{w w':World},Al wb w→Chg M w w'→Al wb w':=fun e c=>Chg.step e c fun x hx hm=>by have:=(hM x hm).1;omega
  intro n
  induction n with
  | zero=>intro t ht;have:=t.size_pos;omega
  | succ n ih=>
  intro t hn s w0 vs hbd hE hI ht;obtain ⟨sa,sc,aa,ac,rfl,ap,am,ah⟩:=ht.form;rw[Ee];refine C7 func129 rfl ntmps129 (LK rfl) ?_;have E:Chg M w0 w0:=Chg.refl _ _;refine Y (BP (v:=(.agg (R6 t sa sc aa ac))) (c:=(R6 t sa sc aa ac)) qD rfl rfl ?_);intro b1 w1 N1;have F1:=N1.ge E;replace hI:=hst _ _ _ hI N1.ext;replace E:=E.ext N1.ext;have B1:=N1.blk;refine qA (.bool false) rfl (AA (AI (Y (qM fv rfl (qV (Aa (vs:=[(I6 t.kind),(.slice sa t.set.length sc),(.slice aa t.args.length ac),(I6 t.mn),(I6 t.mx),(.bool t.neg)]) rfl DK Ca rfl (B1.cells rfl)) (DU (fv:=fv) (vs:=[(.agg (R6 t sa sc aa ac))]) qD rfl rfl (hf s _ t _ (by have:=N1.size;omega) (hE.trans N1.ext) hI ht) ?_))))));rintro _ w2 ⟨rfl,C2,hI⟩;replace B1:=C2.keep (fun h=>by have:=(hM _ h).2;omega) B1;replace E:=E.trans C2;have hE2:Al wb w2:=ae hE E;have z2:bd≤w2.heap.size:=by have:=C2.size;have:=N1.size;omega
  refine qV (CM (b:=(F s t).1) rfl) (AA (As (b:=!((F s t).1)) rfl (fun h=>?_) (fun h=>?_)))
  · have kh:=h;replace h:=by simpa using h
    refine Y (qA (.bool false) rfl (AA (AS (AU (AY results129 (v:=(.bool false)) rfl ?_)))));exact ⟨by rw[if_neg (by simp[h])],E,by rw[if_neg (by simp[h])];exact hI⟩
  · have kh:=h;replace h:=by simpa using h
    rw[if_pos (by simpa using h)];generalize (F s t).2=s1 at hI⊢;refine AM (AB (AI (Y (qF b1 0 2 rfl underlying68 rfl Lt rfl (qV (AE (v:=(.slice aa t.args.length ac)) rfl JW (B1.cell rfl)) (qV (AL (ad:=aa) (n:=t.args.length) (cap:=ac) underlying66 rfl) (qM (I6 0) rfl (AA (AO (Ap (fun nn_ σ W3=>∃(k:Nat) (s':S),(∃jj_,σ=BK jj_ [(1,fv),(12,(.slice aa t.args.length ac)),(13,(I6 (t.args.length:Int))),(14,(I6 (k:Int)))])∧Chg M w0 W3∧Az W3 b1 (R6 t sa sc aa ac) 68∧(k≤t.args.length)∧(bd≤W3.heap.size)∧(Inv s' W3)∧(Cf F t.args s1=Cf F (t.args.drop k) s')∧nn_=t.args.length - k) (n:=t.args.length - 0) ?_ ?_))))))))))
    · exact ⟨0,s1,Ac.out ⟨rfl,rfl,rfl,rfl,trivial⟩,E,B1,Nat.zero_le _,z2,hI,rfl,rfl⟩
    · clear E B1;rintro _ _ W3 ⟨k,s',⟨j3,rfl⟩,E,B1,hk,hz,hI,ab,rfl⟩;refine Y (qV (A0 (k:=.i64) (a:=(k:Int)) (b:=(t.args.length:Int)) rfl rfl) (AA (AI (qC rfl (fun an=>?_) (fun an=>?_)))))
      · have af:k<t.args.length:=qO
        obtain ⟨x,hx⟩:∃x,t.args[k]?=some x:=⟨_,List.getElem?_eq_getElem af⟩;obtain ⟨b,o,rfl,ai⟩:∃b o,aa=some ⟨b,o,none⟩∧DM wb b o t.args:=by
          rcases ah with h|h
          · rw[h] at af;simp at af
          · exact h
        obtain ⟨us,ak,ag⟩:=ai.get hx;have aq:Al wb _:=ae hE E;refine AM (AB (AI (AO (Y (qV (AC (b:=b) (o:=o) (len:=t.args.length) (cap:=ac) (i:=k) (o':=o+k*6) rfl rfl rfl underlying66 Ca qO qO) (qV (Aa (vs:=us) rfl DK Ca ag.len (ak.ext aq)) ?_))))));have hsz:=Re.size_arg hx;refine A6 (v:=(.agg us.toArray)) (c:=us.toArray) (n:=6) qD Lm rfl Ca rfl rfl (by simpa using ag.len) (by simpa using CG.one ag) ?_;intro b5 w5 N5;have F5:=N5.ge E;have O5_b1:=N5.lt B1;replace B1:=N5.keep B1;replace hI:=hst _ _ _ hI N5.ext;replace E:=E.ext N5.ext;have B5:=N5.blk;refine AA (Y (qV (Aa (vs:=us) rfl DK Ca ag.len (B5.cells qP)) (qM fv rfl (qE rfl (AV (vs:=[(.agg us.toArray),fv]) func129 kQ kQ rfl) (ih x qO s' _ us (by have:=N5.size;omega) (ae hE E) hI ag) ?_))));rintro _ w9 ⟨rfl,C9,hI⟩;replace B1:=C9.keep (fun h=>by have:=(hM _ h).2;omega) B1;replace B5:=C9.keep (fun h=>by have:=(hM _ h).2;omega) B5;replace E:=E.trans C9;have al:t.args.drop k=x::t.args.drop (k+1):=by rw[List.drop_eq_getElem_cons af];rw[List.getElem?_eq_getElem af] at hx;cases hx;rfl
        rw[al,DG] at ab;refine qV (CM (b:=(CY F x s').1) rfl) (AA (As (b:=!((CY F x s').1)) rfl (fun h2=>?_) (fun h2=>?_)))
        · have ao:=h2;replace h2:=by simpa using h2
          refine Y (qA (.bool false) rfl (AA (AS (A1 (AU (AU (A1 (AU (AY results129 (v:=(.bool false)) rfl ?_)))))))));exact ⟨by rw[ab,if_neg (by simp[h2])],E,by rw[ab,if_neg (by simp[h2])];exact hI⟩
        · have ao:=h2;replace h2:=by simpa using h2
          rw[if_pos (by simpa using h2)] at ab;refine AM (AN (AB (AJ (qV (Ar (k:=.i64) (a:=(k:Int)) (b:=1) (c:=(k:Int)+1) rfl rfl (A5 qO)) (qM (I6 ((k:Int)+1)) rfl (AA (AB ?_)))))));exact ⟨t.args.length - (k+1),qO,k+1,(CY F x s').2,Ac.out ⟨rfl,rfl,rfl,rfl,trivial⟩,E,B1,qO,(by have:=C9.size;have:=N5.size;omega),hI,ab,rfl⟩
      · have aj:k=t.args.length:=qO
        rw[aj,List.drop_length] at ab;refine Ak (AP (AP (Ae (AB (Y (qA (.bool true) rfl (AA (AS (AY results129 (v:=(.bool true)) rfl ?_)))))))));exact ⟨by rw[ab];rfl,E,by rw[ab];exact hI⟩
end Go.Proofs
namespace Go.Proofs
open Go Go.Eng
set_option maxRecDepth 100000
def DZ (t:Re):Int:=if t.kind<0∨10<t.kind then 1 else if IM t=false then 3 else if t.kind=2 then (if BT t.set≠0 then BT t.set else if (t.set.length:Int)=0 then 3 else 0)
 else if t.kind=6 then (if t.mn<0∨t.mx<t.mn∨8<t.mx then 1 else 0) else if t.kind=9 then (if t.mn<0∨9<t.mn then 1 else 0) else 0
theorem UJ (wb w0:World) (t:Re) (vs:List Value) (ht:CG wb t vs) (hE:Al wb w0) :
 CB prog 170 #[.agg vs.toArray] w0 λv w=>v=.int .i64 (DZ t)∧Al w0 w:=by
 have S:=ht;obtain ⟨x,q,N,P,rfl,L,hlen,hargs⟩:=ht.form;refine qR func170 O ntmps170 O (λE=>(Y (BP (v:=(.agg (R6 t x q N P))) (c:=(R6 t x q N P)) qD O O ?_)));intro h w1 N1;replace E:=E.ext N1.ext;have i:=N1.blk;refine qA (I6 0) O (AA (AI (Y (qF h 0 0 O underlying68 O Ad O (qV (AE (v:=(I6 t.kind)) O Ai (i.cell O)) ?_)))));obtain ⟨j,H⟩:∃e,(decide ((t.kind:Int)<0))=e:=⟨_,O⟩;refine qV ((A0 (k:=.i64) (a:=t.kind) (b:=0) O O).trans (by rw[H];try rfl)) (qM (.bool j) O (qG (.bool j) (nU j (P6 h 0)) (by cases j<;>first|exact gA|exact gB|exact .inl ⟨O,AT (b:=h) (o:=0) (o':=0) O underlying68 O Ad O⟩) (qG (.bool j) (nU j (I6 t.kind)) (by cases j<;>first|exact gA|exact gB|exact .inl ⟨O,AE (v:=(I6 t.kind)) O Ai (i.cell O)⟩) ?_)));obtain ⟨e3,M⟩:∃e,(decide ((10:Int)<t.kind))=e:=⟨_,O⟩;refine qG (.bool j) (nU j (.bool e3)) (by cases j<;>first|exact gA|exact gB|exact .inl ⟨O,(CU (k:=.i64) (a:=t.kind) (b:=10) O O).trans (by rw[M];try rfl)⟩) ?_;obtain ⟨e4,B⟩:∃e,(j || e3)=e:=⟨_,O⟩;refine qV (Ag (b:=j) (v:=.bool e4) O (by rw[<-B];cases j<;>rfl)) (AA ?_);subst B;subst M;subst H;refine As (b:=((decide ((t.kind:Int)<0)) || (decide ((10:Int)<t.kind)))) O (λC=>?_) (λC=>?_)
 .have R:=C;simp at C;refine Y (qA (I6 1) O (AA (AS (AU (AY results170 (v:=(.int .i64 1)) O ?_)))));exact ⟨BJ (by unfold DZ;rw[if_pos qO]),E⟩
 .have R:=C;simp at C;refine AM (AB (AI (Y (qV (Aa (vs:=[(I6 t.kind),(.slice x t.set.length q),(.slice N t.args.length P),(I6 t.mn),(I6 t.mx),(.bool t.neg)]) O DK Ca O (i.cells O)) (qE O (AV (vs:=[(.agg (R6 t x q N P))]) func202 kQ kQ O) (UV wb _ t _ S) ?_)))));rintro _ w9 ⟨rfl,X9⟩;replace i:=X9.keep i;replace E:=E.ext X9;refine qV (CM (b:=IM t) O) (AA (As (b:=!(IM t)) O (λl=>?_) (λl=>?_)))
  .have af:=l;replace l:=by simpa using l
   refine Y (qA (I6 3) O (AA (AS (AU (AY results170 (v:=(.int .i64 3)) O ?_)))));exact ⟨BJ (by unfold DZ;rw[if_neg qO,if_pos l]),E⟩
  .have af:=l;replace l:=by simpa using l
   have hN:DZ t=if t.kind=2 then (if BT t.set≠0 then BT t.set else if (t.set.length:Int)=0 then 3 else 0) else if t.kind=6 then (if t.mn<0∨t.mx<t.mn∨8<t.mx then 1 else 0) else if t.kind=9 then (if t.mn<0∨9<t.mn then 1 else 0) else 0:=by unfold DZ;rw[if_neg qO,if_neg (by simp[l])]
   rw[hN];refine AM (AB (AI (Y (qF h 0 0 O underlying68 O Ad O (qV (AE (v:=(I6 t.kind)) O Ai (i.cell O)) (AA (AO (Y (qV (BF (k:=.i64) (a:=t.kind) (b:=2) O O) (qA (.bool (decide ((t.kind:Int)=2))) O (AA (qC O (λZ=>?_) (λZ=>?_)))))))))))))
   .rw[if_pos Z];refine AI (Y (qF h 0 1 O underlying68 O C4 O (qV (AE (v:=(.slice x t.set.length q)) O DW (i.cell O)) (qE O (AV (vs:=[(.slice x t.set.length q)]) func63 kQ kQ O) (L1 _ _ t.set ((L.ext hE).ext E)) ?_))));rintro _ w10 ⟨rfl,K⟩;replace i:=K.keep i;replace E:=E.ext K;refine qA (I6 (BT t.set)) O (AA (Y (qM (I6 (BT t.set)) O (qV (CE (k:=.i64) (a:=BT t.set) (b:=0) O O) (AA (qC O (λX=>?_) (λX=>?_)))))))
    .refine Y (qM (I6 (BT t.set)) O (qA (I6 (BT t.set)) O (AA (AS (AU (A1 (AU (AY results170 (v:=(.int .i64 (BT t.set))) O ?_))))))));exact ⟨BJ (by rw[if_pos X]),E⟩
    .rw[if_neg X];refine AM (AB (Y (qF h 0 1 O underlying68 O C4 O (qV (AE (v:=(.slice x t.set.length q)) O DW (i.cell O)) (qV (AL (ad:=x) (n:=t.set.length) (cap:=q) underlying37 O) (qV (BF (k:=.i64) (a:=(t.set.length:Int)) (b:=0) O O) (AA (qC O (λV=>?_) (λV=>?_)))))))))
     .refine Y (qA (I6 3) O (AA (AS (A1 (AU (AY results170 (v:=(.int .i64 3)) O ?_))))));exact ⟨BJ (by rw[if_pos V]),E⟩
     .refine AM (AN (AB (Y (qA (I6 0) O (AA (AS (AY results170 (v:=(.int .i64 0)) O ?_)))))));exact ⟨BJ (by rw[if_neg V]),E⟩
   .rw[if_neg Z];refine Y (qV (BF (k:=.i64) (a:=t.kind) (b:=6) O O) (qA (.bool (decide ((t.kind:Int)=6))) O (AA (qC O (λQ=>?_) (λQ=>?_)))))
    .rw[if_pos Q];refine Y (qF h 0 3 O underlying68 O Ad O (qV (AE (v:=(I6 t.mn)) O Ai (i.cell O)) ?_));obtain ⟨d,u⟩:∃e,(decide ((t.mn:Int)<0))=e:=⟨_,O⟩;refine qV ((A0 (k:=.i64) (a:=t.mn) (b:=0) O O).trans (by rw[u];try rfl)) (qM (.bool d) O (qG (.bool d) (nU d (P6 h 3)) (by cases d<;>first|exact gA|exact gB|exact .inl ⟨O,AT (b:=h) (o:=0) (o':=3) O underlying68 O Ad O⟩) (qG (.bool d) (nU d (I6 t.mn)) (by cases d<;>first|exact gA|exact gB|exact .inl ⟨O,AE (v:=(I6 t.mn)) O Ai (i.cell O)⟩) (qG (.bool d) (nU d (P6 h 4)) (by cases d<;>first|exact gA|exact gB|exact .inl ⟨O,AT (b:=h) (o:=0) (o':=4) O underlying68 O Ad O⟩) (qG (.bool d) (nU d (I6 t.mx)) (by cases d<;>first|exact gA|exact gB|exact .inl ⟨O,AE (v:=(I6 t.mx)) O Ai (i.cell O)⟩) ?_)))));obtain ⟨D,s⟩:∃e,(decide ((t.mx:Int)<t.mn))=e:=⟨_,O⟩;refine qG (.bool d) (nU d (.bool D)) (by cases d<;>first|exact gA|exact gB|exact .inl ⟨O,(CU (k:=.i64) (a:=t.mn) (b:=t.mx) O O).trans (by rw[s];try rfl)⟩) ?_;obtain ⟨f,A⟩:∃e,(d || D)=e:=⟨_,O⟩;refine qV (Ag (b:=d) (v:=.bool f) O (by rw[<-A];cases d<;>rfl)) (qM (.bool f) O (qG (.bool f) (nU f (P6 h 4)) (by cases f<;>first|exact gA|exact gB|exact .inl ⟨O,AT (b:=h) (o:=0) (o':=4) O underlying68 O Ad O⟩) (qG (.bool f) (nU f (I6 t.mx)) (by cases f<;>first|exact gA|exact gB|exact .inl ⟨O,AE (v:=(I6 t.mx)) O Ai (i.cell O)⟩) ?_)));obtain ⟨J,y⟩:∃e,(decide ((8:Int)<t.mx))=e:=⟨_,O⟩;refine qG (.bool f) (nU f (.bool J)) (by cases f<;>first|exact gA|exact gB|exact .inl ⟨O,(CU (k:=.i64) (a:=t.mx) (b:=8) O O).trans (by rw[y];try rfl)⟩) ?_;obtain ⟨W,r⟩:∃e,(f || J)=e:=⟨_,O⟩;refine qV (Ag (b:=f) (v:=.bool W) O (by rw[<-r];cases f<;>rfl)) (AA ?_);subst r;subst y;subst A;subst s;subst u;refine As (b:=(((decide ((t.mn:Int)<0)) || (decide ((t.mx:Int)<t.mn))) || (decide ((8:Int)<t.mx)))) O (λI=>?_) (λI=>?_)
     .have T:=I;simp at I;refine Y (qA (I6 1) O (AA (AS (A1 (AU (AY results170 (v:=(.int .i64 1)) O ?_))))));exact ⟨BJ (by rw[if_pos qO]),E⟩
     .have T:=I;simp at I;refine AM (AN (AB (Y (qA (I6 0) O (AA (AS (AY results170 (v:=(.int .i64 0)) O ?_)))))));exact ⟨BJ (by rw[if_neg qO]),E⟩
    .rw[if_neg Q];refine Y (qV (BF (k:=.i64) (a:=t.kind) (b:=9) O O) (qA (.bool (decide ((t.kind:Int)=9))) O (AA (qC O (λU=>?_) (λU=>?_)))))
     .rw[if_pos U];refine Y (qF h 0 3 O underlying68 O Ad O (qV (AE (v:=(I6 t.mn)) O Ai (i.cell O)) ?_));obtain ⟨g,p⟩:∃e,(decide ((t.mn:Int)<0))=e:=⟨_,O⟩;refine qV ((A0 (k:=.i64) (a:=t.mn) (b:=0) O O).trans (by rw[p];try rfl)) (qM (.bool g) O (qG (.bool g) (nU g (P6 h 3)) (by cases g<;>first|exact gA|exact gB|exact .inl ⟨O,AT (b:=h) (o:=0) (o':=3) O underlying68 O Ad O⟩) (qG (.bool g) (nU g (I6 t.mn)) (by cases g<;>first|exact gA|exact gB|exact .inl ⟨O,AE (v:=(I6 t.mn)) O Ai (i.cell O)⟩) ?_)));obtain ⟨G,m⟩:∃e,(decide ((9:Int)<t.mn))=e:=⟨_,O⟩;refine qG (.bool g) (nU g (.bool G)) (by cases g<;>first|exact gA|exact gB|exact .inl ⟨O,(CU (k:=.i64) (a:=t.mn) (b:=9) O O).trans (by rw[m];try rfl)⟩) ?_;obtain ⟨ae,z⟩:∃e,(g || G)=e:=⟨_,O⟩;refine qV (Ag (b:=g) (v:=.bool ae) O (by rw[<-z];cases g<;>rfl)) (AA ?_);subst z;subst m;subst p;refine As (b:=((decide ((t.mn:Int)<0)) || (decide ((9:Int)<t.mn)))) O (λF=>?_) (λF=>?_)
      .have ab:=F;simp at F;refine Y (qA (I6 1) O (AA (AS (A1 (AU (AY results170 (v:=(.int .i64 1)) O ?_))))));exact ⟨BJ (by rw[if_pos qO]),E⟩
      .have ab:=F;simp at F;refine AM (AN (AB (Y (qA (I6 0) O (AA (AS (AY results170 (v:=(.int .i64 0)) O ?_)))))));exact ⟨BJ (by rw[if_neg qO]),E⟩
     .rw[if_neg U];refine AM (AN (AB (Y (qA (I6 0) O (AA (AS (AY results170 (v:=(.int .i64 0)) O ?_)))))));exact ⟨O,E⟩
end Go.Proofs
namespace Go.Proofs
open Go Go.Eng
set_option maxRecDepth 100000
def DF (most:Int):Int×Int->Re->Bool×(Int×Int):=λs t=>
 let n:=IntKind.i64.wrap (s.1+1)
 let e:=if most<n then 2 else DZ t
 (decide (e=0),(n,e))
def EW (t:Re) (most:Int):Int:=(CY (DF most) t (0,0)).2.2
theorem S_ (B n:World) (t:Re) (vs:List Value) (G:CG B t vs) (H:Al B n) (g j i:Nat) (s:Int×Int) (most:Int) (h0:B.heap.size<=j) (h12:j<g) (h13:g<i)
 (d:Az n g #[.int .i64 s.1] 3) (f:Az n j #[.int .i64 most] 3) (e:Az n i #[.int .i64 s.2] 27) :
 CB prog 169 #[.agg vs.toArray,.pointer (some ⟨g,0,none⟩),.pointer (some ⟨j,0,none⟩),.pointer (some ⟨i,0,none⟩)] n
  λv w=>v=.bool (DF most s t).1∧Chg (λx=>x=g∨x=i) n w∧Az w g #[.int .i64 (DF most s t).2.1] 3∧Az w j #[.int .i64 most] 3∧Az w i #[.int .i64 (DF most s t).2.2] 27:=by
 have D:=G;obtain ⟨C,z,y,A,rfl,hset,hlen,hargs⟩:=G.form;refine C7 func169 O ntmps169 (LK O) ?_;have E:Chg (λx=>x=g∨x=i) n n:=Chg.refl _ _;refine Y (BP (v:=(.agg (R6 t C z y A))) (c:=(R6 t C z y A)) qD O O ?_);intro b1 w1 m;have O1_b1':=m.lt d;have O1_b2':=m.lt f;have O1_b3':=m.lt e;replace d:=m.keep d;replace f:=m.keep f;replace e:=m.keep e;replace E:=E.ext m.ext;have l:=m.blk;refine qA (.bool false) O (AA (AI (Y (qV (AE (v:=(I6 s.1)) O Ai (d.cell O)) (qV (Ar (k:=.i64) (a:=s.1) (b:=1) (c:=IntKind.i64.wrap (s.1+1)) O O (O)) (A9 (b:=g) (o:=0) (c':=#[(I6 (IntKind.i64.wrap (s.1+1)))]) (v:=(I6 (IntKind.i64.wrap (s.1+1)))) O O O Ad d qP O ?_))))));intro w2 q;replace f:=q.keep qO f;replace e:=q.keep qO e;replace l:=q.keep qO l;replace E:=q.step E qQ;replace d:=q.blk;refine AA (Y (qV (AE (v:=(I6 (IntKind.i64.wrap (s.1+1)))) O Ai (d.cell O)) (qV (AE (v:=(I6 most)) O Ai (f.cell O)) (qV (CU (k:=.i64) (a:=IntKind.i64.wrap (s.1+1)) (b:=most) O O) (AA (qC O (λh=>?_) (λh=>?_)))))))
 .refine AJ (A9 (b:=i) (o:=0) (c':=#[(I6 2)]) (v:=(I6 2)) O O O Lu e qP O ?_);intro w4 p;replace d:=p.keep qO d;replace f:=p.keep qO f;replace l:=p.keep qO l;replace E:=p.step E qQ;replace e:=p.blk;refine AA (AB (Y (qV (AE (v:=(I6 2)) O JX (e.cell O)) (qV (BF (k:=.i64) (a:=2) (b:=0) O O) (qA (.bool false) O (AA (AS (AY results169 (v:=(.bool false)) O ?_))))))));exact ⟨by simp[DF,h],E,by simpa[DF] using d,f,by simpa[DF,h] using e⟩
 .refine AJ (qV (Aa (vs:=[(I6 t.kind),(.slice C t.set.length z),(.slice y t.args.length A),(I6 t.mn),(I6 t.mx),(.bool t.neg)]) O DK Ca O (l.cells O)) (qE O (AV (vs:=[(.agg (R6 t C z y A))]) func170 kQ kQ O) (UJ B _ t _ D (Chg.step H E λx hx F=>by rcases F with F|F<;>omega)) ?_));rintro _ w9 ⟨rfl,u⟩;replace d:=u.keep d;replace f:=u.keep f;replace e:=u.keep e;replace l:=u.keep l;replace E:=E.ext u;refine A9 (b:=i) (o:=0) (c':=#[(I6 (DZ t))]) (v:=(I6 (DZ t))) O O O Lu e qP O ?_;intro w5 r;replace d:=r.keep qO d;replace f:=r.keep qO f;replace l:=r.keep qO l;replace E:=r.step E qQ;replace e:=r.blk;refine AA (AB (Y (qV (AE (v:=(I6 (DZ t))) O JX (e.cell O)) (qV (BF (k:=.i64) (a:=DZ t) (b:=0) O O) (qA (.bool (decide ((DZ t:Int)=0))) O (AA (AS (AY results169 (v:=(.bool (decide ((DZ t:Int)=0)))) O ?_))))))));exact ⟨by simp[DF,h],E,by simpa[DF] using d,f,by simpa[DF,h] using e⟩
theorem UW (w0:World) (t:Re) (vs:List Value) (ht:CG w0 t vs) (most:Int) :
  CB prog 128 #[.agg vs.toArray,.int .i64 most] w0 fun v w=>v=.int .i64 (EW t most)∧Al w0 w:=by
 have ad:=ht;obtain ⟨sa,sc,aa,ac,rfl,ae,af,ab⟩:=ht.form;refine qR func128 rfl ntmps128 rfl (fun E=>(Y (BP (v:=(.agg (R6 t sa sc aa ac))) (c:=(R6 t sa sc aa ac)) qD rfl rfl ?_)));intro b1 w1 N1;have F1:=N1.ge E;replace E:=E.ext N1.ext;have B1:=N1.blk;refine BP (v:=(I6 most)) (c:=#[(I6 most)]) qD rfl rfl ?_;intro b2 w2 N2;have F2:=N2.ge E;have O2_b1:=N2.lt B1;replace B1:=N2.keep B1;replace E:=E.ext N2.ext;have B2:=N2.blk;refine qA (I6 0) rfl (AA (Y (By (c:=#[(I6 0)]) qD BY rfl ?_)));intro b3 w3 N3;have F3:=N3.ge E;have O3_b1:=N3.lt B1;have O3_b2:=N3.lt B2;replace B1:=N3.keep B1;replace B2:=N3.keep B2;replace E:=E.ext N3.ext;have B3:=N3.blk;refine By (c:=#[(I6 0)]) qD Tf rfl ?_;intro b4 w4 N4;have F4:=N4.ge E;have O4_b1:=N4.lt B1;have O4_b2:=N4.lt B2;have O4_b3:=N4.lt B3;replace B1:=N4.keep B1;replace B2:=N4.keep B2;replace B3:=N4.keep B3;replace E:=E.ext N4.ext;have B4:=N4.blk;refine A9 (b:=b3) (o:=0) (c':=#[(I6 0)]) (v:=(I6 0)) rfl rfl rfl Ad B3 qP rfl ?_;intro w5 S5;replace B1:=S5.keep qO B1;replace B2:=S5.keep qO B2;replace B4:=S5.keep qO B4;replace E:=S5.step E qQ;replace B3:=S5.blk;refine A9 (b:=b4) (o:=0) (c':=#[(I6 0)]) (v:=(I6 0)) rfl rfl rfl Lu B4 qP rfl ?_;intro w6 S6;replace B1:=S6.keep qO B1;replace B2:=S6.keep qO B2;replace B3:=S6.keep qO B3;replace E:=S6.step E qQ;replace B4:=S6.blk;refine AA (Y (qV (Aa (vs:=[(I6 t.kind),(.slice sa t.set.length sc),(.slice aa t.args.length ac),(I6 t.mn),(I6 t.mx),(.bool t.neg)]) rfl DK Ca rfl (B1.cells rfl)) (qV (B7 (vs:=[]) (us:=[(P6 b3 0),(P6 b2 0),(P6 b4 0)]) rfl rfl) ?_)));have hf:∀(s:Int×Int) (w:World) (t:Re) (vs:List Value),b4+1≤w.heap.size→Al w0 w→(Az w b3 #[.int .i64 s.1] 3∧Az w b2 #[.int .i64 most] 3∧Az w b4 #[.int .i64 s.2] 27)→CG w0 t vs→CQ prog (.func (.func 169) #[] #[.pointer (some ⟨b3,0,none⟩),.pointer (some ⟨b2,0,none⟩),.pointer (some ⟨b4,0,none⟩)]) #[.agg vs.toArray] w fun v w'=>v=.bool (DF most s t).1∧Chg (fun x=>x=b3∨x=b4) w w'∧(Az w' b3 #[.int .i64 (DF most s t).2.1] 3∧Az w' b2 #[.int .i64 most] 3∧Az w' b4 #[.int .i64 (DF most s t).2.2] 27):=fun s w t vs _ hE hI ht=>CQ.mk (first:=#[]) (cap:=#[.pointer (some ⟨b3,0,none⟩),.pointer (some ⟨b2,0,none⟩),.pointer (some ⟨b4,0,none⟩)]) (args:=#[.agg vs.toArray]) func169 kQ kQ rfl (S_ w0 w t vs ht hE b3 b2 b4 s most qO qO qO hI.1 hI.2.1 hI.2.2);refine qE rfl (AV (vs:=[(.agg (R6 t sa sc aa ac)),(.func (.func 169) #[] #[(P6 b3 0),(P6 b2 0),(P6 b4 0)])]) func129 kQ kQ rfl) (QF (DF most) (fun s w=>Az w b3 #[.int .i64 s.1] 3∧Az w b2 #[.int .i64 most] 3∧Az w b4 #[.int .i64 s.2] 27) (fun x=>x=b3∨x=b4) (b4+1) _ w0 (fun b hb=>qO) (fun s w w' hI e=>⟨e.keep hI.1,e.keep hI.2.1,e.keep hI.2.2⟩) hf t.size t (Nat.le_refl _) (0,0) _ _ (by have:=B4.lt;omega) E ⟨B3,B2,B4⟩ ad) ?_;rintro _ w9 ⟨rfl,C9,B3',B2',B4'⟩;replace B1:=C9.keep qO B1;replace E:=E.step C9 (by intro x hx hm;omega);refine AA (Y (qV (AE (v:=(I6 ((CY (DF most) t (0,0)).2.2))) rfl JX (B4'.cell rfl)) (qA (I6 ((CY (DF most) t (0,0)).2.2)) rfl (AA (AS (AY results128 (v:=(.int .i64 ((CY (DF most) t (0,0)).2.2))) rfl ?_))))));exact ⟨rfl,E⟩
theorem TQ (g:World) (t:Re) (vs:List Value) (k:CG g t vs) :
 CB prog 79 #[.agg vs.toArray] g λv w=>v=.int .i64 (EW t 40)∧Al g w:=by
 have f:=k;obtain ⟨b,d,a,e,rfl,hset,hlen,hargs⟩:=k.form;refine qR func79 O ntmps79 O (λE=>(Y (BP (v:=(.agg (R6 t b d a e))) (c:=(R6 t b d a e)) qD O O ?_)));intro b1 w1 i;replace E:=E.ext i.ext;have h:=i.blk;refine qA (I6 0) O (AA (Y (qV (Aa (vs:=[(I6 t.kind),(.slice b t.set.length d),(.slice a t.args.length e),(I6 t.mn),(I6 t.mx),(.bool t.neg)]) O DK Ca O (h.cells O)) (qE O (AV (vs:=[(.agg (R6 t b d a e)),(I6 40)]) func128 kQ kQ O) (UW _ t _ (CG.ext E t f) 40) ?_))));rintro _ w9 ⟨rfl,j⟩;replace h:=j.keep h;replace E:=E.ext j;refine qA (I6 (EW t 40)) O (AA (AS (AY results79 (v:=(.int .i64 (EW t 40))) O ?_)));exact ⟨O,E⟩
end Go.Proofs
namespace Go.Proofs
open Go Go.Eng
set_option maxRecDepth 100000
mutual
def G5:Re->Prop
  | .mk k set args mn mx ng=>DZ (.mk k set args mn mx ng)=0∧GP args
def GP:List Re->Prop
  | []=>True
  | t::ts=>G5 t∧GP ts
end
theorem Gk {t:Re} (h:G5 t):DZ t=0:=by cases t;simp only[G5] at h;exact h.1
theorem KR {t:Re} (h:G5 t):GP t.args:=by cases t;simp only[G5] at h;exact h.2
theorem PX {t:Re} (h:G5 t):0<=t.kind∧t.kind<=10∧IM t=true:=by
 have:=Gk h;unfold DZ at this;split at this
 .omega
 .rename_i hk
  split at this
  .omega
  .rename_i a;exact ⟨qO,qO,by simpa using a⟩
theorem O2 {d:World} {c:Option Addr} {a:List Re} (h:a=[]∨∃b o,c=some ⟨b,o,none⟩∧DM d b o a) (e:0<a.length):∃b o,c=some ⟨b,o,none⟩∧DM d b o a:=by
 rcases h with h|h
 .rw[h] at e;simp at e
 .exact h
end Go.Proofs
namespace Go.Proofs
open Go Go.Eng
set_option maxRecDepth 100000
theorem Ov {most:Int} {n e:Int} (t:Re) (h0:0<=n) (h1:n<=1000000):DF most (n,e) t=(decide ((if most<n+1 then 2 else DZ t)=0),(n+1,if most<n+1 then 2 else DZ t)):=by
 simp only[DF];rw[A5 qO]
mutual
theorem MZ {most:Int} (c:most<=1000000):∀(t:Re) (n e:Int),0<=n->n+t.size<=most->G5 t->CY (DF most) t (n,e)=(true,(n+t.size,0))
 | .mk k set args mn mx ng,n,e,h0,h1,hok=>by
  simp only[Re.size] at h1⊢;rw[Ee,Ov _ h0 qO];have d:=Gk hok;have a:¬most<n+1:=qO
  simp only[if_neg a,d,decide_true,if_true,Re.args];have b:=KR hok;simp only[Re.args] at b;rw[Km c args (n+1) 0 qO qO b rfl];simp;omega
theorem Km {most:Int} (b:most<=1000000):∀(a:List Re) (n e:Int),0<=n->n+Re.sizes a<=most->GP a->e=0->Cf (DF most) a (n,e)=(true,(n+Re.sizes a,0))
 | [],n,e,_,_,_,he=>by simp[Cf,Re.sizes,he]
 | t::a,n,e,h0,h1,hok,he=>by
  simp only[Re.sizes] at h1⊢;simp only[GP] at hok;rw[DG,MZ b t n e h0 qO hok.1];simp only[if_true];rw[Km b a _ _ qO qO hok.2 rfl];simp;omega
end
mutual
theorem Ou {most:Int} (g:most<=1000000):∀(t:Re) (n e:Int),0<=n->n<=most->(CY (DF most) t (n,e)).1=true->G5 t∧n+t.size<=most∧(CY (DF most) t (n,e)).2=(n+t.size,0)
 | .mk k set args mn mx ng,n,e,h0,h1,h=>by
  rw[Ee,Ov _ h0 qO] at h⊢;by_cases f:(if most<n+1 then 2 else DZ (.mk k set args mn mx ng))=0
  .have d:¬most<n+1:=by intro i;rw[if_pos i] at f;omega
   rw[if_neg d] at f;simp only[if_neg d,f,decide_true,if_true,Re.args] at h⊢;obtain ⟨a,b,c⟩:=Ma g args (n+1) 0 qO qO h O;refine ⟨by simp only[G5];exact ⟨f,a⟩,by simp only[Re.size];omega,by rw[c];simp only[Re.size];simp;omega⟩
  .simp[f] at h
theorem Ma {most:Int} (g:most<=1000000):∀(d:List Re) (n e:Int),0<=n->n<=most->(Cf (DF most) d (n,e)).1=true->e=0->GP d∧n+Re.sizes d<=most∧(Cf (DF most) d (n,e)).2=(n+Re.sizes d,0)
 | [],n,e,_,h1,_,he=>by simp[Cf,Re.sizes,GP,he];omega
 | t::d,n,e,h0,h1,h,he=>by
  rw[DG] at h⊢;by_cases f:(CY (DF most) t (n,e)).1=true
  .rw[if_pos f] at h⊢;obtain ⟨a,b,c⟩:=Ou g t n e h0 h1 f;rw[c] at h⊢;obtain ⟨a',b',c'⟩:=Ma g d _ _ qO b h O;exact ⟨by simp only[GP];exact ⟨a,a'⟩,by simp only[Re.sizes];omega,by rw[c'];simp only[Re.sizes];simp;omega⟩
  .rw[if_neg f] at h;simp at h
end
mutual
theorem Kn {most:Int}:∀(t:Re) (s:Int×Int),(CY (DF most) t s).1=decide ((CY (DF most) t s).2.2=0)
 | .mk k set args mn mx ng,s=>by
  rw[Ee];by_cases a:(DF most s (.mk k set args mn mx ng)).1=true
  .rw[if_pos a];exact JY args _ (by simpa[DF] using a)
  .rw[if_neg a];have b:(DF most s (.mk k set args mn mx ng)).1=false:=by simpa using a
   simp only[DF] at b⊢;exact b.symm
theorem JY {most:Int}:∀(a:List Re) (s:Int×Int),s.2=0->(Cf (DF most) a s).1=decide ((Cf (DF most) a s).2.2=0)
 | [],s,h=>by simp[Cf,h]
 | t::a,s,h=>by
  rw[DG];have:=Kn (most:=most) t s;by_cases b:(CY (DF most) t s).1=true
  .rw[if_pos b];rw[b] at this;exact JY a _ (by simpa using this.symm)
  .rw[if_neg b];have c:(CY (DF most) t s).1=false:=by simpa using b
   rw[c] at this;exact this
end
theorem JZ {t:Re} {most:Int} (e:0<=most) (d:most<=1000000):EW t most=0↔G5 t∧(t.size:Int)<=most:=by
 unfold EW;constructor
 .intro h;have c:=Kn (most:=most) t (0,0);rw[h] at c;obtain ⟨a,b,_⟩:=Ou d t 0 0 (Int.le_refl 0) e (by simpa using c);exact ⟨a,qO⟩
 .rintro ⟨a,b⟩;rw[MZ d t 0 0 (Int.le_refl 0) qO a]
end Go.Proofs
namespace Go.Proofs
open Go Go.Eng
abbrev U0 (s:Re):Re:=.mk 5 [] [s] 0 0 false
def Txt (text:List Int):Prop:=text.length<=24∧∀x∈text,QX x=true
end Go.Proofs
namespace Go.Proofs
open Go Go.Eng
set_option maxRecDepth 100000
mutual
def FG (ks:List Int):Re->Bool
  | .mk k _ args _ _ _=>ks.contains k || Ir ks args
def Ir (ks:List Int):List Re->Bool
  | []=>false
  | t::ts=>FG ks t || Ir ks ts
end
def Hl (ks:List Int):Unit->Re->Bool×Unit:=λ_ t=>(!ks.contains t.kind,())
mutual
theorem Lo (a:List Int):∀(t:Re),(CY (Hl a) t ()).1 = !FG a t
 | .mk k set args mn mx ng=>by
  have h:=KC a args;rw[Ee];split
  .rename_i b
   have b:a.contains k=false:=by simpa only[Hl,Re.kind,Bool.not_eq_true'] using b
   show (Cf (Hl a) args ()).1=_;rw[h];simp only[FG,b,Bool.false_or]
  .rename_i b
   have b:a.contains k=true:=by
    cases hc:a.contains k with
    | true=>rfl
    | false=>exact absurd (show (Hl a () (.mk k set args mn mx ng)).1=true by simp only[Hl,Re.kind,hc,Bool.not_false]) b
   simp only[FG,b,Bool.true_or,Bool.not_true]
theorem KC (a:List Int):∀(b:List Re),(Cf (Hl a) b ()).1 = !Ir a b
 | []=>rfl
 | t::b=>by
  have c:=Lo a t;have h:=KC a b;rw[DG];split
  .rename_i e
   rw[e] at c;have d:FG a t=false:=by simpa using c.symm
   show (Cf (Hl a) b ()).1=_;rw[h];simp only[Ir,d,Bool.false_or]
  .rename_i e
   have d:FG a t=true:=by
    cases hc:FG a t with
    | true=>rfl
    | false=>rw[hc] at c;exact absurd c e
   simp only[Ir,d,Bool.true_or,Bool.not_true]
end
theorem SF (w0:World) (t:Re) (vs:List Value) (ks:List Int) (v:Value) (b:Nat) (ht:CG w0 t vs) (hB:Az w0 b #[v] 22) (hks:A2 w0 v ks) :
 CB prog 130 #[.agg vs.toArray,.pointer (some ⟨b,0,none⟩)] w0 λr w=>r=.bool (!ks.contains t.kind)∧Al w0 w:=by
 obtain ⟨sa,sc,aa,ac,rfl,_,_,_⟩:=ht.form;refine qR func130 O ntmps130 O (λE=>(Y (BP (v:=(.agg (R6 t sa sc aa ac))) (c:=(R6 t sa sc aa ac)) qD O O ?_)));intro b1 w1 N1;replace hB:=N1.keep hB;replace E:=E.ext N1.ext;have B1:=N1.blk;refine qA (.bool false) O (AA (Y (qV (AE (v:=v) O Ax (hB.cell O)) (qF b1 0 0 O underlying68 O Ad O (qV (AE (v:=(I6 t.kind)) O Ai (B1.cell O)) (qE O (AV (vs:=[v,(I6 t.kind)]) func131 kQ kQ O) (UT _ v t.kind ks (hks.ext E)) ?_))))));rintro _ w9 ⟨rfl,X9⟩;replace hB:=X9.keep hB;replace B1:=X9.keep B1;replace E:=E.ext X9;refine qV (CM (b:=ks.contains t.kind) O) (qA (.bool (!(ks.contains t.kind))) O (AA (AS (AY results130 (v:=(.bool (!(ks.contains t.kind)))) O ?_))));exact ⟨O,E⟩
theorem Tx (p:World) (t:Re) (vs:List Value) (a:List Int) (v:Value) (x:CG p t vs) (f:A2 p v a) :
 CB prog 80 #[.agg vs.toArray,v] p λr w=>r=.bool (FG a t)∧Al p w:=by
 have y:=x;obtain ⟨o,l,k,n,rfl,_,_,_⟩:=x.form;obtain ⟨i,g,rfl⟩:=BO.form f;simp only[List.length_map] at f⊢;refine qR func80 O ntmps80 O (λE=>(Y (BP (v:=(.agg (R6 t o l k n))) (c:=(R6 t o l k n)) qD O O ?_)));intro br wr C;replace E:=E.ext C.ext;have j:=C.blk;refine BP (v:=(.slice i a.length g)) (c:=#[(.slice i a.length g)]) qD O O ?_;intro d m A;replace j:=A.keep j;replace E:=E.ext A.ext;have q:=A.blk;refine qA (.bool false) O (AA (Y (qV (Aa (vs:=[(I6 t.kind),(.slice o t.set.length l),(.slice k t.args.length n),(I6 t.mn),(I6 t.mx),(.bool t.neg)]) O DK Ca O (j.cells O)) (qV (B7 (vs:=[]) (us:=[(P6 d 0)]) O O) ?_))));have F:∀(s:Unit) (w:World) (t:Re) (vs:List Value),d+1<=w.heap.size->Al m w->Az w d #[.slice i a.length g] 22->CG m t vs->CQ prog (.func (.func 130) #[] #[.pointer (some ⟨d,0,none⟩)]) #[.agg vs.toArray] w λr w'=>r=.bool (Hl a s t).1∧Chg Ab w w'∧Az w' d #[.slice i a.length g] 22:=λs w t vs _ B u x=>CQ.mk (first:=#[]) (cap:=#[.pointer (some ⟨d,0,none⟩)]) func130 kQ kQ O ((SF w t vs a (.slice i a.length g) d (CG.ext B t x) u ((f.ext E).ext B)).mono λr w' h=>⟨h.1,h.2,Al.keep h.2 u⟩);refine qE O (AV (vs:=[(.agg (R6 t o l k n)),(.func (.func 130) #[] #[(P6 d 0)])]) func129 kQ kQ O) ((QF (Hl a) (λ_ w=>Az w d #[.slice i a.length g] 22) Ab (d+1) _ m (λb D=>D.elim) (λs w w' u e=>e.keep u) F t.size t (Nat.le_refl _) () _ _ (by have:=q.lt;omega) (Al.refl _) q (CG.ext E t y)).mono (R':=λr w=>r=.bool (CY (Hl a) t ()).1∧Al m w) (λr w h=>⟨h.1,h.2.1⟩)) ?_;rintro _ w9 ⟨rfl,z⟩;replace j:=z.keep j;replace q:=z.keep q;replace E:=E.ext z;refine qV (CM (b:=(CY (Hl a) t ()).1) O) (qA (.bool (!((CY (Hl a) t ()).1))) O (AA (AS (AY results80 (v:=(.bool (!((CY (Hl a) t ()).1)))) O ?_))));exact ⟨CK (by rw[Lo];simp),E⟩
structure NodeI (t:Re):Prop where
 k:0<=t.kind∧t.kind<=10
 two:t.kind=3∨t.kind=4∨t.kind=7->2<=t.args.length
 one:t.kind=5∨t.kind=6∨t.kind=8∨t.kind=9∨t.kind=10->t.args.length=1
 rep:t.kind=6->0<=t.mn∧t.mn<=t.mx∧t.mx<=8
 grp:t.kind=9->0<=t.mn∧t.mn<=9
 sett:t.kind=2->t.set≠[]
theorem MJ {t:Re} (h:DZ t=0):NodeI t:=by
 unfold DZ at h;split at h
 .cases h
 rename_i h1
 split at h
 .cases h
 rename_i d
 have c:IM t=true:=by simpa using d
 unfold IM at c;simp only[Bool.and_eq_true] at c;have b:=c.1.1.1.1;unfold PZ at b;refine ⟨qO,λa=>?_,λa=>?_,λa=>?_,λa=>?_,λa=>?_⟩
 .rw[if_pos a] at b;have:=of_decide_eq_true b;omega
 .rw[if_neg qO,if_pos a] at b;have:=of_decide_eq_true b;omega
 .rw[if_neg qO,if_pos a] at h;split at h
  .cases h
  .omega
 .rw[if_neg qO,if_neg qO,if_pos a] at h;split at h
  .cases h
  .omega
 .rw[if_pos a] at h;intro e;rw[e] at h;simp[BT,EG] at h
end Go.Proofs
namespace Go.Proofs
open Go Go.Eng
set_option maxRecDepth 100000
abbrev Lg:=List Int->Prop
end Go.Proofs
namespace Go.Proofs
open Go Go.Eng
set_option maxRecDepth 100000
def K5 (d:Dfa):Int->List Nat->Int
  | s,[]=>s
  | s,x::w=>K5 d (Bu d s x) w
theorem GB (d:Dfa):∀(w:List Nat) (s:Int),beh d s w=Co d (K5 d s w)
 | [],_=>rfl
 | x::w,s=>by simp only[beh,K5];exact GB d w _
theorem OT (d:Dfa):∀(u v:List Nat) (s:Int),K5 d s (u++v)=K5 d (K5 d s u) v
 | [],_,_=>rfl
 | x::u,v,s=>by simp only[List.cons_append,K5];exact OT d u v _
theorem Is (d:Dfa) (u:List Nat) (x:Nat) (s:Int):K5 d s (u++[x])=Bu d (K5 d s u) x:=by rw[OT];rfl
theorem HG {n c:Nat} {d:Dfa} (ok:OkD n c d):∀(w:List Nat) {s:Int},-1<=s∧s<n->-1<=K5 d s w∧K5 d s w<n
 | [],_,h=>h
 | _::w,_,_=>HG ok w ok.to
def Cr (M:Nat->Bool) (i:Nat):Nat:=(M (8*i)).toNat+2*(M (8*i+1)).toNat+4*(M (8*i+2)).toNat+8*(M (8*i+3)).toNat+16*(M (8*i+4)).toNat+32*(M (8*i+5)).toNat+64*(M (8*i+6)).toNat+128*(M (8*i+7)).toNat
def Ez (n:Nat) (M:Nat->Bool):Nat->Bool:=λs=>decide (s<n) && M s
def F_ (n:Nat) (M:Nat->Bool):List Int:=(List.range ((n+7) / 8)).map λi=>((Cr (Ez n M) i:Nat):Int)
theorem Eu (n:Nat) (M:Nat->Bool):(F_ n M).length=(n+7) / 8:=by simp[F_]
theorem OB {n:Nat} {M M':Nat->Bool} (h:∀s,s<n->M s=M' s):F_ n M=F_ n M':=by
 have:Ez n M=Ez n M':=funext λs=>by
  unfold Ez;by_cases hs:s<n
  .rw[h s hs]
  .simp[hs]
 unfold F_;rw[this]
theorem LX (M:Nat->Bool) (i:Nat):Cr M i<256:=by
 unfold Cr;have h:∀b:Bool,b.toNat<=1:=λb=>by cases b<;>decide
 have:=h (M (8*i));have:=h (M (8*i+1));have:=h (M (8*i+2));have:=h (M (8*i+3));have:=h (M (8*i+4));have:=h (M (8*i+5));have:=h (M (8*i+6));have:=h (M (8*i+7));omega
theorem P5:∀(e d f a i g c j:Bool),(∀v,v=e.toNat+2*d.toNat+4*f.toNat+8*a.toNat+16*i.toNat+32*g.toNat+64*c.toNat+128*j.toNat->
 v / 1 % 2=e.toNat∧v / 2 % 2=d.toNat∧v / 4 % 2=f.toNat∧v / 8 % 2=a.toNat∧v / 16 % 2=i.toNat∧v / 32 % 2=g.toNat∧v / 64 % 2=c.toNat∧v / 128 % 2=j.toNat):=by
 intro e d f a i g c j v hv;have h:∀b:Bool,b.toNat<=1:=λb=>by cases b<;>decide
 have:=h e;have:=h d;have:=h f;have:=h a;have:=h i;have:=h g;have:=h c;have:=h j;generalize e.toNat=c0 at *;generalize d.toNat=c1 at *;generalize f.toNat=c2 at *;generalize a.toNat=c3 at *;generalize i.toNat=c4 at *;generalize g.toNat=c5 at *;generalize c.toNat=c6 at *;generalize j.toNat=c7 at *;omega
theorem Mh (M:Nat->Bool) (i j:Nat) (hj:j<8):Cr M i / 2 ^ j % 2=(M (8*i+j)).toNat:=by
 obtain ⟨h0,h1,h2,h3,h4,h5,h6,h7⟩:=P5 _ _ _ _ _ _ _ _ (Cr M i) O;have:j=0∨j=1∨j=2∨j=3∨j=4∨j=5∨j=6∨j=7:=qO
 rcases this with rfl|rfl|rfl|rfl|rfl|rfl|rfl|rfl<;>assumption
theorem Rp (M:Nat->Bool) (i j:Nat) (hj:j<8):Cr (λs=>M s || decide (s=8*i+j)) i=Cr M i+(if M (8*i+j)=true then 0 else 2 ^ j):=by
 have:j=0∨j=1∨j=2∨j=3∨j=4∨j=5∨j=6∨j=7:=qO
 unfold Cr;rcases this with rfl|rfl|rfl|rfl|rfl|rfl|rfl|rfl
 .rw[Nat.add_zero];simp;cases M (8*i)<;>simp<;>omega
 .simp;cases M (8*i+1)<;>simp<;>omega
 .simp;cases M (8*i+2)<;>simp<;>omega
 .simp;cases M (8*i+3)<;>simp<;>omega
 .simp;cases M (8*i+4)<;>simp<;>omega
 .simp;cases M (8*i+5)<;>simp<;>omega
 .simp;cases M (8*i+6)<;>simp<;>omega
 .simp;cases M (8*i+7)<;>simp<;>omega
theorem OA {M:Nat->Bool} {i k j:Nat} (hj:j<8) (hk:k≠i):Cr (λs=>M s || decide (s=8*i+j)) k=Cr M k:=by
 unfold Cr;have h:∀d,d<8->(M (8*k+d) || decide (8*k+d=8*i+j))=M (8*k+d):=λd hd=>by
  rw[decide_eq_false (show ¬8*k+d=8*i+j by omega),Bool.or_false]
 dsimp only;have a:=h 0 qD;rw[Nat.add_zero] at a;rw[a,h 1 qD,h 2 qD,h 3 qD,h 4 qD,h 5 qD,h 6 qD,h 7 qD]
def DE (n:Nat) (M:Nat->Bool):ByteArray:=strOfNums (F_ n M)
def En (k:ByteArray) (s:Nat):Bool:=decide ((k.data.toList.getD (s / 8) 0).toNat / 2 ^ (s % 8) % 2=1)
theorem GT {n:Nat} (M:Nat->Bool) {s:Nat} (hs:s<n):En (DE n M) s=M s:=by
 have b:=LX (Ez n M) (s / 8);have c:(UInt8.ofNat (Cr (Ez n M) (s / 8))).toNat=Cr (Ez n M) (s / 8):=by
  rw[UInt8.toNat_ofNat'];exact Nat.mod_eq_of_lt b
 have e:(DE n M).data.toList.getD (s / 8) 0=UInt8.ofNat (Cr (Ez n M) (s / 8)):=by
  unfold DE;rw[strOfNums_data,List.getD_eq_getElem?_getD,List.getElem?_map];unfold F_;rw[List.getElem?_map,List.getElem?_range qO];simp
 have a:((DE n M).data.toList.getD (s / 8) 0).toNat / 2 ^ (s % 8) % 2=(M s).toNat:=by
  rw[e,c,Mh _ _ _ (Nat.mod_lt _ qD),Nat.div_add_mod];unfold Ez;rw[decide_eq_true hs,Bool.true_and]
 unfold En;cases hM:M s
 .exact decide_eq_false (by rw[a,hM];decide)
 .exact decide_eq_true (by rw[a,hM];decide)
theorem Dq (n:Nat) (M:Nat->Bool):(DE n M).size=(n+7) / 8:=by unfold DE;rw[strOfNums_size,Eu]
theorem JN {n:Nat} {M M':Nat->Bool} (h:∀s,s<n->M s=M' s):DE n M=DE n M':=by unfold DE;rw[OB h]
theorem RE {n:Nat} (M:Nat->Bool):DE n (En (DE n M))=DE n M:=JN λ_ hs=>GT M hs
def Gv (b:Dfa) (m:Nat) (k:ByteArray) (x:Nat):Nat->Bool:=λq=>(List.range m).any λp=>En k p && decide (Bu b ((p:Nat):Int) x=((q:Nat):Int))
def FI (b:Dfa) (m:Nat) (k:ByteArray) (x:Nat):Bool:=(List.range m).any λp=>En k p && decide (0<=Bu b ((p:Nat):Int) x)
def ID (b:Dfa) (m:Nat) (k:ByteArray):Bool:=(List.range m).any λp=>decide (0<=Co b ((p:Nat):Int)) && En k p
def Kl (b:Bool):Int:=if b=true then 0 else -1
theorem JD {b:Dfa} {m:Nat} {k:ByteArray} {x q:Nat}:Gv b m k x q=true↔∃p,p<m∧En k p=true∧Bu b ((p:Nat):Int) x=((q:Nat):Int):=by
 unfold Gv;simp only[List.any_eq_true,List.mem_range,Bool.and_eq_true,decide_eq_true_eq]
theorem PM {b:Dfa} {m:Nat} {k:ByteArray} {x:Nat}:FI b m k x=true↔∃p,p<m∧En k p=true∧0<=Bu b ((p:Nat):Int) x:=by
 unfold FI;simp only[List.any_eq_true,List.mem_range,Bool.and_eq_true,decide_eq_true_eq]
theorem Jr {b:Dfa} {m:Nat} {k:ByteArray}:ID b m k=true↔∃p,p<m∧0<=Co b ((p:Nat):Int)∧En k p=true:=by
 unfold ID;simp only[List.any_eq_true,List.mem_range,Bool.and_eq_true,decide_eq_true_eq]
theorem PL {b:Dfa} {n c m:Nat} (ok:OkD m c b) {k:ByteArray} {x:Nat} (g:n=m):FI b m k x=true↔∃q,q<n∧Gv b m k x q=true:=by
 subst g;rw[PM];constructor
 .rintro ⟨p,e,a,d⟩;have:=ok.to (s:=((p:Nat):Int)) (x:=x);exact ⟨(Bu b ((p:Nat):Int) x).toNat,qO,JD.2 ⟨p,e,a,qO⟩⟩
 .rintro ⟨q,_,a⟩;obtain ⟨p,d,f,h5⟩:=JD.1 a;exact ⟨p,d,f,qO⟩
section
variable (a b : Dfa) (m : Nat)
def VF (s:Int) (M:Nat->Bool):Nat->Bool:=λq=>M q || (decide (0<=Co a s) && decide (((q:Nat):Int)=b.start))
def Vd:Int×ByteArray:=(a.start,DE m (VF a b a.start λ_=>false))
def Vb (p:Int×ByteArray) (x:Nat):Option (Int×ByteArray):=if 0<=Bu a p.1 x∨FI b m p.2 x=true then some (Bu a p.1 x,DE m (VF a b (Bu a p.1 x) (Gv b m p.2 x))) else none
end
def Vs (f g:List Nat->Int) (w:List Nat):Prop:=∃u v,w=u++v∧0<=f u∧0<=g v
inductive StarW (f:List Nat->Int):List Nat->Prop where
  | nil:StarW f []
  | cons {u v:List Nat}:0<=f u->StarW f v->StarW f (u++v)
theorem StarW.app {f:List Nat->Int} {u v:List Nat} (h:StarW f u) (k:StarW f v):StarW f (u++v):=by
 induction h with
 | nil=>exact k
 | cons a _ ih=>rw[List.append_assoc];exact .cons a ih
theorem StarW.one {f:List Nat->Int} {u:List Nat} (h:0<=f u):StarW f u:=by
 have:=StarW.cons h .nil
 rwa [List.append_nil] at this
theorem StarW.last {f:List Nat->Int} {w:List Nat} (h:StarW f w) (b:w≠[]):∃u v,w=u++v∧v≠[]∧StarW f u∧0<=f v:=by
 induction h with
 | nil=>exact absurd O b
 | @cons u v hu hv ih=>
  by_cases a:v=[]
  .subst a;rw[List.append_nil] at b⊢;exact ⟨[],u,O,b,.nil,hu⟩
  .obtain ⟨p,q,c,e,g,d⟩:=ih a;exact ⟨u++p,q,by rw[c,List.append_assoc],e,.cons hu g,d⟩
section
variable (a : Dfa) (n : Nat)
def Eo:ByteArray:=DE n λq=>decide (((q:Nat):Int)=a.start)
def GW (M:Nat->Bool):Nat->Bool:=λq=>M q || (ID a n (DE n M) && decide (((q:Nat):Int)=a.start))
def D7 (bg:ByteArray) (k:ByteArray) (x:Nat):Option ByteArray:=let k':=if k=bg then Eo a n else k;if FI a n k' x=true then some (DE n (GW a n (Gv a n k' x))) else none
def FD (bg:ByteArray) (k:ByteArray):Int:=Kl (decide (k=bg) || ID a n k)
end
section
variable {a : Dfa} {n c : Nat} {bg : ByteArray}
def QB (a:Dfa) (n:Nat) (w:List Nat) (k:ByteArray):Prop:=∀q:Nat,q<n->(En k q=true↔∃u v,w=u++v∧StarW (beh a a.start) u∧K5 a a.start v=((q:Nat):Int))
theorem P' (d:OkD n c a) {w:List Nat} {k:ByteArray} (j:w≠[]) (h:QB a n w k):ID a n k=true↔StarW (beh a a.start) w:=by
 rw[Jr];constructor
 .rintro ⟨q,i,e,f⟩;obtain ⟨u,v,rfl,b,l⟩:=(h q i).1 f;exact b.app (.one (by rw[GB,l];exact e))
 .intro i;obtain ⟨u,v,e,_,f,b⟩:=i.last j;rw[GB] at b;have h11:=HG d v (s:=a.start) (by have:=d.st;omega);have g:0<=K5 a a.start v:=by
   apply Classical.byContradiction;intro h;unfold Co at b;rw[if_pos qO] at b;omega
  obtain ⟨s,hs⟩:=Int.eq_ofNat_of_zero_le g;exact ⟨s,qO,by rw[hs] at b;exact b,(h s qO).2 ⟨u,v,e,f,hs⟩⟩
theorem PH (e:OkD n c a) {w:List Nat} {k:ByteArray} (x:Nat) (h:QB a n w k):(FI a n k x=true->QB a n (w++[x]) (DE n (GW a n (Gv a n k x))))∧(¬FI a n k x=true->∀u v,w=u++v->StarW (beh a a.start) u->K5 a a.start (v++[x])<0):=by
 have g:∀q:Nat,q<n->(Gv a n k x q=true↔∃u v,w=u++v∧StarW (beh a a.start) u∧K5 a a.start (v++[x])=((q:Nat):Int)):=λq r=>by
  rw[JD];constructor
  .rintro ⟨s,D,E,F⟩;obtain ⟨u,v,d,f,b⟩:=(h s D).1 E;exact ⟨u,v,d,f,by rw[Is,b,F]⟩
  .rintro ⟨u,v,d,f,b⟩;rw[Is] at b;have l:=HG e v (s:=a.start) (by have:=e.st;omega);have j:0<=K5 a a.start v:=by
    apply Classical.byContradiction;intro h;rw[E3 qO] at b;omega
   obtain ⟨s,hs⟩:=Int.eq_ofNat_of_zero_le j;exact ⟨s,qO,(h s qO).2 ⟨u,v,d,f,hs⟩,by rw[<-hs];exact b⟩
 refine ⟨λ_=>?_,λhs u v d f=>?_⟩
 .have A:ID a n (DE n (Gv a n k x))=true↔StarW (beh a a.start) (w++[x]):=by
   rw[Jr];constructor
   .rintro ⟨q,p,m,o⟩;rw[GT _ p] at o;obtain ⟨u,v,rfl,i,D⟩:=(g q p).1 o;rw[List.append_assoc];exact i.app (.one (by rw[GB,D];exact m))
   .intro p;obtain ⟨u,v,m,t,o,i⟩:=p.last qP;rcases List.eq_nil_or_concat v with rfl|⟨v,y,rfl⟩
    .exact absurd O t
    rw[List.concat_eq_append] at m i;rw[<-List.append_assoc] at m;obtain ⟨B,C⟩:=List.append_inj' m O;cases C;rw[GB] at i;have l:=HG e (v++[x]) (s:=a.start) (by have:=e.st;omega);have j:0<=K5 a a.start (v++[x]):=by
     apply Classical.byContradiction;intro h;unfold Co at i;rw[if_pos qO] at i;omega
    obtain ⟨s,hs⟩:=Int.eq_ofNat_of_zero_le j;exact ⟨s,qO,by rw[hs] at i;exact i,by rw[GT _ qO];exact (g s qO).2 ⟨u,v,B,o,hs⟩⟩
  intro q r;rw[GT _ r];simp only[GW,Bool.or_eq_true,Bool.and_eq_true,decide_eq_true_eq];rw[g q r,A];constructor
  .rintro (⟨u,v,d,f,b⟩|⟨d,f⟩)
   .exact ⟨u,v++[x],by rw[d,List.append_assoc],f,b⟩
   .exact ⟨w++[x],[],qP,d,f.symm⟩
  .rintro ⟨u,v,d,f,b⟩;rcases List.eq_nil_or_concat v with rfl|⟨v,y,rfl⟩
   .rw[List.append_nil] at d;right;rw[<-d] at f;exact ⟨f,b.symm⟩
   .left;rw[List.concat_eq_append] at d b;rw[<-List.append_assoc] at d;obtain ⟨B,C⟩:=List.append_inj' d O;cases C;exact ⟨u,v,B,f,b⟩
 .apply Classical.byContradiction;intro b;have l:=HG e (v++[x]) (s:=a.start) (by have:=e.st;omega);obtain ⟨s,z⟩:=Int.eq_ofNat_of_zero_le (show 0<=K5 a a.start (v++[x]) by omega);exact hs ((PL e O).2 ⟨s,qO,(g s qO).2 ⟨u,v,d,f,z⟩⟩)
theorem RP (oka:OkD n c a):QB a n [] (Eo a n):=λq b=>by
 unfold Eo;rw[GT _ b];simp only[decide_eq_true_eq];constructor
 .intro h;exact ⟨[],[],O,.nil,h.symm⟩
 .rintro ⟨u,v,d,_,e⟩;obtain ⟨rfl,rfl⟩:=List.append_eq_nil_iff.1 d.symm;exact e.symm
theorem Ly (g:OkD n c a) (f:bg.size≠(n+7) / 8) (w:List Nat):match DV (D7 a n bg) bg w with
 | some k=>(w=[]∧k=bg)∨(w≠[]∧QB a n w k∧k=DE n (En k))
 | none=>w≠[]∧∀u v,w=u++v->StarW (beh a a.start) u->K5 a a.start v<0∨v=[]:=by
 obtain ⟨j,r⟩:∃j,j=w.length:=⟨_,O⟩
 induction j generalizing w with
 | zero=>
  have:w=[]:=List.eq_nil_of_length_eq_zero r.symm;subst this;exact .inl ⟨O,O⟩
 | succ j ih=>
  rcases List.eq_nil_or_concat w with rfl|⟨w,x,rfl⟩
  .simp at r
  rw[List.concat_eq_append] at r⊢;have l:=ih w (by simpa using r);rw[Ed];have b:∀{p q:List Nat},w++[x]=p++q->q=[]∨∃B,q=B++[x]∧w=p++B:=fun {p q} e=>by
   rcases List.eq_nil_or_concat q with rfl|⟨q,y,rfl⟩
   .exact .inl O
   .rw[List.concat_eq_append] at e⊢;rw[<-List.append_assoc] at e;obtain ⟨d,D⟩:=List.append_inj' e O;cases D;exact .inr ⟨q,O,d⟩
  cases hr:DV (D7 a n bg) bg w with
  | none=>
   rw[hr] at l;obtain ⟨A,o⟩:=l;simp only[Option.bind_none];refine ⟨qP,λu v e i=>?_⟩;rcases b e with h|⟨q,rfl,d⟩
   .exact .inr h
   .left;rw[Is];rcases o u q d i with h|h
    .rw[E3 h];decide
    .subst h;rw[List.append_nil] at d;subst d;obtain ⟨p,q,m,z,s,t⟩:=i.last A;rcases o p q m s with h|h
     .rw[GB] at t;unfold Co at t;rw[if_pos h] at t;omega
     .exact absurd h z
  | some k=>
   rw[hr] at l;simp only[Option.bind_some,D7];have C:QB a n w (if k=bg then Eo a n else k):=by
    rcases l with ⟨rfl,rfl⟩|⟨A,o,m⟩
    .rw[if_pos rfl];exact RP g
    .rw[if_neg]
     .exact o
     .intro e;rw[e] at m;rw[m,Dq] at f;exact f O
   obtain ⟨z,s⟩:=PH g x C;by_cases hs:FI a n (if k=bg then Eo a n else k) x=true
   .rw[if_pos hs];exact .inr ⟨qP,z hs,(RE _).symm⟩
   .rw[if_neg hs];refine ⟨qP,λu v e i=>?_⟩;rcases b e with h|⟨q,rfl,d⟩
    .exact .inr h
    .exact .inl (s hs u q d i)
open Classical in
theorem P8 (d:OkD n c a) (b:bg.size≠(n+7) / 8) (w:List Nat):OD (D7 a n bg) (FD a n bg) bg w=if StarW (beh a a.start) w then 0 else -1:=by
 have h:=Ly d b w;unfold OD;cases hr:DV (D7 a n bg) bg w with
 | none=>
  rw[hr] at h;obtain ⟨o,j⟩:=h;rw[if_neg];intro m;obtain ⟨u,v,f,q,p,l⟩:=m.last o;rcases j u v f p with h|h
  .rw[GB] at l;unfold Co at l;rw[if_pos h] at l;omega
  .exact absurd h q
 | some k=>
  rw[hr] at h;rcases h with ⟨rfl,rfl⟩|⟨j,m,f⟩
  .rw[if_pos StarW.nil];simp[FD,Kl]
  .have i:k≠bg:=λe=>by
    rw[e] at f;rw[f,Dq] at b;exact b O
   simp only[FD,Kl,decide_eq_false i,Bool.false_or];have:=P' d j m;by_cases g:StarW (beh a a.start) w
   .rw[if_pos g,if_pos (this.2 g)]
   .rw[if_neg g,if_neg λh=>g (this.1 h)]
theorem I1 (b:OkD n c a) (d:bg.size≠(n+7) / 8) {k:ByteArray} (h:VX c (D7 a n bg) bg k):k=bg∨k=DE n (En k):=by
 obtain ⟨w,_,f⟩:=h;have e:=Ly b d w;rw[f] at e;exact e.imp (λh=>h.2) λh=>h.2.2
theorem R3 (a:Dfa) (n:Nat) (bg k:ByteArray) : -1<=FD a n bg k∧FD a n bg k<2147483648:=by unfold FD Kl;split<;>decide
end
end Go.Proofs
namespace Go.Eng
open Go
def GE (l:List Oper) (t u:Nat):Bool:=match l[t]? with
  | some o=>o.after.any λe=>Region.binds .any e && Nat.beq e.on u
  | none=>false
def JU (hd:List Bool) (o:Oper):Bool:=match o.guard with|some p=>hd.getD p.1 false|none=>true
def Es (N:Nat) (hd:List Bool):Nat->List Oper->List Nat->List (List Nat)->List Bool->Bool
  | _,[],[],[],[]=>true
  | i,o::l,d::ds,ws::wss,h::hs=>(bif h then Et N i o d ws && ((o.after.all λe=>!Region.binds .any e || hd.getD e.on false) && JU hd o) else Nat.ble N d) && Es N hd (i+1) l ds wss hs
  | _,_,_,_,_=>false
def T1 (l:List Oper) (hd:List Bool) (ts:List Nat):Bool:=
 (List.range l.length).all λi=>hd.getD i false || (ts.contains i && ((List.range l.length).all (λu=>!hd.getD u false || GE l i u) || ts.any λp=>!hd.getD p true && GE l i p))
def I8 (ops:Array Oper):List Nat->Array Bool->Bool
  | [],listed=>(Region.ready .any ops listed).isEmpty
  | k::ks,listed=>decide (Region.ready .any ops listed=[k]) && I8 ops ks (listed.setIfInBounds k true)
theorem FA {P:Program} {ops:Array Oper} {Q':Exit->Act->World->Prop}:∀(b:List Nat) (listed:Array Bool) (a:Act) (w:World),I8 ops b listed=true->wpList P ops Q' (b.filterMap λk=>ops[k]?) a w->wpAny P .any ops Q' b.length listed a w
 | [],_,_,_,hB,h=>⟨by simpa[I8] using hB,h⟩
 | k::b,listed,a,w,hB,h=>by
  simp only[I8,Bool.and_eq_true,decide_eq_true_eq] at hB;refine ⟨λf=>(by rw[hB.1] at f;cases f),λi hi=>?_⟩;have c:=hi;rw[hB.1] at hi;have d:i=k:=by simpa using hi
  subst d;obtain ⟨_,o,e,_⟩:=mem_ready.1 c;have g:wpOp P ops Q' i (wpList P ops Q' (b.filterMap λk=>ops[k]?)) a w:=by
   rw[List.filterMap_cons,e] at h;unfold wpOp;simp only[e];exact h
  exact wpOp_mono (λa' w' j=>FA b _ a' w' hB.2 j) g
theorem Gn {N:Nat} {hd:List Bool}:∀{i:Nat} {l:List Oper} {ds:List Nat} {wss:List (List Nat)} {hs:List Bool},Es N hd i l ds wss hs=true->∀{j:Nat} {o:Oper},l[j]?=some o->∃d ws h,ds[j]?=some d∧wss[j]?=some ws∧hs[j]?=some h∧(bif h then Et N (i+j) o d ws && ((o.after.all λe=>!Region.binds .any e || hd.getD e.on false) && JU hd o) else Nat.ble N d)=true
 | _,[],_,_,_,_,j,o,h=>by simp at h
 | i,x::l,[],_,_,hB,_,_,_=>by simp[Es] at hB
 | i,x::l,d::ds,[],_,hB,_,_,_=>by simp[Es] at hB
 | i,x::l,d::ds,ws::wss,[],hB,_,_,_=>by simp[Es] at hB
 | i,x::l,d::ds,ws::wss,h0::hs,hB,j,o,h=>by
  simp only[Es,Bool.and_eq_true] at hB;cases j with
  | zero=>simp at h;subst h;exact ⟨d,ws,h0,O,O,O,hB.1⟩
  | succ j=>
   simp at h;obtain ⟨f,a,c,g,b,m,k⟩:=Gn hB.2 h;exact ⟨f,a,c,by simpa using g,by simpa using b,by simpa using m,by rw[show i+(j+1)=i+1+j from qO];exact k⟩
theorem Kq {N:Nat} {hd:List Bool}:∀{i:Nat} {l:List Oper} {ds:List Nat} {wss:List (List Nat)} {hs:List Bool},Es N hd i l ds wss hs=true->ds.length=l.length∧hs.length=l.length
 | _,[],[],[],[],_=>⟨O,O⟩
 | _,[],[],[],_::_,hB=>by simp[Es] at hB
 | _,[],[],_::_,_,hB=>by simp[Es] at hB
 | _,[],_::_,_,_,hB=>by simp[Es] at hB
 | i,x::l,[],_,_,hB=>by simp[Es] at hB
 | i,x::l,d::ds,[],_,hB=>by simp[Es] at hB
 | i,x::l,d::ds,ws::wss,[],hB=>by simp[Es] at hB
 | i,x::l,d::ds,ws::wss,h0::hs,hB=>by
  simp only[Es,Bool.and_eq_true] at hB;have:=Kq hB.2;simp[this.1,this.2]
inductive DagStepsP (P:Program) (N:Nat) (ds:List Nat) (Fs:List Fact) (σ:B0) (w:World):List Oper->List (List Nat)->List Bool->List Fact->Prop where
  | nil:DagStepsP P N ds Fs σ w [] [] [] []
  | cons {o:Oper} {ws:List Nat} {F:Fact} {l:List Oper} {wss:List (List Nat)} {hs:List Bool} {Gs:List Fact}:Im P N ds Fs σ w o ws F->DagStepsP P N ds Fs σ w l wss hs Gs->DagStepsP P N ds Fs σ w (o::l) (ws::wss) (true::hs) (F::Gs)
  | tail {o:Oper} {ws:List Nat} {F:Fact} {l:List Oper} {wss:List (List Nat)} {hs:List Bool} {Gs:List Fact}:DagStepsP P N ds Fs σ w l wss hs Gs->DagStepsP P N ds Fs σ w (o::l) (ws::wss) (false::hs) (F::Gs)
theorem DagStepsP.get {P:Program} {N:Nat} {ds:List Nat} {d:List Fact} {σ:B0} {w:World}:∀{l:List Oper} {wss:List (List Nat)} {hs:List Bool} {e:List Fact},DagStepsP P N ds d σ w l wss hs e->∀{j:Nat} {o:Oper},l[j]?=some o->hs[j]?=some true->∃ws F,wss[j]?=some ws∧e[j]?=some F∧Im P N ds d σ w o ws F
 | _,_,_,_,.nil,j,o,h,_=>by simp at h
 | _,_,_,_,.cons h1 h2,0,o,h,_=>by simp at h;subst h;exact ⟨_,_,O,O,h1⟩
 | _,_,_,_,.tail h2,0,o,h,ht=>by simp at ht
 | _,_,_,_,.cons h1 h2,j+1,o,h,ht=>by
  obtain ⟨ws,F,a,b,c⟩:=h2.get (j:=j) (by simpa using h) (by simpa using ht);exact ⟨ws,F,by simpa using a,by simpa using b,c⟩
 | _,_,_,_,.tail h2,j+1,o,h,ht=>by
  obtain ⟨ws,F,a,b,c⟩:=h2.get (j:=j) (by simpa using h) (by simpa using ht);exact ⟨ws,F,by simpa using a,by simpa using b,c⟩
def Da (hd:List Bool) (listed:List Bool):Nat:=((hd.zip listed).filter λp=>p.1 && !p.2).length
theorem Hx:∀{hd listed:List Bool} {i:Nat},hd[i]?=some true->listed[i]?=some false->Da hd (listed.set i true)+1=Da hd listed
 | [],_,_,h,_=>by simp at h
 | _::_,[],_,_,h=>by simp at h
 | h::hd,x::listed,0,h1,h2=>by
  simp at h1 h2;subst h1;subst h2;simp[Da]
 | h::hd,x::listed,i+1,h1,h2=>by
  have:=Hx (hd:=hd) (listed:=listed) (i:=i) (by simpa using h1) (by simpa using h2);simp only[Da,List.set_cons_succ,List.zip_cons_cons,List.filter_cons] at this⊢;split
  .simp only[List.length_cons];omega
  .exact this
theorem G6:∀{hd listed:List Bool},hd.length=listed.length->Da hd listed=0->(∀(i:Nat),hd[i]?=some false->listed[i]?=some false)->listed=hd
 | [],[],_,_,_=>rfl
 | [],_::_,h,_,_=>by simp at h
 | _::_,[],h,_,_=>by simp at h
 | h::hd,x::listed,hl,h0,ht=>by
  have b:Da hd listed=0:=by
   simp only[Da,List.zip_cons_cons,List.filter_cons] at h0⊢;split at h0
   .simp at h0
   .exact h0
  have c:=G6 (by simpa using hl) b λi hi=>by have:=ht (i+1) (by simpa using hi);simpa using this
  have a:x=h:=by
   cases h with
   | false=>have:=ht 0 O;simpa using this
   | true=>
    cases x with
    | true=>rfl
    | false=>simp[Da] at h0
  rw[c,a]
theorem Hy:∀{hd listed:List Bool},0<Da hd listed->∃i:Nat,hd[i]?=some true∧listed[i]?=some false
 | [],_,h=>by simp[Da] at h
 | _::_,[],h=>by simp[Da] at h
 | h::hd,x::listed,hp=>by
  simp only[Da,List.zip_cons_cons,List.filter_cons] at hp;split at hp
  .rename_i a
   simp at a;exact ⟨0,by simp[a.1],by simp[a.2]⟩
  .obtain ⟨i,c,b⟩:=Hy (hd:=hd) (listed:=listed) hp;exact ⟨i+1,by simpa using c,by simpa using b⟩
theorem Db {listed:Array Bool} {i:Nat} {b d:Bool} (h:listed.toList[i]?=some b):listed.getD i d=b:=by
 have:listed[i]?=some b:=by simpa using h
 simp[Array.getD_eq_getD_getElem?,this]
theorem TX {P:Program} {N:Nat} {Q:DN} {σ:B0} {w:World} {id:Nat} {l:List Oper} (hd:List Bool) (J:List Nat) (ds:List Nat) (wss:List (List Nat)) (Fs:List Fact) {Gs:List Fact} (hG:Fs=Gs) (hm:P.follows .mixedOrders=true) (hB:Es N hd 0 l ds wss hd=true) (hn:FY ds=true)
 (hT:(T1 l hd J && I8 l.toArray J hd.toArray)=true) (hN:Nat.beq (Da hd (List.replicate l.length false)+J.length) l.length=true)
 (ae:∀w1,Al w w1->DagStepsP P N ds Fs σ w1 l wss hd Gs)
 (k:∀σ' w',Al w w'->(∀t,ds.contains t=false->σ' t=σ t)->(∀j,hd[j]?=some true->Holds ds Fs j σ' w')->DL P N l.toArray (Q .normal) Q (J.filterMap λk=>l[k]?) σ' w'):Wp P N (.region id l.toArray true) Q σ w:=by
 intro dz a K V;have eQ:Dw dz N (J1 (Q .normal) Q)=Dw dz N Q:=by funext e a w;cases e<;>rfl
 refine wp_region_any hm ?_;obtain ⟨w1,ar⟩:∃w1:World,w1={w with drawn:=w.drawn+1}:=⟨_,O⟩;have av:Al w w1:=by rw[ar];exact Er w
 rw[<-ar];have an:=ae w1 av;rw[<-hG] at an;rw[Bool.and_eq_true] at hT;obtain ⟨ax,a5⟩:=hT;obtain ⟨hlen,hlen2⟩:=Kq hB;have a0:∀(m:Nat) (listed:Array Bool) (a:Act) (w':World),Da hd listed.toList=m->listed.size=l.length->(∀(t:Nat),hd[t]?=some false->listed.toList[t]?=some false)->Ok dz N a->Al w1 w'->(∀t,ds.contains t=false->C1 a t=σ t)->(∀j,hd[j]?=some true->listed.getD j false=true->Holds ds Fs j (C1 a) w')->
  wpAny P .any l.toArray (Dw dz N Q) (m+J.length) listed a w':=by
  intro m
  induction m with
  | zero=>
   intro listed a w' a3 al G K hx hu hh;have hl:listed=hd.toArray:=by
    apply Array.ext';exact G6 (by simp;omega) a3 G
   rw[Nat.zero_add];have Z:=k (C1 a) w' (av.trans hx) hu (λj r=>hh j r (Db (by rw[hl];exact r))) dz a K O;rw[eQ] at Z;exact FA J listed a w' (by rw[hl];exact a5) (by simpa using Z)
  | succ m ih=>
   intro listed a w' hcm al G K hx hu hh;obtain ⟨i0,ad,ap⟩:=Hy (hd:=hd) (listed:=listed.toList) qO;rw[show m+1+J.length=(m+J.length)+1 by omega];refine ⟨λhr=>?_,λi hi=>?_⟩
   .exfalso;have ao:∀i:Nat,hd[i]?=some true->listed.getD i true=true:=by
     intro i
     induction i using Nat.strongRecOn with
     | _ i ihi=>
      intro hi;cases hv:listed.getD i true with
      | true=>rfl
      | false=>
       exfalso;obtain ⟨o,ho⟩:=AK (l:=l) (i:=i) (by have:=AG hi;omega);obtain ⟨d,ws,h,_,_,X,h3⟩:=Gn hB ho;rw[hi] at X;cases X;simp only[cond_true,Bool.and_eq_true,Nat.zero_add] at h3;have:i∈Region.ready .any l.toArray listed:=by
        refine mem_ready.2 ⟨hv,o,by simpa using ho,λe V B=>?_⟩;have D:=h3.1;simp only[Et,Bool.and_eq_true,Array.all_eq_true_iff_forall_mem,Bool.or_eq_true,Bool.not_eq_true'] at D;have R:=h3.2.1;simp only[Array.all_eq_true_iff_forall_mem,Bool.or_eq_true,Bool.not_eq_true'] at R;have g:=(D.1.2 e V).resolve_left (by simp[B]);have y:e.on<i:=by simpa[Nat.blt_eq] using g
        have h7:=(R e V).resolve_left (by simp[B]);have aw:e.on<hd.length:=by have:=AG hi;omega
        have h8:hd[e.on]?=some true:=by
         rw[List.getD_eq_getElem?_getD,List.getElem?_eq_getElem aw,Option.getD_some] at h7;rw[List.getElem?_eq_getElem aw,h7]
        have I:=ihi e.on y h8;have r:e.on<listed.size:=qO
        simpa only[Array.getD_eq_getD_getElem?,Array.getElem?_eq_getElem r,Option.getD_some] using I
       rw[hr] at this;cases this
    have:=ao i0 ad;rw[Db ap] at this;cases this
   .obtain ⟨Z,o,X,h3⟩:=mem_ready.1 hi;have ho:l[i]?=some o:=by simpa using X
    have ay:i<l.length:=AG ho;have L:hd[i]?=some true:=by
     obtain ⟨b,B⟩:=AK (l:=hd) (i:=i) qO;cases b with
     | true=>exact B
     | false=>
      exfalso;have D:=List.all_eq_true.1 ax i (List.mem_range.2 ay);rw[List.getD_eq_getElem?_getD,B,Option.getD_some,Bool.false_or,Bool.and_eq_true,Bool.or_eq_true] at D;have W:∀u,GE l i u=true->listed.getD u false=true:=λu M=>by
       unfold GE at M;rw[ho] at M;simp only[Array.any_eq_true',Bool.and_eq_true] at M;obtain ⟨e,V,ac,ab⟩:=M;have:=Nat.eq_of_beq_eq_true ab;rw[<-this];exact h3 e V ac
      rcases D.2 with R|R
      .have g:=List.all_eq_true.1 R i0 (List.mem_range.2 (by have:=AG ad;omega));rw[List.getD_eq_getElem?_getD,ad,Option.getD_some,Bool.not_true,Bool.false_or] at g;have:=W i0 g;rw[Db ap] at this;cases this
      .obtain ⟨p,_,g⟩:=List.any_eq_true.1 R;rw[Bool.and_eq_true,Bool.not_eq_true'] at g;have h7:=W p g.2;have hp:hd[p]?=some false:=by
        have h8:=g.1;rw[List.getD_eq_getElem?_getD] at h8;cases I:hd[p]? with
        | none=>rw[I] at h8;cases h8
        | some b=>rw[I,Option.getD_some] at h8;rw[h8]
       rw[Db (G p hp)] at h7;cases h7
    obtain ⟨d,ws,h,af,a1,aq,D⟩:=Gn hB ho;rw[L] at aq;cases aq;obtain ⟨ws',F,U,hF,ah⟩:=an.get ho L;rw[a1] at U;cases U;simp only[cond_true,Bool.and_eq_true,Nat.zero_add] at D;have H:=D.2.2;have D:=D.1;simp only[Et,Bool.and_eq_true,List.all_eq_true,Array.any_eq_true',Array.all_eq_true_iff_forall_mem,Bool.or_eq_true,Bool.not_eq_true'] at D;obtain ⟨⟨⟨q,Pl⟩,_⟩,ak⟩:=D;have q:o.dst=some d:=by
     split at q
     .rename_i d' h;rw[h,Nat.eq_of_beq_eq_true q]
     .cases q
    have Pl:d<N:=by simpa[Nat.blt_eq] using Pl
    have hH:∀j,ws.contains j=true->Holds ds Fs j (C1 a) w':=by
     intro j r;have a4:j∈ws:=by simpa using r
     obtain ⟨e,V,B⟩:=ak j a4;obtain ⟨ac,ab⟩:=B;have az:e.on=j:=Nat.eq_of_beq_eq_true ab;have E:=h3 e V ac;rw[az] at E;refine hh j ?_ E;obtain ⟨b,B⟩:=AK (l:=hd) (i:=j) (by
      rcases Nat.lt_or_ge j listed.size with I|I
      .omega
      .simp[Array.getD_eq_getD_getElem?,Array.getElem?_eq_none I] at E)
     cases b with
     | true=>exact B
     | false=>rw[Db (G j B)] at E;cases E
    have gd:∀j b,o.guard=some (j,b)->∀A,ds[j]?=some A->(∃oj,l[j]?=some oj∧oj.dst=some A)∧A<N:=λj b f A C=>by
     obtain ⟨oj,s⟩:=AK (l:=l) (i:=j) (by have:=AG C;omega);obtain ⟨dj',_,r,aa,_,R,g⟩:=Gn hB s;rw[C] at aa;cases aa;unfold JU at H;rw[f] at H;simp only at H;have h7:r=true:=by rw[List.getD_eq_getElem?_getD,R,Option.getD_some] at H;exact H
     rw[h7] at g;simp only[cond_true,Bool.and_eq_true,Et] at g;obtain ⟨⟨⟨c,n⟩,_⟩,_⟩:=g.1;refine ⟨⟨oj,s,?_⟩,by simpa[Nat.blt_eq] using n⟩;split at c
     .rename_i d' h;rw[h,Nat.eq_of_beq_eq_true c]
     .cases c
    have S:∀v w2,Al w' w2->F.In v w2->wpAny P .any l.toArray (Dw dz N Q) (m+J.length) (listed.setIfInBounds i true) (a.put o.dst v) w2:=by
     intro v w2 au hv;have T:C1 (a.put o.dst v)=Ef (C1 a) d v:=by rw[q];exact DT K Pl v
     have a6:listed.toList[i]?=some false:=by
      have r:i<listed.size:=qO
      simp only[Array.getD_eq_getD_getElem?,Array.getElem?_eq_getElem r,Option.getD_some] at Z;rw[Array.getElem?_toList,Array.getElem?_eq_getElem r,Z]
     refine ih _ _ _ ?_ (by simpa using al) (λt ht=>?_) (K.put _ _) (hx.trans au) ?_ ?_
     .rw[Array.toList_setIfInBounds];have:=Hx L a6;omega
     .rw[Array.toList_setIfInBounds,List.getElem?_set];have ai:i≠t:=λe=>by rw[<-e,L] at ht;cases ht
      rw[if_neg ai];exact G t ht
     .intro t ht;rw[T,<-hu t ht];simp only[Ef];cases B:Nat.beq t d
      .rfl
      .exfalso;have:t=d:=Nat.eq_of_beq_eq_true B;subst this;have:=List.mem_of_getElem? af;simp[this] at ht
     .intro j a7 r d' F' z aj;rw[T];by_cases ag:j=i
      .subst ag;rw[af] at z;cases z;rw[hF] at aj;cases aj;simp only[Ef,Nat.beq_refl,cond_true];exact hv
      .have ai:Nat.beq d' d=false:=by
        cases B:Nat.beq d' d
        .rfl
        .exfalso;have:d'=d:=Nat.eq_of_beq_eq_true B;subst this;exact ag (Cg hn z af)
       simp only[Ef,ai,cond_false];rw[getD_set_ne _ (Ne.symm ag)] at r;exact Fact.ext (hh j a7 r d' F' z aj) au
    rcases ah (C1 a) w' hx hu hH with ⟨hg,a2⟩|⟨⟨j,b,A,f,C,x⟩,am⟩
    .have hw:Region.wanted o (yielded l.toArray a.tmps)=true:=by
      cases f:o.guard with
      | none=>simp[Region.wanted,f]
      | some p=>
       obtain ⟨j,b⟩:=p;obtain ⟨A,C,x⟩:=hg j b f;obtain ⟨c,n⟩:=gd j b f A C;have g:a.tmps[A]?=some (Value.bool b):=by
        have X:a.tmps.getD A undef=.bool b:=x;have y:A<a.tmps.size:=by rw[K.size];exact n
        rw[Array.getElem?_eq_getElem y];simpa[y] using X
       obtain ⟨oj,s,c⟩:=c;simp[Region.wanted,f,yielded,s,c,g]
     unfold wpOp;simp only[X,hw,if_true];exact Or.inl (a2 _ a K O _ _ S)
    .have hw:Region.wanted o (yielded l.toArray a.tmps)=false:=by
      obtain ⟨c,n⟩:=gd j b f A C;have y:A<a.tmps.size:=by rw[K.size];exact n
      have g:a.tmps[A]?=some (C1 a A):=by
       rw[Array.getElem?_eq_getElem y];simp[C1,y]
      obtain ⟨oj,s,c⟩:=c;rcases x with x|x
      .rw[x] at g;cases b<;>simp[Region.wanted,f,yielded,s,c,g]
      .rw[x] at g;simp[Region.wanted,f,yielded,s,c,g,undef]
     unfold wpOp;simp only[X,hw,Bool.false_eq_true,if_false];exact S undef w' (Al.refl _) am
 have Z:=a0 (Da hd (Array.replicate l.toArray.size false).toList) (Array.replicate l.toArray.size false) a w1 O qP (λt ht=>by have I:=AG ht;rw[Array.toList_replicate,List.getElem?_replicate,if_pos (by rw[List.size_toArray];omega)]) K (Al.refl _) (λt _=>by rw[V]) (λj _ r=>by rw[getD_replicate_false] at r;cases r);have e3:Da hd (Array.replicate l.toArray.size false).toList+J.length=l.toArray.size:=by have I:=Nat.eq_of_beq_eq_true hN;simpa using I
 rw[e3] at Z;exact Z
theorem Vf {x y z u p a b c d e:Value} (h:x=a) (j:y=b) (f:z=c) (i:u=d) (g:p=e):[x,y,z,u,p]=[a,b,c,d,e]:=by rw[h,j,f,i,g]
section
variable {P : Program} {N : Nat} {σ : B0} {w : World} {dst : Option Tmp} {ty : TypeId} {pos : String} {af : Array Edge} {g : Option (Nat × Bool)} {t : TypeId} {x y z u : Operand} {a b c d : Value} {i j k m : Nat}
theorem Vz (h:ev σ x=a):([(i,x)].map λ(i,x)=>(i,ev σ x))=[(i,a)]:=by simp only[List.map,h]
theorem Vn (h:ev σ x=a) (c:ev σ y=b):([(i,x),(j,y)].map λ(i,x)=>(i,ev σ x))=[(i,a),(j,b)]:=by simp only[List.map,h,c]
def R_ (e:Nat) (c:Array Value) (hs:Nat):EK:=λv w=>∃b,v=.pointer (some ⟨b,0,none⟩)∧Az w b c e∧hs<=b
theorem O3 (e:Nat) (c:Array Value) (hs:Nat):Jt (R_ e c hs):=by
 rintro v w w' x ⟨b,a,d,f⟩;exact ⟨b,a,Al.keep x d,f⟩
end
end Go.Eng
namespace Go.Eng
open Go
abbrev CO:=(Nat->Bool)->B0->EK
abbrev eF (u:Value):CO:=λ_ _ v _=>v=u
def HB (ds:List Nat) (Fs:List CO) (S:Nat->Bool) (j:Nat) (σ:B0) (w:World):Prop:=∀d F,ds[j]?=some d->Fs[j]?=some F->F S σ (σ d) w
def H4 (S:Nat->Bool) (i:Nat):Nat->Bool:=λj=>bif Nat.beq j i then true else S j
theorem Gl (S:Nat->Bool) (i:Nat):H4 S i i=true:=by simp[H4]
theorem Ih {S:Nat->Bool} {i j:Nat} (h:j≠i):H4 S i j=S j:=by
 have:Nat.beq j i=false:=by cases hb:Nat.beq j i;rfl;exact absurd (Nat.eq_of_beq_eq_true hb) h
 simp[H4,this]
def Ld:List (Nat×(Nat->Prop))->Nat->Nat->Prop
  | [],_,_=>False
  | p::r,j,y=>(j=p.1∧p.2 y)∨Ld r j y
theorem C8 {c:Nat} {M:Nat->Prop} {r:List (Nat×(Nat->Prop))} {j y:Nat} (h:Ld ((c,M)::r) j y):(j=c∧M y)∨Ld r j y:=h
theorem BX {S:Nat->Bool} {w w':World} (X:Chg (λy=>∃j,S j=true∧Ld [] j y) w w'):Chg Ab w w':=X.mono λy _ ⟨_,_,h⟩=>h.elim
theorem K3 {S:Nat->Bool} {w w':World} {c:Nat} {M:Nat->Prop} (a:S c=false) (X:Chg (λy=>∃j,S j=true∧Ld [(c,M)] j y) w w'):Chg Ab w w':=X.mono λy _ ⟨j,d,h⟩=>by
 rcases C8 h with ⟨rfl,_⟩|b
 .rw[d] at a;cases a
 .exact b.elim
theorem xN2 {S:Nat->Bool} {w w':World} {c d:Nat} {M M2:Nat->Prop} (b:S c=false) (a:S d=false) (X:Chg (λy=>∃j,S j=true∧Ld [(c,M),(d,M2)] j y) w w'):Chg Ab w w':=X.mono λy _ ⟨j,e,h⟩=>by
 rcases C8 h with ⟨rfl,_⟩|h
 .rw[e] at b;cases b
 rcases C8 h with ⟨rfl,_⟩|f
 .rw[e] at a;cases a
 .exact f.elim
theorem Uw {S:Nat->Bool} {w w':World} {c:Nat} {M:Nat->Prop} (X:Chg (λy=>∃j,S j=true∧Ld [(c,M)] j y) w w'):Chg M w w':=X.mono λy _ ⟨j,hj,h⟩=>by
 rcases C8 h with ⟨_,h⟩|a
 .exact h
 .exact a.elim
theorem xM2 {S:Nat->Bool} {w w':World} {c d:Nat} {M M2:Nat->Prop} (a:S d=false) (X:Chg (λy=>∃j,S j=true∧Ld [(c,M),(d,M2)] j y) w w'):Chg M w w':=X.mono λy _ ⟨j,b,h⟩=>by
 rcases C8 h with ⟨_,h⟩|h
 .exact h
 rcases C8 h with ⟨rfl,_⟩|e
 .rw[b] at a;cases a
 .exact e.elim
def Gp (N i:Nat) (hd:List Bool) (o:Oper) (d:Nat) (ws:List Nat):Bool:=
 (match o.dst with|some d'=>Nat.beq d' d && Nat.blt d N|none=>Nat.ble N d) && (o.after.all λe=>!Region.binds .any e || (Nat.blt e.on i && hd.getD e.on false)) && (ws.all λj=>o.after.any λe=>Region.binds .any e && Nat.beq e.on j) && JU hd o
def EX (N:Nat) (hd:List Bool):Nat->List Oper->List Nat->List (List Nat)->List Bool->Bool
  | _,[],[],[],[]=>true
  | i,o::l,d::ds,ws::wss,h::hs=>(bif h then Gp N i hd o d ws else Nat.ble N d) && EX N hd (i+1) l ds wss hs
  | _,_,_,_,_=>false
theorem FN {N:Nat} {hd:List Bool}:∀{i:Nat} {l:List Oper} {ds:List Nat} {wss:List (List Nat)} {hs:List Bool},EX N hd i l ds wss hs=true->∀{j:Nat} {o:Oper},l[j]?=some o->∃d ws h,ds[j]?=some d∧wss[j]?=some ws∧hs[j]?=some h∧(bif h then Gp N (i+j) hd o d ws else Nat.ble N d)=true
 | _,[],_,_,_,_,j,o,h=>by simp at h
 | i,x::l,[],_,_,hB,_,_,_=>by simp[EX] at hB
 | i,x::l,d::ds,[],_,hB,_,_,_=>by simp[EX] at hB
 | i,x::l,d::ds,ws::wss,[],hB,_,_,_=>by simp[EX] at hB
 | i,x::l,d::ds,ws::wss,h0::hs,hB,j,o,h=>by
  simp only[EX,Bool.and_eq_true] at hB;cases j with
  | zero=>simp at h;subst h;exact ⟨d,ws,h0,O,O,O,hB.1⟩
  | succ j=>
   simp at h;obtain ⟨e,a,c,f,b,k,g⟩:=FN hB.2 h;exact ⟨e,a,c,by simpa using f,by simpa using b,by simpa using k,by rw[show i+(j+1)=i+1+j from qO];exact g⟩
theorem Kp {N:Nat} {hd:List Bool}:∀{i:Nat} {l:List Oper} {ds:List Nat} {wss:List (List Nat)} {hs:List Bool},EX N hd i l ds wss hs=true->ds.length=l.length∧hs.length=l.length∧wss.length=l.length
 | _,[],[],[],[],_=>⟨O,O,O⟩
 | _,[],[],[],_::_,hB=>by simp[EX] at hB
 | _,[],[],_::_,_,hB=>by simp[EX] at hB
 | _,[],_::_,_,_,hB=>by simp[EX] at hB
 | i,x::l,[],_,_,hB=>by simp[EX] at hB
 | i,x::l,d::ds,[],_,hB=>by simp[EX] at hB
 | i,x::l,d::ds,ws::wss,[],hB=>by simp[EX] at hB
 | i,x::l,d::ds,ws::wss,h0::hs,hB=>by
  simp only[EX,Bool.and_eq_true] at hB;have:=Kp hB.2;simp[this.1,this.2.1,this.2.2]
def Jz (P:Program) (N:Nat) (ds:List Nat) (Fs:List CO) (σ:B0) (w:World) (Ms:Nat->Nat->Prop) (cl:List (List Nat)) (i:Nat) (o:Oper) (ws:List Nat) (F:CO):Prop:=
 ∀(S:Nat->Bool) σ' w',S i=false->(∀j,(cl.getD j []).contains i=true->S j=false)->Chg (λy=>∃j,S j=true∧Ms j y) w w'->(∀t,ds.contains t=false->σ' t=σ t)->(∀j d,ds[j]?=some d->S j=false->σ' d=σ d)->(∀j,ws.contains j=true->S j=true∧HB ds Fs S j σ' w')->
  (Hk ds o σ'∧CP (Ms i) P N o (λv w=>F (H4 S i) σ' (Go.Eng.valOf o v) w) σ' w')∨(O' ds o σ'∧F (H4 S i) σ' undef w')
def Au (Ms:Nat->Nat->Prop) (i:Nat) (ws:List Nat) (F:CO):Prop:=∀p,p≠i->ws.contains p=false->∀S σ v w w',S i=true->S p=false->Chg (Ms p) w w'->F S σ v w->F (H4 S p) σ v w'
def A_ (ds:List Nat) (ws:List Nat) (F:CO):Prop:=∀S (σ1 σ2:B0),(∀j d,ws.contains j=true->ds[j]?=some d->σ2 d=σ1 d)->∀v w,F S σ1 v w->F S σ2 v w
inductive DagStepsS (P:Program) (N:Nat) (ds:List Nat) (Fs:List CO) (σ:B0) (w:World) (Ms:Nat->Nat->Prop) (cl:List (List Nat)):Nat->List Oper->List (List Nat)->List Bool->List CO->Prop where
  | nil {i:Nat}:DagStepsS P N ds Fs σ w Ms cl i [] [] [] []
  | cons {i:Nat} {o:Oper} {ws:List Nat} {F:CO} {l:List Oper} {wss:List (List Nat)} {hs:List Bool} {Gs:List CO} (s:Au Ms i ws F) (lc:A_ ds ws F) (h:Jz P N ds Fs σ w Ms cl i o ws F) (t:DagStepsS P N ds Fs σ w Ms cl (i+1) l wss hs Gs):DagStepsS P N ds Fs σ w Ms cl i (o::l) (ws::wss) (true::hs) (F::Gs)
  | tail {i:Nat} {o:Oper} {ws:List Nat} {F:CO} {l:List Oper} {wss:List (List Nat)} {hs:List Bool} {Gs:List CO} (t:DagStepsS P N ds Fs σ w Ms cl (i+1) l wss hs Gs):DagStepsS P N ds Fs σ w Ms cl i (o::l) (ws::wss) (false::hs) (F::Gs)
def Lb (hd:List Bool):Nat->Bool:=λj=>hd.getD j false
def Jw (M:Nat->Prop) (ch:List PanicEntry) (X:World->Prop) (P:Program) (N:Nat) (o:Oper) (R:EK) (σ:B0) (w:World):Prop:=
 ∀dz a,Ok dz N a->C1 a=σ->∀(Q:Exit->Act->World->Prop) (K:Act->World->Prop),(∀v w',Chg M w w'->R v w'->K (a.put o.dst v) w')->(∀w',Chg M w w'->X w'->Q (.panic ch) a w')->o.wp P a w K Q
theorem CP.x {M:Nat->Prop} {ch:List PanicEntry} {X:World->Prop} {P:Program} {N:Nat} {o:Oper} {R:EK} {σ:B0} {w:World} (h:CP M P N o R σ w):Jw M ch X P N o R σ w:=λd a b e Q K c _=>h d a b e Q K c
theorem Jw.weak {M:Nat->Prop} {ch:List PanicEntry} {X:World->Prop} {P:Program} {N:Nat} {o:Oper} {R R':EK} {σ:B0} {w:World} (h:Jw M ch X P N o R σ w) (b:∀v w',Chg M w w'->R v w'->R' v w'):Jw M ch X P N o R' σ w:=λg a f i Q K e d=>h g a f i Q K (λv w' c r=>e v w' c (b v w' c r)) d
def J0 (P:Program) (N:Nat) (ds:List Nat) (Fs:List CO) (σ:B0) (w:World) (Ms:Nat->Nat->Prop) (Rs:Nat->World->World->Prop) (ch:List PanicEntry) (X:World->Prop) (cl:List (List Nat)) (i:Nat) (o:Oper) (ws:List Nat) (F:CO):Prop:=
 ∀(S:Nat->Bool) σ' w',S i=false->(∀j,(cl.getD j []).contains i=true->S j=false)->Chg (λy=>∃j,S j=true∧Ms j y) w w'->(∀t,ds.contains t=false->σ' t=σ t)->(∀j d,ds[j]?=some d->S j=false->σ' d=σ d)->(∀j,ws.contains j=true->S j=true∧HB ds Fs S j σ' w')->
  (Hk ds o σ'∧Jw (Ms i) ch X P N o (λv w=>F (H4 S i) σ' (Go.Eng.valOf o v) w∧Rs i w' w) σ' w')∨(O' ds o σ'∧F (H4 S i) σ' undef w'∧Rs i w' w')
def Du (Ms:Nat->Nat->Prop) (Rs:Nat->World->World->Prop) (cl:List (List Nat)) (i:Nat) (ws:List Nat) (F:CO):Prop:=∀p,p≠i->ws.contains p=false->∀S σ v w w',S i=true->S p=false->(∀j,(cl.getD p []).contains j=true->S j=true)->Chg (Ms p) w w'->Rs p w w'->F S σ v w->F (H4 S p) σ v w'
inductive DagStepsG (P:Program) (N:Nat) (ds:List Nat) (Fs:List CO) (σ:B0) (w:World) (Ms:Nat->Nat->Prop) (Rs:Nat->World->World->Prop) (ch:List PanicEntry) (X:World->Prop) (cl:List (List Nat)):Nat->List Oper->List (List Nat)->List Bool->List CO->Prop where
  | nil {i:Nat}:DagStepsG P N ds Fs σ w Ms Rs ch X cl i [] [] [] []
  | cons {i:Nat} {o:Oper} {ws:List Nat} {F:CO} {l:List Oper} {wss:List (List Nat)} {hs:List Bool} {Gs:List CO} (s:Du Ms Rs cl i ws F) (lc:A_ ds ws F) (h:J0 P N ds Fs σ w Ms Rs ch X cl i o ws F) (t:DagStepsG P N ds Fs σ w Ms Rs ch X cl (i+1) l wss hs Gs):DagStepsG P N ds Fs σ w Ms Rs ch X cl i (o::l) (ws::wss) (true::hs) (F::Gs)
  | tail {i:Nat} {o:Oper} {ws:List Nat} {F:CO} {l:List Oper} {wss:List (List Nat)} {hs:List Bool} {Gs:List CO} (t:DagStepsG P N ds Fs σ w Ms Rs ch X cl (i+1) l wss hs Gs):DagStepsG P N ds Fs σ w Ms Rs ch X cl i (o::l) (ws::wss) (false::hs) (F::Gs)
theorem DagStepsG.get {P:Program} {N:Nat} {ds:List Nat} {f:List CO} {σ:B0} {w:World} {Ms:Nat->Nat->Prop} {Rs:Nat->World->World->Prop} {ch:List PanicEntry} {X:World->Prop} {cl:List (List Nat)}:∀{i:Nat} {l:List Oper} {wss:List (List Nat)} {hs:List Bool} {g:List CO},DagStepsG P N ds f σ w Ms Rs ch X cl i l wss hs g->∀{j:Nat} {o:Oper},l[j]?=some o->hs[j]?=some true->∃ws F,wss[j]?=some ws∧g[j]?=some F∧Du Ms Rs cl (i+j) ws F∧A_ ds ws F∧J0 P N ds f σ w Ms Rs ch X cl (i+j) o ws F
 | _,_,_,_,_,.nil,j,o,h,_=>by simp at h
 | i,_,_,_,_,.cons s lc h t,0,o,ho,_=>by
  simp at ho;subst ho;exact ⟨_,_,O,O,s,lc,h⟩
 | _,_,_,_,_,.tail t,0,o,h,ht=>by simp at ht
 | i,_,_,_,_,.cons s lc h t,j+1,o,ho,ht=>by
  obtain ⟨ws,F,c,a,b,d,e⟩:=t.get (j:=j) (by simpa using ho) (by simpa using ht);exact ⟨ws,F,by simpa using c,by simpa using a,by rw[show i+(j+1)=i+1+j from qO];exact b,d,by rw[show i+(j+1)=i+1+j from qO];exact e⟩
 | i,_,_,_,_,.tail t,j+1,o,ho,ht=>by
  obtain ⟨ws,F,c,a,b,d,e⟩:=t.get (j:=j) (by simpa using ho) (by simpa using ht);exact ⟨ws,F,by simpa using c,by simpa using a,by rw[show i+(j+1)=i+1+j from qO];exact b,d,by rw[show i+(j+1)=i+1+j from qO];exact e⟩
def Hp (l:List Oper):Nat->Nat->Nat->Bool
  | 0,i,u=>GE l i u
  | k+1,i,u=>GE l i u || (List.range l.length).any λv=>GE l i v && Hp l k v u
def QL (l:List Oper) (hd:List Bool) (ts:List Nat):Bool:=
 (List.range l.length).all λi=>hd.getD i false || (ts.contains i && ((List.range l.length).all (λu=>!hd.getD u false || Hp l 4 i u) || ts.any λp=>!hd.getD p true && GE l i p))
theorem LB {l:List Oper} {listed:Array Bool} (d:∀(j:Nat) oj,l[j]?=some oj->listed.getD j false=true->∀e∈oj.after,Region.binds .any e=true->listed.getD e.on false=true) :
 ∀(k j u:Nat),listed.getD j false=true->Hp l k j u=true->listed.getD u false=true:=by
 have a:∀j u,listed.getD j false=true->GE l j u=true->listed.getD u false=true:=λj u c b=>by
  unfold GE at b;cases ho:l[j]? with
  | none=>rw[ho] at b;cases b
  | some o=>
   rw[ho] at b;simp only[Array.any_eq_true',Bool.and_eq_true] at b;obtain ⟨e,m,i,g⟩:=b;have:=Nat.eq_of_beq_eq_true g;rw[<-this];exact d j o ho c e m i
 intro k
 induction k with
 | zero=>intro j u c h;exact a j u c h
 | succ k ih=>
  intro j u c h;simp only[Hp,Bool.or_eq_true] at h;rcases h with h|h
  .exact a j u c h
  .obtain ⟨v,_,f⟩:=List.any_eq_true.1 h;rw[Bool.and_eq_true] at f;exact ih v u (a j v c f.1) f.2
theorem O7 {P:Program} {N:Nat} {Q:DN} {σ:B0} {w:World} {id:Nat} {l:List Oper} (Ms:Nat->Nat->Prop) (Rs:Nat->World->World->Prop) (ch:List PanicEntry) (X:World->Prop) (hd:List Bool) (ts:List Nat) (ds:List Nat) (wss cl:List (List Nat)) (Fs:List CO) {Gs:List CO} (hG:Fs=Gs) (hC:Oz wss cl=true) (hm:P.follows .mixedOrders=true) (hB:EX N hd 0 l ds wss hd=true) (hn:FY ds=true)
 (hT:(QL l hd ts && I8 l.toArray ts hd.toArray)=true) (hN:Nat.beq (Da hd (List.replicate l.length false)+ts.length) l.length=true)
 (a0:∀w1,Al w w1->DagStepsG P N ds Fs σ w1 Ms Rs ch X cl 0 l cl hd Gs)
 (hX:∀σ' w1 w',Al w w1->Chg (λy=>∃j,Ms j y) w1 w'->X w'->Q (.panic ch) σ' w')
 (k:∀σ' w1 w',Al w w1->Chg (λy=>∃j,hd.getD j false=true∧Ms j y) w1 w'->(∀t,ds.contains t=false->σ' t=σ t)->(∀j,hd[j]?=some true->HB ds Fs (Lb hd) j σ' w')->DL P N l.toArray (Q .normal) Q (ts.filterMap λk=>l[k]?) σ' w'):Wp P N (.region id l.toArray true) Q σ w:=by
 intro dz a ha D;have eQ:Dw dz N (J1 (Q .normal) Q)=Dw dz N Q:=by funext e a w;cases e<;>rfl
 refine wp_region_any hm ?_;obtain ⟨w1,bf⟩:∃w1:World,w1={w with drawn:=w.drawn+1}:=⟨_,O⟩;have a1:Al w w1:=by rw[bf];exact Er w
 rw[<-bf];have ay:=a0 w1 a1;rw[<-hG] at ay;rw[Bool.and_eq_true] at hT;obtain ⟨b0,b3⟩:=hT;obtain ⟨hlen,hlen2,hlen3⟩:=Kp hB
 let V:Array Bool->Nat->Bool:=λlisted j=>listed.getD j false
 have bm:∀(m:Nat) (listed:Array Bool) (a:Act) (w':World),Da hd listed.toList=m->listed.size=l.length->(∀(t:Nat),hd[t]?=some false->listed.toList[t]?=some false)->(∀(j:Nat) oj,l[j]?=some oj->listed.getD j false=true->∀e∈oj.after,Region.binds .any e=true->listed.getD e.on false=true)->Ok dz N a->Chg (λy=>∃j,listed.getD j false=true∧Ms j y) w1 w'->(∀t,ds.contains t=false->C1 a t=σ t)->(∀j d,ds[j]?=some d->listed.getD j false=false->C1 a d=σ d)->(∀j,hd[j]?=some true->listed.getD j false=true->HB ds Fs (V listed) j (C1 a) w')->
  wpAny P .any l.toArray (Dw dz N Q) (m+ts.length) listed a w':=by
  intro m
  induction m with
  | zero=>
   intro listed a w' bs bi ae ak ha hx hu az hh;have hl:listed=hd.toArray:=by
    apply Array.ext';exact G6 (by simp;omega) bs ae
   have a8:V listed=Lb hd:=by
    funext j;show listed.getD j false=hd.getD j false;rw[hl];simp[List.getD_eq_getElem?_getD]
   rw[Nat.zero_add];have h1:=k (C1 a) w1 w' a1 (hx.mono λy _ h=>by
    obtain ⟨j,h1,h2⟩:=h;have:Lb hd j=true:=by rw[<-a8];exact h1
    exact ⟨j,this,h2⟩) hu (λj r=>by rw[<-a8];exact hh j r (Db (by rw[hl];exact r))) dz a ha O
   rw[eQ] at h1;exact FA ts listed a w' (by rw[hl];exact b3) (by simpa using h1)
  | succ m ih=>
   intro listed a w' hcm bi ae ak ha hx hu az hh;obtain ⟨i0,ar,ba⟩:=Hy (hd:=hd) (listed:=listed.toList) qO;rw[show m+1+ts.length=(m+ts.length)+1 by omega];refine ⟨λhr=>?_,λi hi=>?_⟩
   .exfalso;have bk:∀i:Nat,hd[i]?=some true->listed.getD i true=true:=by
     intro i
     induction i using Nat.strongRecOn with
     | _ i ihi=>
      intro hi;cases hv:listed.getD i true with
      | true=>rfl
      | false=>
       exfalso;obtain ⟨o,ho⟩:=AK (l:=l) (i:=i) (by have:=AG hi;omega);obtain ⟨d,ws,h,_,_,h2,h3⟩:=FN hB ho;rw[hi] at h2;cases h2;simp only[cond_true,Gp,Bool.and_eq_true,Nat.zero_add] at h3;have:i∈Region.ready .any l.toArray listed:=by
        refine mem_ready.2 ⟨hv,o,by simpa using ho,λe D hb=>?_⟩;have h4:=h3.1.1.2;simp only[Array.all_eq_true_iff_forall_mem,Bool.or_eq_true,Bool.not_eq_true',Bool.and_eq_true] at h4;have g:=(h4 e D).resolve_left (by simp[hb]);have R:e.on<i:=by simpa[Nat.blt_eq] using g.1
        have U:=g.2;have a7:e.on<hd.length:=by have:=AG hi;omega
        have h8:hd[e.on]?=some true:=by
         rw[List.getD_eq_getElem?_getD,List.getElem?_eq_getElem a7,Option.getD_some] at U;rw[List.getElem?_eq_getElem a7,U]
        have h9:=ihi e.on R h8;have r:e.on<listed.size:=qO
        simpa only[Array.getD_eq_getD_getElem?,Array.getElem?_eq_getElem r,Option.getD_some] using h9
       rw[hr] at this;cases this
    have:=bk i0 ar;rw[Db ba] at this;cases this
   .obtain ⟨h1,o,h2,h3⟩:=mem_ready.1 hi;have ho:l[i]?=some o:=by simpa using h2
    have bv:i<l.length:=AG ho;have al:hd[i]?=some true:=by
     obtain ⟨b,hb⟩:=AK (l:=hd) (i:=i) qO;cases b with
     | true=>exact hb
     | false=>
      exfalso;have h4:=List.all_eq_true.1 b0 i (List.mem_range.2 bv);rw[List.getD_eq_getElem?_getD,hb,Option.getD_some,Bool.false_or,Bool.and_eq_true,Bool.or_eq_true] at h4;have aj:∀u,GE l i u=true->listed.getD u false=true:=λu ao=>by
       unfold GE at ao;rw[ho] at ao;simp only[Array.any_eq_true',Bool.and_eq_true] at ao;obtain ⟨e,D,aa,ai⟩:=ao;have:=Nat.eq_of_beq_eq_true ai;rw[<-this];exact h3 e D aa
      rcases h4.2 with h5|h5
      .have g:=List.all_eq_true.1 h5 i0 (List.mem_range.2 (by have:=AG ar;omega));rw[List.getD_eq_getElem?_getD,ar,Option.getD_some,Bool.not_true,Bool.false_or] at g;have:listed.getD i0 false=true:=by
        simp only[Hp,Bool.or_eq_true] at g;rcases g with g|g
        .exact aj i0 g
        .obtain ⟨v,_,U⟩:=List.any_eq_true.1 g;rw[Bool.and_eq_true] at U;refine LB ak 3 v i0 (aj v U.1) ?_;simp only[Hp];exact U.2
       rw[Db ba] at this;cases this
      .obtain ⟨p,_,g⟩:=List.any_eq_true.1 h5;rw[Bool.and_eq_true,Bool.not_eq_true'] at g;have U:=aj p g.2;have hp:hd[p]?=some false:=by
        have h8:=g.1;rw[List.getD_eq_getElem?_getD] at h8;cases h9:hd[p]? with
        | none=>rw[h9] at h8;cases h8
        | some b=>rw[h9,Option.getD_some] at h8;rw[h8]
       rw[Db (ae p hp)] at U;cases U
    obtain ⟨d,ws,h,ab,bq,bb,h4⟩:=FN hB ho;rw[al] at bb;cases bb;obtain ⟨ci,F,a5,hF,aw,bg,af⟩:=ay.get ho al;rw[Nat.zero_add] at aw af;simp only[cond_true,Gp,Bool.and_eq_true,List.all_eq_true,Array.any_eq_true',Nat.zero_add] at h4;obtain ⟨⟨⟨B,_⟩,av⟩,ah⟩:=h4;have I:∀j,listed.getD j false=true->hd[j]?=some true:=λj r=>by
     obtain ⟨b,hb⟩:=AK (l:=hd) (i:=j) (by
      rcases Nat.lt_or_ge j listed.size with h9|h9
      .omega
      .simp[Array.getD_eq_getD_getElem?,Array.getElem?_eq_none h9] at r)
     cases b with
     | true=>exact hb
     | false=>rw[Db (ae j hb)] at r;cases r
    have a4:∀j,listed.getD j false=true->∀c,(cl.getD j []).contains c=true->listed.getD c false=true:=by
     intro j
     induction j using Nat.strongRecOn with
     | _ j ihj=>
      intro C c hc;have Z:=I j C;obtain ⟨oc,bd⟩:=AK (l:=l) (i:=j) (by have:=AG Z;omega);obtain ⟨dc,bo,hb,_,a3,a6,h5⟩:=FN hB bd;rw[Z] at a6;cases a6;simp only[cond_true,Gp,Bool.and_eq_true,List.all_eq_true,Array.any_eq_true',Array.all_eq_true_iff_forall_mem,Bool.or_eq_true,Bool.not_eq_true',Nat.zero_add] at h5;have z:∀E∈bo,listed.getD E false=true∧E<j:=by
       intro E L;obtain ⟨e,D,aa,ai⟩:=h5.1.2 E L;have bx:e.on=E:=Nat.eq_of_beq_eq_true ai;have g:=ak j oc bd C e D aa;have U:=(h5.1.1.2 e D).resolve_left (by simp[aa]);rw[bx] at g U;exact ⟨g,by simpa[Nat.blt_eq] using U.1⟩
      rcases Gq hC a3 hc with g|⟨E,L,g⟩
      .exact (z c g).1
      .exact ihj E (z E L).2 (z E L).1 c g
    have J:∀j,ci.contains j=true->listed.getD j false=true:=by
     intro j r;have G:(cl.getD i []).contains j=true:=by rw[List.getD_eq_getElem?_getD,a5,Option.getD_some];exact r
     have z:∀E∈ws,listed.getD E false=true:=by
      intro E L;obtain ⟨e,D,aa,ai⟩:=av E L;have:e.on=E:=Nat.eq_of_beq_eq_true ai;exact this▸h3 e D aa
     rcases Gq hC bq G with g|⟨E,L,g⟩
     .exact z j g
     .exact a4 E (z E L) j g
    have a2:∀j,(cl.getD i []).contains j=true->V listed j=true:=λj r=>J j (by rw[List.getD_eq_getElem?_getD,a5,Option.getD_some] at r;exact r);have bc:V listed i=false:=getD_both h1;have be:∀j,(cl.getD j []).contains i=true->V listed j=false:=by
     intro j r;cases C:V listed j with
     | false=>rfl
     | true=>
      exfalso;have:=a4 j C i r;rw[getD_both h1] at this;cases this
    have hH:∀j,ci.contains j=true->V listed j=true∧HB ds Fs (V listed) j (C1 a) w':=λj r=>⟨J j r,hh j (I j (J j r)) (J j r)⟩;have M:i<listed.size:=qO
    have bw:V (listed.setIfInBounds i true)=H4 (V listed) i:=by
     funext j;by_cases n:j=i
     .subst n;rw[Gl];show (listed.setIfInBounds j true).getD j false=true;simp[Array.getD_eq_getD_getElem?,M]
     .rw[Ih n];exact getD_set_ne _ (Ne.symm n)
    have T:∀W,Chg (Ms i) w' W->Chg (λy=>∃j,(listed.setIfInBounds i true).getD j false=true∧Ms j y) w1 W:=by
     intro W ad;have hg:(listed.setIfInBounds i true).getD i false=true:=by simp[Array.getD_eq_getD_getElem?,M]
     refine Chg.step (hx.mono λy _ h=>?_) ad (λy _ h=>⟨i,hg,h⟩);obtain ⟨j,h5,g⟩:=h;by_cases n:j=i
     .exact ⟨i,hg,n▸g⟩
     .exact ⟨j,by rw[getD_set_ne _ (Ne.symm n)];exact h5,g⟩
    have aq:∀v W,Chg (Ms i) w' W->F (H4 (V listed) i) (C1 a) (Go.Eng.valOf o v) W∧Rs i w' W->wpAny P .any l.toArray (Dw dz N Q) (m+ts.length) (listed.setIfInBounds i true) (a.put o.dst v) W:=by
     rintro v W ad ⟨hv,ax⟩;have A:(∀t,t≠d->C1 (a.put o.dst v) t=C1 a t)∧C1 (a.put o.dst v) d=Go.Eng.valOf o v:=by
      cases hod:o.dst with
      | none=>
       rw[hod] at B;have b1:N<=d:=Nat.le_of_ble_eq_true B;refine ⟨λt _=>rfl,?_⟩;simp only[Go.Eng.valOf,hod];show a.tmps.getD d undef=undef;have:a.tmps.size<=d:=by rw[ha.size];exact b1
       simp[Array.getElem?_eq_none this]
      | some d'=>
       rw[hod] at B;simp only[Bool.and_eq_true] at B;have b2:d'=d:=Nat.eq_of_beq_eq_true B.1;have s:d<N:=by simpa[Nat.blt_eq] using B.2
       subst b2;rw[DT ha s v];refine ⟨λt ht=>?_,?_⟩
       .have:Nat.beq t d'=false:=by cases hb:Nat.beq t d';rfl;exact absurd (Nat.eq_of_beq_eq_true hb) ht
        simp[Ef,this]
       .simp[Ef,Go.Eng.valOf,hod]
     have b5:listed.toList[i]?=some false:=by
      simp only[Array.getD_eq_getD_getElem?,Array.getElem?_eq_getElem M,Option.getD_some] at h1;rw[Array.getElem?_toList,Array.getElem?_eq_getElem M,h1]
     refine ih _ _ _ ?_ (by simpa using bi) (λt ht=>?_) (λj oj q C e D hb=>?_) (ha.put _ _) (T W ad) ?_ ?_ ?_
     .rw[Array.toList_setIfInBounds];have:=Hx al b5;omega
     .rw[Array.toList_setIfInBounds,List.getElem?_set];have au:i≠t:=λe=>by rw[<-e,al] at ht;cases ht
      rw[if_neg au];exact ae t ht
     .refine getD_set_true ?_;by_cases n:j=i
      .subst n;rw[ho] at q;cases q;exact h3 e D hb
      .rw[getD_set_ne _ (Ne.symm n)] at C;exact ak j oj q C e D hb
     .intro t ht;rw[A.1 t (λh=>by
       subst h;have:=List.mem_of_getElem? ab;simp[this] at ht),hu t ht]
     .intro j d2 s an;by_cases n:j=i
      .subst n;have br:(listed.setIfInBounds j true).getD j false=true:=by simp[Array.getD_eq_getD_getElem?,M]
       rw[br] at an;cases an
      .rw[getD_set_ne _ (Ne.symm n)] at an;rw[A.1 d2 (λh=>by subst h;exact n (Cg hn s ab)),az j d2 s an]
     .intro j Z r d2 F2 s am;rw[bw];by_cases n:j=i
      .subst n;rw[ab] at s;cases s;rw[hF] at am;cases am;rw[A.2];refine bg _ (C1 a) _ (λj' d2 G s=>A.1 d2 λD=>?_) _ _ hv;have:=Cg hn (D▸s) ab;subst this;have:=J j' G;rw[getD_both h1] at this;cases this
      .have au:d2≠d:=by
        intro h;subst h;exact n (Cg hn s ab)
       rw[A.1 d2 au];rw[getD_set_ne _ (Ne.symm n)] at r;have g:=hh j Z r d2 F2 s am;obtain ⟨oj,q⟩:=AK (l:=l) (i:=j) (by have:=AG Z;omega);obtain ⟨cj,Fj,bu,bh,bj,C,_⟩:=ay.get q Z;rw[am] at bh;cases bh;rw[Nat.zero_add] at bj;have b4:cl.getD j []=cj:=by rw[List.getD_eq_getElem?_getD,bu,Option.getD_some]
       have S:cj.contains i=false:=by
        cases S:cj.contains i with
        | false=>rfl
        | true=>
         exfalso;have:=be j (by rw[b4];exact S);have G:V listed j=true:=r;rw[G] at this;cases this
       refine C _ (C1 a) _ (λj' d3 G bt=>A.1 d3 λD=>?_) _ _ (bj i (Ne.symm n) S (V listed) (C1 a) _ _ _ r bc a2 ad ax g);have h8:=Cg hn (D▸bt) ab;subst h8;rw[S] at G;cases G
    have gd:∀j b,o.guard=some (j,b)->∀H,ds[j]?=some H->((∃oj,l[j]?=some oj∧oj.dst=some H)∧H<N)∨(N<=H∧∃oj,l[j]?=some oj∧oj.dst=none):=λj b x H ac=>by
     obtain ⟨oj,q⟩:=AK (l:=l) (i:=j) (by have:=AG ac;omega);obtain ⟨dj',_,r,ap,_,h5,g⟩:=FN hB q;rw[ac] at ap;cases ap;unfold JU at ah;rw[x] at ah;simp only at ah;have U:r=true:=by rw[List.getD_eq_getElem?_getD,h5,Option.getD_some] at ah;exact ah
     rw[U] at g;simp only[cond_true,Bool.and_eq_true,Gp] at g;have f:=g.1.1.1;split at f
     .rename_i d2 hq
      rw[Bool.and_eq_true] at f;exact .inl ⟨⟨oj,q,by rw[hq,Nat.eq_of_beq_eq_true f.1]⟩,by simpa[Nat.blt_eq] using f.2⟩
     .rename_i hq
      exact .inr ⟨Nat.le_of_ble_eq_true f,oj,q,hq⟩
    rcases af (V listed) (C1 a) w' bc be hx hu az hH with ⟨hg,bn⟩|⟨⟨j,b,H,x,ac,K⟩,a9,ax⟩
    .have hw:Region.wanted o (yielded l.toArray a.tmps)=true:=by
      cases x:o.guard with
      | none=>simp[Region.wanted,x]
      | some p=>
       obtain ⟨j,b⟩:=p;obtain ⟨H,ac,K⟩:=hg j b x;rcases gd j b x H ac with ⟨f,ag⟩|⟨bz,_⟩
       .have g:a.tmps[H]?=some (Value.bool b):=by
         have h2:a.tmps.getD H undef=.bool b:=K;have R:H<a.tmps.size:=by rw[ha.size];exact ag
         rw[Array.getElem?_eq_getElem R];simpa[R] using h2
        obtain ⟨oj,q,f⟩:=f;simp[Region.wanted,x,yielded,q,f,g]
       .exfalso;have h2:a.tmps.getD H undef=.bool b:=K;have:a.tmps.size<=H:=by rw[ha.size];exact bz
        simp[Array.getElem?_eq_none this,undef] at h2
     unfold wpOp;simp only[h2,hw,if_true];exact Or.inl (bn _ a ha O _ _ aq (λW ad bp=>⟨ha,hX (C1 a) w1 W a1 ((T W ad).mono λy _ h=>h.imp λj h=>h.2) bp⟩))
    .have hw:Region.wanted o (yielded l.toArray a.tmps)=false:=by
      rcases gd j b x H ac with ⟨f,ag⟩|⟨_,oj,q,hq⟩
      .have R:H<a.tmps.size:=by rw[ha.size];exact ag
       have g:a.tmps[H]?=some (C1 a H):=by
        rw[Array.getElem?_eq_getElem R];simp[C1,R]
       obtain ⟨oj,q,f⟩:=f;rcases K with K|K
       .rw[K] at g;cases b<;>simp[Region.wanted,x,yielded,q,f,g]
       .rw[K] at g;simp[Region.wanted,x,yielded,q,f,g,undef]
      .simp[Region.wanted,x,yielded,q,hq]
     unfold wpOp;simp only[h2,hw,Bool.false_eq_true,if_false];exact aq undef w' (Chg.refl _ _) (by
      have:Go.Eng.valOf o undef=undef:=by unfold Go.Eng.valOf;split<;>rfl
      rw[this];exact ⟨a9,ax⟩)
 have h1:=bm (Da hd (Array.replicate l.toArray.size false).toList) (Array.replicate l.toArray.size false) a w1 O qP (λt ht=>by have h9:=AG ht;rw[Array.toList_replicate,List.getElem?_replicate,if_pos (by rw[List.size_toArray];omega)]) (λj oj _ hl=>(by rw[getD_replicate_false] at hl;cases hl)) ha (Chg.refl _ _) (λt _=>by rw[D]) (λj d _ _=>by rw[D]) (λj _ r=>by rw[getD_replicate_false] at r;cases r);have e3:Da hd (Array.replicate l.toArray.size false).toList+ts.length=l.toArray.size:=by have h9:=Nat.eq_of_beq_eq_true hN;simpa using h9
 rw[e3] at h1;exact h1
theorem Jz.toG {P:Program} {N:Nat} {ds:List Nat} {j:List CO} {σ:B0} {w:World} {Ms:Nat->Nat->Prop} {cl:List (List Nat)} {i:Nat} {o:Oper} {ws:List Nat} {F:CO} (h:Jz P N ds j σ w Ms cl i o ws F):J0 P N ds j σ w Ms (λ_ _ _=>True) [] (λ_=>False) cl i o ws F:=λS σ' w' a b c d e f=>
 (h S σ' w' a b c d e f).imp (λ⟨g,h⟩=>⟨g,(CP.x h).weak λ_ _ _ r=>⟨r,trivial⟩⟩) λ⟨u,f⟩=>⟨u,f,trivial⟩
theorem DagStepsS.toG {P:Program} {N:Nat} {ds:List Nat} {a:List CO} {σ:B0} {w:World} {Ms:Nat->Nat->Prop} {cl:List (List Nat)}:∀{i:Nat} {l:List Oper} {wss:List (List Nat)} {hs:List Bool} {b:List CO},DagStepsS P N ds a σ w Ms cl i l wss hs b->DagStepsG P N ds a σ w Ms (λ_ _ _=>True) [] (λ_=>False) cl i l wss hs b
 | _,_,_,_,_,.nil=>.nil
 | _,_,_,_,_,.cons s lc h t=>.cons (λp e c S σ v w w' hi g _ f _ d=>s p e c S σ v w w' hi g f d) lc h.toG t.toG
 | _,_,_,_,_,.tail t=>.tail t.toG
theorem EJ {P:Program} {N:Nat} {Q:DN} {σ:B0} {w:World} {n:Nat} {l:List Oper} (Ms:Nat->Nat->Prop) (hd:List Bool) (b:List Nat) (ds:List Nat) (wss cl:List (List Nat)) (c:List CO) {d:List CO} (o:c=d) (m:Oz wss cl=true) (p:P.follows .mixedOrders=true) (q:EX N hd 0 l ds wss hd=true) (i:FY ds=true)
 (g:(QL l hd b && I8 l.toArray b hd.toArray)=true) (f:Nat.beq (Da hd (List.replicate l.length false)+b.length) l.length=true)
 (a:∀w1,Al w w1->DagStepsS P N ds c σ w1 Ms cl 0 l cl hd d)
 (k:∀σ' w1 w',Al w w1->Chg (λy=>∃j,hd.getD j false=true∧Ms j y) w1 w'->(∀t,ds.contains t=false->σ' t=σ t)->(∀j,hd[j]?=some true->HB ds c (Lb hd) j σ' w')->DL P N l.toArray (Q .normal) Q (b.filterMap λk=>l[k]?) σ' w'):Wp P N (.region n l.toArray true) Q σ w:=
 O7 Ms (λ_ _ _=>True) [] (λ_=>False) hd b ds wss cl c o m p q i g f (λw1 e=>(a w1 e).toG) (λ_ _ _ _ _ h=>h.elim) k
section
variable {Ms : Nat → Nat → Prop} {i : Nat} {ws ds : List Nat}
theorem Au.eq {u:Value}:Au Ms i ws (λ_ _ v _=>v=u):=λ_ _ _ _ _ _ _ _ _ _ _ h=>h
theorem Au.chg {F:EK} {U:Nat->Prop} (a:∀v w w',Chg U w w'->F v w->F v w') (b:∀p y,p≠i->ws.contains p=false->Ms p y->U y):Au Ms i ws (λ_ _=>F):=
 λp d c _ _ v w w' _ _ x h=>a v w w' (x.mono λy _ e=>b p y d c e) h
theorem Au.till {F:EK} {U:Nat->Prop} {c:Nat} (d:∀v w w',Chg U w w'->F v w->F v w') (f:∀p y,p≠i->ws.contains p=false->p≠c->Ms p y->U y):Au Ms i ws (λS _ v w=>S c=false->F v w):=
 λp j g S _ v w w' _ _ x h b=>by
  have a:p≠c:=λe=>by subst e;rw[Gl] at b;cases b
  rw[Ih (Ne.symm a)] at b;exact d v w w' (x.mono λy _ k=>f p y j g a k) (h b)
theorem A_.const {G:(Nat->Bool)->EK}:A_ ds ws (λS _=>G S):=λ_ _ _ _ _ _ h=>h
end
theorem qZ {P:Program} {N:Nat} {ds:List Nat} {g:List CO} {σ:B0} {w:World} {Ms:Nat->Nat->Prop} {cl:List (List Nat)} {i:Nat} {dst:Option Tmp} {op:Op} {ty:TypeId} {pos:String} {af:Array Edge} {ws:List Nat} {u:Value} {l:List Oper} {wss:List (List Nat)} {hs:List Bool} {k:List CO}
 (h:∀(S:Nat->Bool) σ' w',S i=false->(∀j,(cl.getD j []).contains i=true->S j=false)->Chg (λy=>∃j,S j=true∧Ms j y) w w'->(∀t,ds.contains t=false->σ' t=σ t)->(∀j d,ds[j]?=some d->S j=false->σ' d=σ d)->(∀j,ws.contains j=true->S j=true∧HB ds g S j σ' w')->CP (Ms i) P N ⟨dst,op,ty,pos,af,none⟩ (λv _=>Go.Eng.valOf ⟨dst,op,ty,pos,af,none⟩ v=u) σ' w')
 (t:DagStepsS P N ds g σ w Ms cl (i+1) l wss hs k):DagStepsS P N ds g σ w Ms cl i (⟨dst,op,ty,pos,af,none⟩::l) (ws::wss) (true::hs) ((eF u)::k):=
 .cons Au.eq A_.const (λS m w' a b c d e f=>.inl ⟨AQ O,h S m w' a b c d e f⟩) t
section
variable {M : Nat → Prop} {P : Program} {N : Nat} {o : Oper} {R : EK} {σ : B0} {w : World} {dst : Option Tmp} {ty : TypeId} {pos : String} {af : Array Edge} {g : Option (Nat × Bool)} {t : TypeId}
theorem AH {v:Value} (a:(execOp (ev σ) o).run P w=.ok (.value v) w) (h:R v w):CP M P N o R σ w:=AR a (Chg.refl _ _) h
theorem Gf {R R':EK} (h:CP M P N o R σ w) (f:∀v w,R v w->R' (Go.Eng.valOf o v) w):CP M P N o (λv w=>R' (Go.Eng.valOf o v) w) σ w:=λg a d i Q K e=>h g a d i Q K λv c b j=>e v c b (f v c j)
theorem ET {f:FuncId} {args:Array Value} (b:(execOp (ev σ) o).run P w=.ok (.enter f args) w) (a:CB P f args w λv w'=>R v w'∧Al w w'):CP M P N o R σ w:=
 Dv b (a.mono λ_ _ h=>⟨h.1,Al.chg h.2⟩)
theorem IT {d hs:Nat} {z:Value} {c:Array Value} (b:D_ P t z) (f:z.cells=c) (e:hs<=w.heap.size):CP M P N ⟨some d,.alloc t,ty,pos,af,g⟩ (R_ t c hs) σ w:=by
 subst f;have a:=New.mk' w z.cells t;exact AR (v:=.pointer (some ⟨w.heap.size,0,none⟩)) (by simp[execOp,Instr.alloc,b.run,newVar,newRow]) (Al.chg a.ext) ⟨_,O,a.blk,e⟩
end
def PF (st:Nat) (rest:List Value) (G:EK):CO:=λS _ v w=>∃u,v=.tuple (u::rest).toArray∧(S st=false->G u w)
def Ql (sa n:Nat) (T:TypeId) (G:EK):CO:=λ_ s _ w=>∃b vs,s sa=.pointer (some ⟨b,0,none⟩)∧n<=b∧Az w b vs T∧G (.agg vs) w
section
variable {Ms : Nat → Nat → Prop} {i : Nat} {ws ds : List Nat}
theorem Au.tup {st:Nat} {rest:List Value} {G:EK} {U:Nat->Prop} (l:∀v w w',Chg U w w'->G v w->G v w') (c:∀p y,p≠i->ws.contains p=false->p≠st->Ms p y->U y):Au Ms i ws (PF st rest G):=
 λp g d S _ v w w' _ _ x h=>by
  obtain ⟨u,f,k⟩:=h;refine ⟨u,f,λb=>?_⟩;have a:p≠st:=λe=>by subst e;rw[Gl] at b;cases b
  rw[Ih (Ne.symm a)] at b;exact l u w w' (x.mono λy _ j=>c p y g d a j) (k b)
theorem Au.put {g n:Nat} {T:TypeId} {G:EK} (o:∀v w w',Al w w'->G v w->G v w') (d:∀p y,p≠i->ws.contains p=false->Ms p y->False):Au Ms i ws (Ql g n T G):=
 λp j e _ _ v w w' _ _ x h=>by
  obtain ⟨b,vs,f,m,l,c⟩:=h;have a:Al w w':=x.mono λy _ k=>(d p y j e k).elim;exact ⟨b,vs,f,m,Al.keep a l,o _ _ _ a c⟩
theorem A_.put {a n j:Nat} {T:TypeId} {G:EK} (e:ws.contains j=true) (hd:ds[j]?=some a):A_ ds ws (Ql a n T G):=
 λ_ σ1 σ2 hs v w h=>by
  obtain ⟨b,vs,d,c⟩:=h;exact ⟨b,vs,by rw[hs j a e hd];exact d,c⟩
end
theorem OL {M:Nat->Prop} {P:Program} {N:Nat} {σ:B0} {w:World} {ty:TypeId} {pos:String} {af:Array Edge} {g:Option (Nat×Bool)} {T:TypeId} {x y:Operand} {b n:Nat} {u:Value} {c:Array Value} {G:EK} (l:ev σ x=.pointer (some ⟨b,0,none⟩)) (o:ev σ y=u) (f:G u w) (i:Az w b c T) (hc:c.size=n) (hs:DD P T n)
 (a:∀u w,G u w->∃vs:Array Value,u=.agg vs∧vs.size=n∧∀v∈vs.toList,v.oneCell'=true) (d:∀u w w',Az w b c T->Chg (λy=>y=b) w w'->G u w->G u w') (j:M b) :
 CP M P N ⟨none,.store T x y,ty,pos,af,g⟩ (λ_ w'=>∃vs,Az w' b vs T∧G (.agg vs) w') σ w:=by
 obtain ⟨vs,rfl,m,k⟩:=a u w f;refine Jx l o k hs m i qO j λw' h=>⟨vs,?_,d _ _ _ i h.chg f⟩;have e:=h.blk;rw[List.take_zero,List.nil_append,Nat.zero_add,List.drop_of_length_le (by simp;omega),List.append_nil] at e;simpa using e
end Go.Eng
namespace Go.Proofs
open Go Go.Eng Go.Sort
set_option maxRecDepth 100000
--BEGIN
def Vw (both:Bool) (x y:Int):Bool:=bif both then decide (0<=x) && decide (0<=y) else decide (0<=x) || decide (0<=y)
def Va (both:Bool) (a b:Dfa) (k:Int×Int) (x:Nat):Option (Int×Int):=bif Vw both (Bu a k.1 x) (Bu b k.2 x) then some (Bu a k.1 x,Bu b k.2 x) else none
def Vx (both:Bool) (x y:Int):Int:=if (both && decide (y<0))=true then -1 else if (both || decide (0<=x))=true then x else y
def Vj {α:Type} (c most:Nat) (stp:α->Nat->Option α) (acc:α->Int) (a0:α) (base:Nat):EK:=λv w=>∃D ea ec na nc vs,v=.agg #[.int .i64 D.start,.slice ea D.accept.length ec,.slice na D.next.length nc]∧ExpOf c most stp acc a0 D∧OutSt w base (.slice ea D.accept.length ec) (.slice na D.next.length nc) vs D.accept D.next
theorem OutSt.dfa {w:World} {base:Nat} {a d:Option Addr} {c b:Nat} {vs:List Value} {D:Dfa} (h:OutSt w base (.slice a D.accept.length c) (.slice d D.next.length b) vs D.accept D.next):BC w D [.int .i64 D.start,.slice a D.accept.length c,.slice d D.next.length b]:=
 ⟨a,c,d,b,O,DR h.e O,h.intss⟩
end Go.Proofs
namespace Go.Proofs
open Go Go.Eng Go.Sort
set_option maxRecDepth 100000
theorem NW (a b:Dfa):a=b↔a.start=b.start∧a.accept=b.accept∧a.next=b.next:=by
 cases a;cases b;simp
instance:DecidableEq Dfa:=λa b=>decidable_of_iff _ (NW a b).symm
end Go.Proofs
namespace Go.Proofs
open Go Go.Eng Go.Sort
set_option maxRecDepth 100000
--BEGIN
theorem Cj.ok {c:Nat} {f:List Nat->Int} {C:Dfa} (h:Cj c f C):OkD C.next.length c C∧C.start=0∧(∀w,C0 c w->beh C C.start w=f w)∧1<=C.next.length:=by
 obtain ⟨m,b,a,_,_⟩:=h;have e:=b.ok.nl;have:=b.ok.st;exact ⟨by rw[e];exact b.ok,b.st,λw d=>by rw[b.st];exact a w d,qO⟩
--END
end Go.Proofs
namespace Go.Eng
open Go
theorem L4 {P:Program} {σ:B0} {w:World} {dst:Option Tmp} {ty:TypeId} {pos:String} {af:Array Edge} {g:Option (Nat×Bool)} {t:TypeId} {x y:Operand} {k:ByteArray} {n:Nat} {b:UInt8} {c:Int} (a:P.underlying t=some .string) (h:ev σ x=.string k) (i:ev σ y=.int .i64 ((n:Nat):Int)) (d:k[n]?=some b) (e:(b.toNat:Int)=c) :
 (execOp (ev σ) ⟨dst,.index t x y,ty,pos,af,g⟩).run P w=.ok (.value (.int .u8 c)) w:=by
 subst e;have f:(0:Int)<=((n:Nat):Int):=qO
 simp[execOp,h,i,Instr.index,asIntOf,run_underlying a,f,d]
end Go.Eng
namespace Go.Proofs
open Go Go.Eng Go.Sort
set_option maxRecDepth 100000
--BEGIN
end Go.Proofs
namespace Go.Proofs
open Go Go.Eng Go.Sort
set_option maxRecDepth 100000
theorem Qq:∀b:Nat,b<256->∀j:Nat,j<8->b ||| 2 ^ j=b+(if b / 2 ^ j % 2=1 then 0 else 2 ^ j)∧b ||| 2 ^ j<256:=by decide +kernel
theorem Tv {n:Nat} (h:n<256):IntKind.u8.wrap ((n:Nat):Int)=((n:Nat):Int):=by
 have:=QG ((n:Nat):Int);rw[this];omega
theorem LF (m:Nat) (h:m<256):(BitVec.ofInt 8 (m:Int)).toNat=m:=by
 rw[BitVec.toNat_ofInt];omega
theorem Vv {P:Program} {w:World} {a b c:Nat} (ha:a<256) (hb:b<256) (e:a ||| b=c) (d:c<256):(Op.intBits .or .u8 ((a:Nat):Int) ((b:Nat):Int)).run P w=.ok (.int .u8 ((c:Nat):Int)) w:=by
 show Result.ok (Value.int .u8 (IntKind.u8.wrap ((BitVec.ofInt 8 ((a:Nat):Int) ||| BitVec.ofInt 8 ((b:Nat):Int):BitVec 8).toNat:Int))) w=_;rw[BitVec.toNat_or,LF a qO,LF b qO,e,Tv d]
theorem VM {P:Program} {w:World} {a b c:Nat} (ha:a<256) (hb:b<256) (e:a &&& b=c) (d:c<256):(Op.intBits .and .u8 ((a:Nat):Int) ((b:Nat):Int)).run P w=.ok (.int .u8 ((c:Nat):Int)) w:=by
 show Result.ok (Value.int .u8 (IntKind.u8.wrap ((BitVec.ofInt 8 ((a:Nat):Int) &&& BitVec.ofInt 8 ((b:Nat):Int):BitVec 8).toNat:Int))) w=_;rw[BitVec.toNat_and,LF a qO,LF b qO,e,Tv d]
theorem Vc {j:Nat} (h:j<8):2 ^ j<256:=by
 have:=Nat.pow_le_pow_right (show 0<2 by decide) (show j<=7 by omega);omega
theorem QV {j:Nat} (h:j<8):IntKind.u8.wrap ((1:Int)*2 ^ (min (((j:Nat):Int)).toNat IntKind.u8.bits))=((2 ^ j:Nat):Int):=by
 rw[Int.toNat_natCast,show min j IntKind.u8.bits=j from Nat.min_eq_left (by show j<=8;omega),Int.one_mul,show (2:Int) ^ j=((2 ^ j:Nat):Int) from (Int.natCast_pow 2 j).symm];exact Tv (Vc h)
theorem QT {v j:Nat} (h:j<8):(((v:Nat):Int)).fdiv (2 ^ (min (((j:Nat):Int)).toNat IntKind.u8.bits))=((v / 2 ^ j:Nat):Int):=by
 rw[Int.toNat_natCast,show min j IntKind.u8.bits=j from Nat.min_eq_left (by show j<=8;omega),show (2:Int) ^ j=((2 ^ j:Nat):Int) from (Int.natCast_pow 2 j).symm,Int.fdiv_eq_ediv_of_nonneg _ (Int.natCast_nonneg _)];rfl
theorem Rq {k:ByteArray} {i:Nat} (h:i<k.size):k[i]?=some (k.data.toList.getD i 0):=by
 rw[getElem?_pos k i h,List.getD_eq_getElem?_getD];congr 1;have a:k.data.toList[i]?=some (k.data[i]'h):=by rw[Array.getElem?_toList];exact Array.getElem?_eq_getElem h
 rw[a];rfl
def GH (n:Nat) (M:Nat->Bool):Array Value:=((F_ n M).map (Value.int .u8)).toArray
theorem PP (n:Nat) (M:Nat->Bool):(GH n M).size=(n+7) / 8:=by simp[GH,Eu]
theorem PQ (n:Nat):GH n (λ_=>false)=(List.replicate ((n+7) / 8) (Value.int .u8 0)).toArray:=by
 unfold GH F_;congr 1;rw[List.map_map];refine List.eq_replicate_iff.2 ⟨qP,λx a=>?_⟩;obtain ⟨i,_,rfl⟩:=List.mem_map.1 a;simp[Cr,Ez]
theorem Rt {n s:Nat} (M:Nat->Bool) (hs:s<n):(F_ n M)[s / 8]?=some ((Cr (Ez n M) (s / 8):Nat):Int):=by
 unfold F_;rw[List.getElem?_map,List.getElem?_range qO];rfl
theorem Rr {n s:Nat} (M:Nat->Bool) (hs:s<n):(F_ n M).set (s / 8) ((Cr (Ez n M) (s / 8) ||| 2 ^ (s % 8):Nat):Int)=F_ n λq=>M q || decide (q=s):=by
 have d:=LX (Ez n M) (s / 8);have b:=Nat.mod_lt s (show 0<8 by decide);have a:Ez n (λq=>M q || decide (q=s))=λq=>Ez n M q || decide (q=8*(s / 8)+s % 8):=funext λq=>by
  unfold Ez;rw[Nat.div_add_mod];by_cases c:q=s
  .subst c;simp[hs]
  .simp[c]
 apply List.ext_getElem?;intro i;rw[List.getElem?_set];unfold F_;rw[a];by_cases hi:s / 8=i
 .subst hi;rw[if_pos O,if_pos (by simp;omega),List.getElem?_map,List.getElem?_range qO];simp only[Option.map_some];rw[Rp _ _ _ b,(Qq _ d _ b).1,Mh _ _ _ b];cases Ez n M (8*(s / 8)+s % 8)<;>simp
 .rw[if_neg hi,List.getElem?_map,List.getElem?_map];rcases Nat.lt_or_ge i ((n+7) / 8) with h|h
  .rw[List.getElem?_range h];simp only[Option.map_some];rw[OA b (λe=>hi e.symm)]
  .rw[List.getElem?_eq_none (by simpa using h)];rfl
theorem MK (d:World) (n:Nat) (hn:n<=100000):CB prog 228 #[.int .i64 ((n:Nat):Int)] d λv w=>(∃b,v=.slice (some ⟨b,0,none⟩) ((n+7) / 8) ((n+7) / 8)∧Az w b (GH n λ_=>false) 5∧d.heap.size<=b)∧Al d w:=by
 refine qR func228 O ntmps228 O (λE=>(Y (qA _ O (AA (Y (qM _ O (qV (Ar O O (A5 qO)) (qV (Qi (c:=(((n+7) / 8:Nat):Int)) O O qD ((by rw[show ((n:Int)+7).tdiv 8=(((n+7) / 8:Nat):Int) from by rw[Int.tdiv_eq_ediv_of_nonneg qO];omega];exact A5 qO))) (Dx (n:=(n+7) / 8) (z:=(.int .u8 0)) (bytes:=1) qD underlying162 K8 Ue SB O O O qO qO ?_)))))))));intro e w1 a;replace E:=E.ext a.ext;have f:=a.blk;refine qA _ O (AA (AS (AY results228 (v:=(.slice (some ⟨e,0,none⟩) ((n+7) / 8) ((n+7) / 8))) O ?_)));exact ⟨⟨e,O,by rw[PQ];exact f,by have:=a.eq;omega⟩,E⟩
theorem R0 (e:World) (n b s:Nat) (M:Nat->Bool) (hn:n<=100000) (d:Az e b (GH n M) 5) (hs:s<n):CB prog 226 #[.slice (some ⟨b,0,none⟩) ((n+7) / 8) ((n+7) / 8),.int .i64 ((s:Nat):Int)] e λv w=>v=.tuple #[]∧Chg (λy=>y=b) e w∧Az w b (GH n λq=>M q || decide (q=s)) 5:=by
 have l:(((s:Nat):Int)).tdiv 8=((s / 8:Nat):Int):=by rw[Int.tdiv_eq_ediv_of_nonneg qO];omega
 have hr:(((s:Nat):Int)).tmod 8=((s % 8:Nat):Int):=by rw[Int.tmod_eq_emod_of_nonneg qO];omega
 have h:=LX (Ez n M) (s / 8);have g:=Nat.mod_lt s (show 0<8 by decide);have m:2 ^ (s % 8)<256:=by
  have:=Nat.pow_le_pow_right (show 0<2 by decide) (show s % 8<=7 by omega);omega
 have hsl:s / 8<(n+7) / 8:=qO
 refine C7 func226 O ntmps226 (LK O) ?_;have E:Chg (λy=>y=b) e e:=Chg.refl _ _;refine Lc 10 mixed qK ?_;intro w1 j _;replace d:=j.keep d;replace E:=E.ext j;refine qT (AZ (v:=(.slice (some ⟨b,0,none⟩) ((n+7) / 8) ((n+7) / 8))) O) (qT (AZ (v:=(I6 (s:Int))) O) (qT (Qi (k:=.i64) (a:=(s:Int)) (b:=8) (c:=((s / 8:Nat):Int)) O O qD ((by rw[l];exact A5 qO))) (qT (AC (b:=b) (o:=0) (len:=(n+7) / 8) (cap:=(n+7) / 8) (i:=s / 8) (o':=0+(s / 8)) O O O underlying162 K8 qO qO) (qT (AE (v:=(.int .u8 ((Cr (Ez n M) (s / 8):Nat):Int))) O VC (d.cell (by unfold GH;rw[Nat.zero_add];simp[Rt M hs]))) (qT (AZ (v:=(I6 (s:Int))) O) (qT (Tj (k:=.i64) (a:=(s:Int)) (b:=8) (c:=((s % 8:Nat):Int)) O O qD O) (qT (U6 (k:=.u8) (a:=1) (b:=((s % 8:Nat):Int)) (c:=((2 ^ (s % 8):Nat):Int)) (k':=.i64) O O qO (QV g)) (qT (I7 (k:=.u8) (a:=((Cr (Ez n M) (s / 8):Nat):Int)) (b:=((2 ^ (s % 8):Nat):Int)) (v:=.int .u8 ((Cr (Ez n M) (s / 8) ||| 2 ^ (s % 8):Nat):Int)) O O qP (Vv h m O (Qq _ h _ g).2)) (qT (AC (b:=b) (o:=0) (len:=(n+7) / 8) (cap:=(n+7) / 8) (i:=s / 8) (o':=0+(s / 8)) O O O underlying162 K8 qO qO) (ES (A9 (b:=b) (o:=0+(s / 8)) (c':=GH n (λq=>M q || decide (q=s))) (v:=(.int .u8 ((Cr (Ez n M) (s / 8) ||| 2 ^ (s % 8):Nat):Int))) O O O K8 d (by rw[PP];omega) (by unfold GH;rw[<-Rr M hs];simp) ?_)))))))))));intro w2 f;replace E:=f.step E qQ;replace d:=f.blk;refine AA (EQ results226 ?_);exact ⟨O,E,d⟩
theorem Kg (f:World) (n s:Nat) (k:ByteArray) (hn:n<=100000) (hk:k.size=(n+7) / 8) (hs:s<n):CB prog 245 #[.string k,.int .i64 ((s:Nat):Int)] f λv w=>v=.bool (En k s)∧Al f w:=by
 have g:(((s:Nat):Int)).tdiv 8=((s / 8:Nat):Int):=by rw[Int.tdiv_eq_ediv_of_nonneg qO];omega
 have hr:(((s:Nat):Int)).tmod 8=((s % 8:Nat):Int):=by rw[Int.tmod_eq_emod_of_nonneg qO];omega
 have h:=Nat.mod_lt s (show 0<8 by decide);obtain ⟨v,e⟩:∃v,v=(k.data.toList.getD (s / 8) 0).toNat:=⟨_,O⟩;have d:v<256:=by rw[e];exact UInt8.toNat_lt _
 have hd:v / 2 ^ (s % 8)<256:=Nat.lt_of_le_of_lt (Nat.div_le_self _ _) d;have a:En k s=decide (v / 2 ^ (s % 8) % 2=1):=by rw[e];rfl
 rw[a];refine qR func245 O ntmps245 O (λE=>(Y (qA _ O (AA (Y (qM _ O (qM _ O (qV (Qi (c:=((s / 8:Nat):Int)) O O qD ((by rw[g];exact A5 qO))) (qV (L4 (n:=s / 8) (b:=k.data.toList.getD (s / 8) 0) (c:=(v:Int)) underlying248 O O (Rq qO) (by rw[e])) (qM _ O (qV (Tj (c:=((s % 8:Nat):Int)) O O qD O) (qV (HL (c:=((v / 2 ^ (s % 8):Nat):Int)) O O qO (QT h)) (qV (I7 (v:=.int .u8 ((v / 2 ^ (s % 8) % 2:Nat):Int)) O O qP (VM hd qD (Nat.and_one_is_mod _) qO)) (qV (BF O O) (qA _ O (AA (AS ?_)))))))))))))))));refine AY results245 (v:=(.bool (decide ((((v / 2 ^ (s % 8) % 2:Nat):Int):Int)=1)))) O ?_;exact ⟨CK (decide_eq_decide.2 qO),E⟩
end Go.Proofs
namespace Go.Proofs
open Go Go.Eng Go.Sort
set_option maxRecDepth 100000
def J5 (b:Dfa) (k:ByteArray) (x s:Nat):Nat->Bool:=λq=>(List.range s).any λp=>En k p && decide (Bu b ((p:Nat):Int) x=((q:Nat):Int))
def Iu (b:Dfa) (k:ByteArray) (x s:Nat):Bool:=(List.range s).any λp=>En k p && decide (0<=Bu b ((p:Nat):Int) x)
theorem KT (b:Dfa) (k:ByteArray) (x s q:Nat):J5 b k x (s+1) q=(J5 b k x s q || (En k s && decide (Bu b ((s:Nat):Int) x=((q:Nat):Int)))):=by
 unfold J5;rw[List.range_succ,List.any_append];simp
theorem It (b:Dfa) (k:ByteArray) (x s:Nat):Iu b k x (s+1)=(Iu b k x s || (En k s && decide (0<=Bu b ((s:Nat):Int) x))):=by
 unfold Iu;rw[List.range_succ,List.any_append];simp
theorem Oi {b:Dfa} {k:ByteArray} {x s:Nat} (h:En k s=false∨Bu b ((s:Nat):Int) x<0):J5 b k x (s+1)=J5 b k x s∧Iu b k x (s+1)=Iu b k x s:=by
 refine ⟨funext λq=>?_,?_⟩
 .rw[KT];rcases h with h|h
  .rw[h];simp
  .rw[decide_eq_false (show ¬Bu b ((s:Nat):Int) x=((q:Nat):Int) by omega)];simp
 .rw[It];rcases h with h|h
  .rw[h];simp
  .rw[decide_eq_false (show ¬0<=Bu b ((s:Nat):Int) x by omega)];simp
theorem Q7 {b:Dfa} {k:ByteArray} {x s t:Nat} (h:En k s=true) (a:Bu b ((s:Nat):Int) x=((t:Nat):Int)):(λq=>J5 b k x s q || decide (q=t))=J5 b k x (s+1)∧Iu b k x (s+1)=true:=by
 refine ⟨funext λq=>?_,?_⟩
 .rw[KT,h,a,Bool.true_and];congr 1;exact decide_eq_decide.2 qO
 .rw[It,h,a,decide_eq_true qO];simp
theorem Kz (x:World) (n c:Nat) (b:Dfa) (L:List Value) (k:ByteArray) (ok:OkD n c b) (U:BC x b L) (hn:n<=20000) (R:k.size=(n+7) / 8) :
 CB prog 232 #[.agg L.toArray,.string k] x λv w=>v=.bool (ID b n k)∧Al x w:=by
 have hal:=ok.al;obtain ⟨u,r,H,z,rfl,s,hnxt⟩:=U;have e:=Jr (b:=b) (m:=n) (k:=k);obtain ⟨A,S⟩:∃A,A=ID b n k:=⟨_,O⟩;rw[<-S] at e⊢;refine qR func232 O ntmps232 O (λE=>(Y (BP (v:=(.agg #[(I6 b.start),(.slice u b.accept.length r),(.slice H b.next.length z)])) (c:=#[(I6 b.start),(.slice u b.accept.length r),(.slice H b.next.length z)]) qD O O ?_)));intro Q wd K;replace E:=E.ext K.ext;have g:=K.blk;refine qA _ O (AA (AI (Y (qF Q 0 1 O underlying48 O Ay O (qV (AE O Ax (g.cell O)) (qV (AL underlying22 O) (qM _ O (AA (AO (Ap (λnn_ σ C=>∃(i:Nat),(∃jj_,σ=BK jj_ [(1,(.string k)),(8,(.slice u b.accept.length r)),(9,(I6 (b.accept.length:Int))),(10,(I6 (i:Int)))])∧Chg Ab x C∧Az C Q #[(I6 b.start),(.slice u b.accept.length r),(.slice H b.next.length z)] 48∧(i<=b.accept.length)∧(∀p,p<i->¬(0<=Co b (p:Int)∧En k p=true))∧nn_=b.accept.length - i) (n:=b.accept.length - 0) ?_ ?_))))))))))
 .exact ⟨0,Ac.out ⟨O,O,O,O,trivial⟩,E,g,Nat.zero_le _,(λp D=>absurd D qO),O⟩
 .clear E g;rintro _ _ C ⟨i,⟨j1,rfl⟩,E,g,hi,j,rfl⟩;refine Y (qV (A0 O O) (AA (AI (qC O (λG=>?_) (λG=>?_)))))
  .obtain ⟨y,N⟩:=AK (l:=b.accept) (i:=i) qO;obtain ⟨V,M,J,F⟩:=Ao s qO;subst J;have t:=Cn N;refine AM (AB (AI (AO (Y (qM _ O (qV (AC (b:=V) (o:=M) (len:=b.accept.length) (cap:=r) (i:=i) (o':=M+i) O O O underlying22 Ad qO qO) (qV (AE O Ai (E.cell (λf=>f) (F i y N))) (qA _ O (qA _ O (AA (Y (qM _ O (qV (CT O O) (qM _ O ?_))))))))))))));rcases Bool.eq_false_or_eq_true (decide ((0:Int)<=y)) with a|a
   .have d:=a;replace d:=of_decide_eq_true d;refine AD O O qD (BH a) (qM _ O (AD O O qD (BH a) (qM _ O (AD O O qD (BH a) (qE O (AV func245 kQ kQ O) (Kg _ n i k qO R qO) ?_)))));rintro _ w9 ⟨rfl,P⟩;replace g:=P.keep g;replace E:=E.ext P;refine qV (Ag (v:=(.bool (En k i))) O (by rw[a];rfl)) (AA (As O (λq=>?_) (λq=>?_)))
    .have I:=q;refine Y (qA _ O (AA (AS (A1 (AU (AU (A1 (AU (AY results232 (v:=(.bool true)) O ?_)))))))));exact ⟨CK (e.2 ⟨i,qO,by rw[t];exact d,q⟩).symm,E⟩
    .have I:=q;refine AM (AN (AB (AJ (qV (Ar O O (A5 qO)) (qM _ O (AA (AB ?_)))))));exact ⟨b.accept.length - (i+1),qO,i+1,Ac.out ⟨O,O,O,O,trivial⟩,E,g,qO,(λp D=>by rcases Nat.lt_or_ge p i with h|h;exact j p h;obtain rfl:p=i:=qO;exact λB=>by rw[B.2] at q;cases q),O⟩
   .have d:=a;replace d:=of_decide_eq_false d;refine AF O O qD (v:=.bool false) (BH a) (Or.inl O) (AF O O qD (v:=.bool false) (BH a) (Or.inl O) (AF O O qD (v:=.bool false) (BH a) (Or.inl O) (qV (Ag (v:=(.bool false)) O (by rw[a];rfl)) (AA (AW O (AM (AN (AB (AJ (qV (Ar O O (A5 qO)) (qM _ O (AA (AB ?_)))))))))))));exact ⟨b.accept.length - (i+1),qO,i+1,Ac.out ⟨O,O,O,O,trivial⟩,E,g,qO,(λp D=>by rcases Nat.lt_or_ge p i with h|h;exact j p h;obtain rfl:p=i:=qO;exact λB=>by rw[t] at B;omega),O⟩
  .refine Ak (AP (AP (Ae (AB (Y (qA _ O (AA (AS (AY results232 (v:=(.bool false)) O (⟨CK ?_,E⟩))))))))));cases A with
   | false=>rfl
   | true=>
    obtain ⟨p,h1,W,T⟩:=e.1 O;exact absurd ⟨W,T⟩ (j p qO)
theorem OV (w0:World) (n c x:Nat) (b:Dfa) (dv:List Value) (k:ByteArray) (ok:OkD n c b) (hb:BC w0 b dv) (hn:n<=20000) (hk:k.size=(n+7) / 8) (hx:x<c) (hc:c<=16) :
  CB prog 230 #[.agg dv.toArray,.string k,.int .i64 ((x:Nat):Int)] w0 λv w=>(∃g,v=.tuple #[.slice (some ⟨g,0,none⟩) ((n+7) / 8) ((n+7) / 8),.bool (FI b n k x)]∧Az w g (GH n (Gv b n k x)) 5∧w0.heap.size<=g)∧Al w0 w:=by
 have av:=ok.nl;subst av;have hst:=ok.st;have ah:J5 b k x 0=λ_=>false:=rfl;obtain ⟨aa,ac,na,nc,rfl,ar,ai⟩:=hb;obtain ⟨nb,no,rfl,aw⟩:=BL (n:=b.next.length) ai qO;refine qR func230 O ntmps230 O (λE=>(Y (BP (v:=(.agg #[(I6 b.start),(.slice aa b.accept.length ac),(.slice (some ⟨nb,no,none⟩) b.next.length nc)])) (c:=#[(I6 b.start),(.slice aa b.accept.length ac),(.slice (some ⟨nb,no,none⟩) b.next.length nc)]) qD O O ?_)));intro bd wd Nd;replace E:=E.ext Nd.ext;have Bd:=Nd.blk;refine qA _ O (qA _ O (AA (Y (qF bd 0 2 O underlying48 O A' O (qV (AE O A4 (Bd.cell O)) (qV (AL underlying46 O) (qE O (AV func228 kQ kQ O) ((MK _ b.next.length qO).mono (R':=λv w=>(∃g,v=.slice (some ⟨g,0,none⟩) ((b.next.length+7) / 8) ((b.next.length+7) / 8)∧Az w g (GH b.next.length (J5 b k x 0)) 5∧wd.heap.size<=g)∧Al wd w) (λv w h=>by rw[ah];exact h)) ?_)))))));rintro _ w9 ⟨⟨g,rfl,hG,hg0⟩,X9⟩;replace Bd:=X9.keep Bd;replace E:=E.ext X9;have hgd:bd<g:=by have:=Nd.eq;have:=Nd.size;omega
 have ap:w0.heap.size<=g:=by have:=Nd.ext.size;omega
 refine qA _ O (qA _ O (AA (AI (Y (qF bd 0 2 O underlying48 O A' O (qV (AE O A4 (Bd.cell O)) (qV (AL underlying46 O) (qM _ O (AA (AO (Ap (λnn_ σ W1=>∃(i:Nat) (sm:Bool),(∃jj_,σ=BK jj_ [(1,(.string k)),(2,(I6 (x:Int))),(3,(P6 bd 0)),(8,(.slice (some ⟨g,0,none⟩) ((b.next.length+7) / 8) ((b.next.length+7) / 8))),(17,(I6 (b.next.length:Int))),(18,(I6 (i:Int))),(9,(.bool sm))])∧Chg Ab w0 W1∧Az W1 bd #[(I6 b.start),(.slice aa b.accept.length ac),(.slice (some ⟨nb,no,none⟩) b.next.length nc)] 48∧Az W1 g (GH b.next.length (J5 b k x i)) 5∧(i<=b.next.length)∧(sm=Iu b k x i)∧nn_=b.next.length - i) (n:=b.next.length - 0) ?_ ?_)))))))))))
 ·exact ⟨0,false,Ac.out ⟨O,O,O,O,O,O,O,trivial⟩,E,Bd,hG,Nat.zero_le _,O,O⟩
 ·clear E Bd hG;rintro _ _ W1 ⟨i,sm,⟨j1,rfl⟩,E,Bd,hG,hi,ag,rfl⟩;refine Y (qV (A0 O O) (AA (AI (qC O (λax=>?_) (λax=>?_)))))
  ·obtain ⟨row,ab⟩:=AK (l:=b.next) (i:=i) qO;have hrl:=(ok.row row (List.mem_of_getElem? ab)).1;obtain ⟨ra,rc,ad,au⟩:=aw i row ab;obtain ⟨b9,o9,az,am⟩:=Ao au qO;subst az;obtain ⟨y,hy⟩:=AK (l:=row) (i:=x) qO;have hyr:=(ok.row row (List.mem_of_getElem? ab)).2 y (List.mem_of_getElem? hy);have ao:=DQ ab hy;refine AM (AB (AI (AO (Y (qM _ O (qA _ O (AA (Y (qM _ O (qM _ O (qE O (AV func245 kQ kQ O) (Kg _ b.next.length i k qO hk qO) ?_)))))))))));rintro _ w19 ⟨rfl,aj⟩;replace Bd:=aj.keep Bd;replace hG:=aj.keep hG;replace E:=E.ext aj;refine qM _ O ?_;rcases Bool.eq_false_or_eq_true (En k i) with hh|hh
   ·have ay:=hh;refine AD O O qD (BH hh) (qF bd 0 2 O underlying48 O A' O (AD O O qD (BH hh) (qV (AE O A4 (Bd.cell O)) (AD O O qD (BH hh) (qM _ O (AD O O qD (BH hh) (qV (AC (b:=nb) (o:=no) (len:=b.next.length) (cap:=nc) (i:=i) (o':=no+i) O O O underlying46 Ay qO qO) (AD O O qD (BH hh) (qV (AE O Ax (E.cell (λf=>f) ad)) (AD O O qD (BH hh) (qM _ O (AD O O qD (BH hh) (qV (AC (b:=b9) (o:=o9) (len:=row.length) (cap:=rc) (i:=x) (o':=o9+x) O O O underlying22 Ad qO qO) (AD O O qD (BH hh) ?_))))))))))))));refine qV (AE O Ai (E.cell (λf=>f) (am x y hy))) (AD O O qD (BH hh) (qV (CT O O) (qV (Ag (v:=(.bool (decide ((0:Int)<=y)))) O (by rw[hh];rfl)) (AA (qC O (λal=>?_) (λal=>?_))))))
    ·obtain ⟨t,rfl⟩:=Int.eq_ofNat_of_zero_le al;refine Y (qM _ O (qF bd 0 2 O underlying48 O A' O (qV (AE O A4 (Bd.cell O)) (qM _ O (qV (AC (b:=nb) (o:=no) (len:=b.next.length) (cap:=nc) (i:=i) (o':=no+i) O O O underlying46 Ay qO qO) (qV (AE O Ax (E.cell (λf=>f) ad)) (qM _ O (qV (AC (b:=b9) (o:=o9) (len:=row.length) (cap:=rc) (i:=x) (o':=o9+x) O O O underlying22 Ad qO qO) (qV (AE O Ai (E.cell (λf=>f) (am x _ hy))) (qE O (AV func226 kQ kQ O) (R0 _ b.next.length g t _ qO hG qO) ?_))))))))));rintro _ w29 ⟨rfl,ak,an⟩;replace Bd:=ak.keep qO Bd;replace E:=E.step ak (by intro x hx hm;omega);obtain ⟨af,ae⟩:=Q7 (b:=b) (k:=k) (x:=x) (s:=i) (t:=t) hh ao;rw[af] at an;refine AA (AJ (qA _ O (AA (AN (AB (AJ (qV (Ar O O (A5 qO)) (qM _ O (AA (AB ?_))))))))));exact ⟨b.next.length - (i+1),qO,i+1,true,Ac.out ⟨O,O,O,O,O,O,O,trivial⟩,E,Bd,an,qO,ae.symm,O⟩
    ·obtain ⟨af,ae⟩:=Oi (b:=b) (k:=k) (x:=x) (s:=i) (.inr (by rw[ao];omega));rw[<-af] at hG;refine AM (AN (AB (AJ (qV (Ar O O (A5 qO)) (qM _ O (AA (AB ?_)))))));exact ⟨b.next.length - (i+1),qO,i+1,sm,Ac.out ⟨O,O,O,O,O,O,O,trivial⟩,E,Bd,hG,qO,(by rw[ae];exact ag),O⟩
   ·have ay:=hh;obtain ⟨af,ae⟩:=Oi (b:=b) (k:=k) (x:=x) (s:=i) (.inl hh);rw[<-af] at hG;refine AF O O qD (v:=.bool false) (BH hh) (Or.inl O) (AF O O qD (v:=.bool false) (BH hh) (Or.inl O) (AF O O qD (v:=.bool false) (BH hh) (Or.inl O) (AF O O qD (v:=.bool false) (BH hh) (Or.inl O) (AF O O qD (v:=.bool false) (BH hh) (Or.inl O) (AF O O qD (v:=.bool false) (BH hh) (Or.inl O) (AF O O qD (v:=.bool false) (BH hh) (Or.inl O) (AF O O qD (v:=.bool false) (BH hh) (Or.inl O) (AF O O qD (v:=.bool false) (BH hh) (Or.inl O) (qV (Ag (v:=(.bool false)) O (by rw[hh];rfl)) (AA (AW O (AM (AN (AB (AJ (qV (Ar O O (A5 qO)) (qM _ O ?_)))))))))))))))));refine AA (AB ?_);exact ⟨b.next.length - (i+1),qO,i+1,sm,Ac.out ⟨O,O,O,O,O,O,O,trivial⟩,E,Bd,hG,qO,(by rw[ae];exact ag),O⟩
  ·have aq:i=b.next.length:=qO
   subst aq;refine Ak (AP (AP (Ae (AB (Y (qM _ O (qM _ O (qA _ O (qA _ O (AA (AS (B_ results230 (v:=(.slice (some ⟨g,0,none⟩) ((b.next.length+7) / 8) ((b.next.length+7) / 8))) (v':=(.bool sm)) O O ?_))))))))))));subst ag;exact ⟨⟨g,O,hG,ap⟩,E⟩
end Go.Proofs
namespace Go.Eng
open Go
section
variable {Ms : Nat → Nat → Prop} {Rs : Nat → World → World → Prop} {cl : List (List Nat)} {i : Nat} {ws ds : List Nat}
theorem Du.eq {u:Value}:Du Ms Rs cl i ws (λ_ _ v _=>v=u):=λ_ _ _ _ _ _ _ _ _ _ _ _ _ h=>h
theorem Du.chg {F:EK} {U:Nat->Prop} (a:∀v w w',Chg U w w'->F v w->F v w') (b:∀p y,p≠i->ws.contains p=false->Ms p y->U y):Du Ms Rs cl i ws (λ_ _=>F):=
 λp d c _ _ v w w' _ _ _ x _ h=>a v w w' (x.mono λy _ e=>b p y d c e) h
theorem Du.till {F:EK} {U:Nat->Prop} {c:Nat} (g:∀v w w',Chg U w w'->F v w->F v w') (j:∀p y,p≠i->ws.contains p=false->p≠c->(cl.getD p []).contains c=false->Ms p y->U y):Du Ms Rs cl i ws (λS _ v w=>S c=false->F v w):=
 λp l k S _ v w w' _ _ f x _ h a=>by
  have b:p≠c:=λe=>by subst e;rw[Gl] at a;cases a
  rw[Ih (Ne.symm b)] at a;have d:(cl.getD p []).contains c=false:=by cases e:(cl.getD p []).contains c;rfl;have:=f c e;rw[this] at a;cases a
  exact g v w w' (x.mono λy _ m=>j p y l k b d m) (h a)
end
def VP:List (Nat×(World->World->Prop))->Nat->World->World->Prop
  | [],_,_,_=>True
  | p::r,j,w,w'=>(j=p.1->p.2 w w')∧VP r j w w'
def PB (T:TypeId) (w w':World):Prop:=∀b c t,Az w b c t->t≠T->Az w' b c t
section
variable {M : Nat → Prop} {ch : List PanicEntry} {X : World → Prop} {P : Program} {N : Nat} {o : Oper} {R : EK} {σ : B0} {w : World} {c i : Nat} {T : World → World → Prop}
theorem S0 (hi:Nat.beq i c=false) (h:CP M P N o R σ w):Jw M ch X P N o (λv a=>R v a∧VP [(c,T)] i w a) σ w:=(CP.x h).weak λ_ _ _ h=>⟨h,⟨λe=>absurd (show i=c from e) (λb=>by subst b;rw[Nat.beq_refl] at hi;cases hi),trivial⟩⟩
theorem Vy (h:CP M P N o (λv a=>R v a∧T w a) σ w):Jw M ch X P N o (λv a=>R v a∧VP [(c,T)] c w a) σ w:=(CP.x h).weak λ_ _ _ h=>⟨h.1,⟨λ_=>h.2,trivial⟩⟩
end
theorem Du.rel1 {cl:List (List Nat)} {Ms:Nat->Nat->Prop} {i c:Nat} {ws:List Nat} {F:EK} {U:Nat->Prop} {T:World->World->Prop} (f:∀v w w',T w w'->F v w->F v w') (b:∀v w w',Chg U w w'->F v w->F v w') (d:∀p y,p≠i->p≠c->ws.contains p=false->Ms p y->U y):Du Ms (VP [(c,T)]) cl i ws (λ_ _=>F):=
 λp g e _ _ v w w' _ _ _ x r h=>by
  by_cases a:p=c
  .exact f v w w' (r.1 a) h
  .exact b v w w' (x.mono λy _ j=>d p y g a e j) h
theorem Uk {t T:TypeId} {cs:Array Value} {n:Nat} (a:t≠T):∀v w w',PB T w w'->R_ t cs n v w->R_ t cs n v w':=by
 rintro v w w' h ⟨b,e,B,g⟩;exact ⟨b,e,h b cs t B a,g⟩
end Go.Eng
namespace Go.Proofs
open Go Go.Eng Go.Sort
set_option maxRecDepth 100000
theorem R1 (a:World) (n b:Nat) (s:Int) (M:Nat->Bool) (d:n<=100000) (c:Az a b (GH n M) 5) (hs:0<=s∧s<n):CB prog 226 #[.slice (some ⟨b,0,none⟩) ((n+7) / 8) ((n+7) / 8),.int .i64 s] a λv w=>v=.tuple #[]∧Chg (λy=>y=b) a w∧Az w b (GH n λq=>M q || decide (((q:Nat):Int)=s)) 5:=by
 obtain ⟨t,rfl⟩:=Int.eq_ofNat_of_zero_le hs.1;have e:(λq=>M q || decide (((q:Nat):Int)=((t:Nat):Int)))=λq=>M q || decide (q=t):=funext λq=>by
  congr 1;exact decide_eq_decide.2 qO
 rw[e];exact R0 a n b t M d c qO
end Go.Proofs
namespace Go.Proofs
open Go Go.Eng Go.Sort
set_option maxRecDepth 100000
theorem TC {α:Type} {c most:Nat} {stp:α->Nat->Option α} {acc:α->Int} {a0:α} {base:Nat} {r:Value} {w:World} (h:Lh c most stp acc a0 base r w) (b:¬Ge c stp a0 most):r=.tuple #[.agg #[.int .i64 0,.slice none 0 0,.slice none 0 0],.bool false]:=by
 rcases h with ⟨a,_⟩|⟨_,a⟩
 .exact absurd a b
 .exact a
def Tq (c:Nat) (f:List Nat->Int) (base:Nat) (r:Value) (w:World):Prop:=∃C ca cc ma mc,Cj c f C∧C.next.length<=20000∧(∀x∈C.accept,x<2147483648)∧r=.tuple #[.agg #[.int .i64 C.start,.slice ca C.accept.length cc,.slice ma C.next.length mc],.bool true]∧DP base w C [.int .i64 C.start,.slice ca C.accept.length cc,.slice ma C.next.length mc]
theorem Vi {α:Type} {c most:Nat} {stp:α->Nat->Option α} {acc:α->Int} {a0:α} {base d:Nat} {r:Value} {w:World} (h:Lh c most stp acc a0 base r w) (b:Ge c stp a0 most) (g:d<=base):∃u,r=.tuple #[u,.bool true]∧Vj c most stp acc a0 d u w:=by
 rcases h with ⟨_,D,v,a,i,e,k,l,f,vs,j,m⟩|⟨a,_⟩
 .exact ⟨v,i,D,e,k,l,f,vs,j,a most b,m.low g⟩
 .exact absurd b a
def VR (r:Value):Prop:=r=.tuple #[.agg #[.int .i64 0,.slice none 0 0,.slice none 0 0],.bool false]
open Classical in
noncomputable def catB (a b:Dfa) (w:List Nat):Int:=if Vs (beh a a.start) (beh b b.start) w then 0 else -1
def GV {α:Type} (ok:Bool) (c most:Nat) (stp:α->Nat->Option α) (acc:α->Int) (a0:α) (base:Nat):EK:=λv w=>∃D ea ec na nc vs,v=.agg #[.int .i64 D.start,.slice ea D.accept.length ec,.slice na D.next.length nc]∧(ok=true->ExpOf c most stp acc a0 D∧OutSt w base (.slice ea D.accept.length ec) (.slice na D.next.length nc) vs D.accept D.next)
section
variable {α : Type} {ok : Bool} {c most : Nat} {stp : α → Nat → Option α} {acc : α → Int} {a0 : α} {base : Nat}
theorem HZ:∀v w w',Al w w'->GV ok c most stp acc a0 base v w->GV ok c most stp acc a0 base v w':=by
 rintro v w w' x ⟨D,b,f,g,d,vs,e,a⟩;exact ⟨D,b,f,g,d,vs,e,λh=>⟨(a h).1,(a h).2.ext x⟩⟩
theorem Pq:∀u w,GV ok c most stp acc a0 base u w->∃vs:Array Value,u=.agg vs∧vs.size=3∧∀v∈vs.toList,v.oneCell'=true:=by
 rintro u w ⟨D,ea,ec,na,nc,vs,a,h2⟩;exact ⟨_,a,O,by simp[Value.oneCell']⟩
theorem Pp {b:Nat} {cs:Array Value}:∀u w w',Az w b cs 48->Chg (λy=>y=b) w w'->GV ok c most stp acc a0 base u w->GV ok c most stp acc a0 base u w':=by
 rintro u w w' m x ⟨D,e,i,k,f,vs,g,d⟩;exact ⟨D,e,i,k,f,vs,g,λa=>⟨(d a).1,(d a).2.chg x (λy l h=>OutSt.typ (d a).2 m qD qD (by have j:y=b:=h;rw[<-j];exact l))⟩⟩
theorem TD {b:Nat} {r:Value} {w:World} (h:Lh c most stp acc a0 base r w) (a:ok=true↔Ge c stp a0 most) (f:b<=base):∃u,r=.tuple #[u,.bool ok]∧GV ok c most stp acc a0 b u w:=by
 cases ok with
 | true=>
  obtain ⟨u,l,D,d,j,k,e,vs,i,n,m⟩:=Vi h (a.1 O) f;exact ⟨u,l,D,d,j,k,e,vs,i,λ_=>⟨n,m⟩⟩
 | false=>exact ⟨_,TC h λg=>(by cases a.2 g),⟨0,[],[]⟩,none,0,none,0,[],O,λh=>by cases h⟩
end
theorem UY (p:Prop):∃ok:Bool,(ok=true↔p):=by
 by_cases h:p
 .exact ⟨true,by simp[h]⟩
 .exact ⟨false,by simp[h]⟩
end Go.Proofs
namespace Go.Proofs
open Go Go.Eng Go.Sort
set_option maxRecDepth 100000
section
variable {P : Program} {σ : B0} {w : World} {dst : Option Tmp} {ty : TypeId} {pos : String} {af : Array Edge} {g : Option (Nat × Bool)} {t t' : TypeId} {x y : Operand}
theorem Ob {a b:ByteArray} (d:ev σ x=.string a) (c:ev σ y=.string b):(execOp (ev σ) ⟨dst,.binOp .eql t x y t',ty,pos,af,g⟩).run P w=.ok (.value (.bool (decide (a=b)))) w:=by
 have h:(a.toList == b.toList)=decide (a=b):=by
  by_cases e:a=b
  .rw[decide_eq_true e,(Lib.bytes_beq_iff a b).2 e]
  .rw[decide_eq_false e,(Lib.bytes_beq_false_iff a b).2 e]
 simp only[execOp,d,c,eqGuard,binOp];simp[Op.stringOp,h]
theorem Qk {a b:ByteArray} (d:ev σ x=.string a) (c:ev σ y=.string b) (h:a.size+b.size<=9223372036854775807):(execOp (ev σ) ⟨dst,.binOp .add t x y t',ty,pos,af,g⟩).run P w=.ok (.value (.string (a++b))) w:=by
 simp only[execOp,d,c,eqGuard,binOp];simp[run_string_add_sum w a b h]
end
theorem RW {a:Dfa} {n:Nat} {M:Nat->Bool} (h:ID a n (DE n M)=true):(λq=>M q || decide (((q:Nat):Int)=a.start))=GW a n M:=funext λq=>by
 unfold GW;rw[h,Bool.true_and]
theorem TF {a:Dfa} {n:Nat} {M:Nat->Bool} (h:ID a n (DE n M)=false):M=GW a n M:=funext λq=>by
 unfold GW;rw[h,Bool.false_and,Bool.or_false]
theorem OW (e:World) (n c:Nat) (a:Dfa) (r:List Value) (k g:Nat) (M:Nat->Bool) (h:OkD n c a) (q:BC e a r) (b:Az e k r.toArray 48) (f:Az e g (GH n M) 5) (A:n<=20000) (hg:g≠k) :
 CB prog 236 #[.slice (some ⟨g,0,none⟩) ((n+7) / 8) ((n+7) / 8),.pointer (some ⟨k,0,none⟩)] e λv w=>v=.string (DE n (GW a n M))∧Chg (λy=>y=g) e w:=by
 have hst:=h.st;have hgl:=f.lt;have hal2:=b.lt;have p:=q;obtain ⟨t,z,u,s,rfl,_,_⟩:=p;refine C7 func236 O ntmps236 (LK O) ?_;have E:Chg (λy=>y=g) e e:=Chg.refl _ _;refine Y (qA _ O (AA (AI (Y (qV (Aa (vs:=[(I6 a.start),(.slice t a.accept.length z),(.slice u a.next.length s)]) O BB Aw O (b.cells O)) (qM _ O (qV (De (l:=F_ n M) underlying162 underlying5 underlying248 O f (Eu n _)) (qE O (AV func232 kQ kQ O) (Kz _ n c a _ (DE n M) h (q) A (Dq n M)) ?_))))))));rintro _ w9 ⟨rfl,o⟩;replace b:=o.keep b;replace f:=o.keep f;replace E:=E.ext o;refine AA (As O (λi=>?_) (λi=>?_))
 .have m:=i;refine AJ (qM _ O (qF k 0 0 O underlying48 O Ad O (qV (AE O Ai (b.cell O)) (qE O (AV func226 kQ kQ O) (R1 _ n g a.start M qO f qO) ?_))));rintro _ w19 ⟨rfl,j,d⟩;replace b:=j.keep qO b;replace E:=E.step j (by intro x hx hm;omega);rw[RW i] at d;refine AA (AB (Y (qM _ O (qV (De (l:=F_ n (GW a n M)) underlying162 underlying5 underlying248 O d (Eu n _)) (qA _ O (AA (AS (AY results236 (v:=(.string (DE n (GW a n M)))) O ?_))))))));exact ⟨O,E⟩
 .have m:=i;have d:=f;rw[TF (a:=a) (n:=n) (M:=M) i] at d;refine AM (AB (Y (qM _ O (qV (De (l:=F_ n (GW a n M)) underlying162 underlying5 underlying248 O d (Eu n _)) (qA _ O (AA (AS (AY results236 (v:=(.string (DE n (GW a n M)))) O ?_))))))));exact ⟨O,E⟩
theorem Lp (a:Dfa) (n:Nat) (bg k k':ByteArray) (x:Nat) (b:k'=if k=bg then Eo a n else k):(D7 a n bg k x).isSome=FI a n k' x∧∀q,D7 a n bg k x=some q->DE n (GW a n (Gv a n k' x))=q:=by
 unfold D7;simp only[<-b];by_cases h:FI a n k' x=true
 .rw[if_pos h,h];exact ⟨O,λq e=>Option.some.inj e⟩
 .rw[if_neg h];exact ⟨by simpa using h,λq e=>by cases e⟩
theorem SL (o:World) (n c:Nat) (a:Dfa) (T:List Value) (s L S P N x:Nat) (k bg:ByteArray) (m:OkD n c a) (p:BC o a T) (d:Az o s T.toArray 48) (h:Az o S #[.string bg] 9) (i:Az o P #[.slice (some ⟨N,0,none⟩) ((n+7) / 8) ((n+7) / 8)] 162) (j:Az o N (GH n λq=>decide (((q:Nat):Int)=a.start)) 5) (f:Az o L #[.func (.func 236) #[] #[.pointer (some ⟨s,0,none⟩)]] 263) (y:n<=20000) (U:k=bg∨k.size=(n+7) / 8) (t:x<c) (Q:c<=16) :
 CB prog 238 #[.string k,.int .i64 ((x:Nat):Int),.pointer (some ⟨S,0,none⟩),.pointer (some ⟨P,0,none⟩),.pointer (some ⟨s,0,none⟩),.pointer (some ⟨L,0,none⟩)] o λv w=>(∃q:ByteArray,v=.tuple #[.string q,.bool (D7 a n bg k x).isSome]∧∀r,D7 a n bg k x=some r->q=r)∧Al o w:=by
 have H:=p;obtain ⟨K,M,R,J,rfl,_,_⟩:=H;have hbal:=d.lt;have hbbl:=h.lt;have hbfl:=i.lt;have hgfl:=j.lt;have hbel:=f.lt;refine qR func238 O ntmps238 O (λE=>(Y (qA _ O (qA _ O (AA (AI (Y (qM _ O (qV (AE O MY (h.cell O)) (BV (v:=(.bool (decide (k=bg)))) O O qD (Ob O O) (AA (qC O (λu=>?_) (λu=>?_)))))))))))))
 .refine AJ (qV (AE O LO (i.cell O)) (qV (De (l:=F_ n λq=>decide ((q:Int)=a.start)) underlying162 underlying5 underlying9 O j (Eu n _)) (qA _ O (AA (AB (Y (qV (Aa (vs:=[(I6 a.start),(.slice K a.accept.length M),(.slice R a.next.length J)]) O BB Aw O (d.cells O)) (qM _ O (qM _ O ?_)))))))));obtain ⟨G,D⟩:=Lp a n bg k (Eo a n) x (by rw[if_pos u]);have C:=E.size;refine qE O (AV func230 kQ kQ O) (OV _ n c x a _ (Eo a n) m (p.ext E) y (Dq n _) t Q) ?_;rintro _ F ⟨⟨g,rfl,z,A⟩,e⟩;replace d:=e.keep d;replace h:=e.keep h;replace i:=e.keep i;replace j:=e.keep j;replace f:=e.keep f;replace E:=E.ext e;refine qM _ O (qV (Aj O O) (qV (Aj O O) (qA _ O (qA _ O (AA (Y (qV (AE O Ot (f.cell O)) (qM _ O (qE O (EH O func236 kQ kQ O O) (OW _ n c a _ s g (Gv a n (Eo a n) x) m (p.ext E) d z y qO) ?_)))))))));rintro _ B ⟨rfl,b⟩;replace d:=b.keep qO d;replace h:=b.keep qO h;replace i:=b.keep qO i;replace j:=b.keep qO j;replace f:=b.keep qO f;replace E:=E.step b (by intro x t V;omega);refine qM _ O (qA _ O (qA _ O (AA (AS (B_ results238 (v:=(.string (DE n (GW a n (Gv a n (Eo a n) x))))) (v':=(.bool (FI a n (Eo a n) x))) O O ?_)))));exact ⟨⟨DE n (GW a n (Gv a n (Eo a n) x)),by rw[G],D⟩,E⟩
 .have I:k.size=(n+7) / 8:=U.resolve_left u;obtain ⟨G,D⟩:=Lp a n bg k k x (by rw[if_neg u]);have C:=E.size;refine AM (AB (Y (qV (Aa (vs:=[(I6 a.start),(.slice K a.accept.length M),(.slice R a.next.length J)]) O BB Aw O (d.cells O)) (qM _ O (qM _ O (qE O (AV func230 kQ kQ O) (OV _ n c x a _ k m (p.ext E) y I t Q) ?_))))));rintro _ F ⟨⟨g,rfl,z,A⟩,e⟩;replace d:=e.keep d;replace h:=e.keep h;replace i:=e.keep i;replace j:=e.keep j;replace f:=e.keep f;replace E:=E.ext e;refine qM _ O (qV (Aj O O) (qV (Aj O O) (qA _ O (qA _ O (AA (Y (qV (AE O Ot (f.cell O)) (qM _ O (qE O (EH O func236 kQ kQ O O) (OW _ n c a _ s g (Gv a n k x) m (p.ext E) d z y qO) ?_)))))))));rintro _ B ⟨rfl,b⟩;replace d:=b.keep qO d;replace h:=b.keep qO h;replace i:=b.keep qO i;replace j:=b.keep qO j;replace f:=b.keep qO f;replace E:=E.step b (by intro x t V;omega);refine qM _ O (qA _ O (qA _ O (AA (AS (B_ results238 (v:=(.string (DE n (GW a n (Gv a n k x))))) (v':=(.bool (FI a n k x))) O O ?_)))));exact ⟨⟨DE n (GW a n (Gv a n k x)),by rw[G],D⟩,E⟩
theorem SK (h:World) (n c:Nat) (a:Dfa) (r:List Value) (o q:Nat) (k bg:ByteArray) (m:OkD n c a) (p:BC h a r) (g:Az h o r.toArray 48) (f:Az h q #[.string bg] 9) (x:n<=20000) (u:k=bg∨k.size=(n+7) / 8) :
 CB prog 239 #[.string k,.pointer (some ⟨q,0,none⟩),.pointer (some ⟨o,0,none⟩)] h λv w=>v=.int .i64 (FD a n bg k)∧Al h w:=by
 have j:=p;obtain ⟨t,z,y,s,rfl,_,_⟩:=j;refine qR func239 O ntmps239 O (λE=>(Y (qA _ O (AA (Y (qM _ O (qV (AE O MY (f.cell O)) (BV (v:=(.bool (decide (k=bg)))) O O qD (Ob O O) (qM _ O ?_)))))))));rcases Bool.eq_false_or_eq_true (decide (k=bg)) with d|d
 .have e:=d;replace e:=of_decide_eq_true e;refine AF O O qD (v:=.bool true) (BH d) (Or.inl O) (AF O O qD (v:=.bool true) (BH d) (Or.inl O) (AF O O qD (v:=.bool true) (BH d) (Or.inl O) (qV (Ag (v:=(.bool true)) O (by rw[d];rfl)) (qE O (AV func124 kQ kQ O) (Ha true _) ?_))));rintro _ i ⟨rfl,b⟩;replace g:=b.keep g;replace f:=b.keep f;replace E:=E.ext b;refine qA _ O (AA (AS (AY results239 (v:=(.int .i64 (if true=true then 0 else -1))) O ?_)));exact ⟨by unfold FD Kl;rw[d,Bool.true_or],E⟩
 .have e:=d;replace e:=of_decide_eq_false e;refine AD O O qD (BH d) (qV (Aa (vs:=[(I6 a.start),(.slice t a.accept.length z),(.slice y a.next.length s)]) O BB Aw O (g.cells O)) (AD O O qD (BH d) (qM _ O (AD O O qD (BH d) (qE O (AV func232 kQ kQ O) (Kz _ n c a _ k m (p.ext E) x (u.resolve_left e)) ?_)))));rintro _ w9 ⟨rfl,l⟩;refine qV (Ag (v:=(.bool (ID a n k))) O (by rw[d];rfl)) (qE O (AV func124 kQ kQ O) (Ha (ID a n k) _) ?_);rintro _ i ⟨rfl,b⟩;replace g:=b.keep (l.keep g);replace f:=b.keep (l.keep f);replace E:=(E.ext l).ext b;refine qA _ O (AA (AS (AY results239 (v:=(.int .i64 (if ID a n k=true then 0 else -1))) O ?_)));exact ⟨by unfold FD Kl;rw[d,Bool.false_or],E⟩
open Classical in
noncomputable def starB (a:Dfa) (w:List Nat):Int:=if StarW (beh a a.start) w then 0 else -1
def CN (a:Dfa) (n:Nat):ByteArray:=(⟨#[98,101,103,105,110]⟩:ByteArray)++Eo a n
theorem Kw (a:Dfa) (n:Nat):(CN a n).size=5+(n+7) / 8:=by
 unfold CN Eo;rw[ByteArray.size_append,Dq];rfl
theorem SJ (w0:World) (n c:Nat) (a:Dfa) (av:List Value) (oka:OkD n c a) (ha:BC w0 a av) (hc:1≤c∧c≤16) (hn:n≤20000) :
  CB prog 207 #[.agg av.toArray] w0 fun r w=>((Ge c (D7 a n (CN a n)) (CN a n) 20000∧Tq c (starB a) w0.heap.size r w)∨(¬Ge c (D7 a n (CN a n)) (CN a n) 20000∧VR r))∧Al w0 w:=by
 have b0:=ha;have hal:=oka.al;have bx:=oka.nl;have hst:=oka.st;have a8:(CN a n).size≠(n+7) / 8:=by rw[Kw];omega
 obtain ⟨aa,ac,na,nc,rfl,b1,a9⟩:=b0;obtain ⟨nb,no,rfl,b6⟩:=BL (n:=a.next.length) a9 qO;obtain ⟨row,an⟩:=AK (l:=a.next) (i:=0) qO;have bu:=(oka.row row (List.mem_of_getElem? an)).1;obtain ⟨ra,rc,af,bj⟩:=b6 0 row an;rw[bu] at af bj;subst bx;obtain ⟨ok,hk⟩:=UY (Ge c (D7 a a.next.length (CN a a.next.length)) (CN a a.next.length) 20000);refine qR func207 rfl ntmps207 rfl (fun E=>(Y (BP (v:=(.agg #[(I6 a.start),(.slice aa a.accept.length ac),(.slice (some ⟨nb,no,none⟩) a.next.length nc)])) (c:=#[(I6 a.start),(.slice aa a.accept.length ac),(.slice (some ⟨nb,no,none⟩) a.next.length nc)]) qD rfl rfl ?_)));intro bp wp Np;have Fp:=Np.ge E;replace E:=E.ext Np.ext;have Bp:=Np.blk;refine By (c:=#[(I6 0),(.slice none 0 0),(.slice none 0 0)]) qD Ce rfl ?_;intro br wr Nr;have Fr:=Nr.ge E;have Or_bp:=Nr.lt Bp;replace Bp:=Nr.keep Bp;replace E:=E.ext Nr.ext;have Br:=Nr.blk;refine qA _ rfl (AA (Y (qV (B7 rfl rfl) (A6 (v:=(.func (.func 236) #[] #[(P6 bp 0)])) (c:=#[(.func (.func 236) #[] #[(P6 bp 0)])]) (n:=1) qD Tr rfl T3 rfl rfl rfl qS ?_))));intro be we Ne;have Fe:=Ne.ge E;have Oe_bp:=Ne.lt Bp;have Oe_br:=Ne.lt Br;replace Bp:=Ne.keep Bp;replace Br:=Ne.keep Br;replace E:=E.ext Ne.ext;have Be:=Ne.blk;refine AA (Y (qF bp 0 2 rfl underlying48 rfl A' rfl (qV (AE rfl A4 (Bp.cell rfl)) (qV (AL underlying46 rfl) ?_))));have hlt:bp<(we).heap.size∧br<(we).heap.size∧be<(we).heap.size∧w0.heap.size≤(we).heap.size:=⟨Bp.lt,Br.lt,Be.lt,E.size⟩;refine qE rfl (AV func228 kQ kQ rfl) (MK _ a.next.length qO) ?_;rintro _ w9 ⟨⟨g,rfl,hG,hg0⟩,X9⟩;replace Bp:=X9.keep Bp;replace Br:=X9.keep Br;replace Be:=X9.keep Be;replace E:=E.ext X9;refine A6 (v:=(.slice (some ⟨g,0,none⟩) ((a.next.length+7) / 8) ((a.next.length+7) / 8))) (c:=#[(.slice (some ⟨g,0,none⟩) ((a.next.length+7) / 8) ((a.next.length+7) / 8))]) (n:=1) qD Tt rfl T5 rfl rfl rfl qS ?_;intro bf wf Nf;have Ff:=Nf.ge E;have Of_bp:=Nf.lt Bp;have Of_br:=Nf.lt Br;have Of_be:=Nf.lt Be;have Of_g:=Nf.lt hG;replace Bp:=Nf.keep Bp;replace Br:=Nf.keep Br;replace Be:=Nf.keep Be;replace hG:=Nf.keep hG;replace E:=E.ext Nf.ext;have Bf:=Nf.blk;refine AA (Y (qV (AE rfl LO (Bf.cell rfl)) (qF bp 0 0 rfl underlying48 rfl Ad rfl (qV (AE rfl Ai (Bp.cell rfl)) (qE rfl (AV func226 kQ kQ rfl) (R1 _ a.next.length g a.start (fun _=>false) qO hG qO) ?_)))));rintro _ bc ⟨rfl,am,bv⟩;replace Bp:=am.keep qO Bp;replace Br:=am.keep qO Br;replace Be:=am.keep qO Be;replace Bf:=am.keep qO Bf;replace E:=E.step am (by intro x hx hm;omega);have hG:Az bc g (GH a.next.length fun q=>decide (((q:Nat):Int)=a.start)) 5:=by simpa only[Bool.false_or] using bv
 refine AA (Y (qV (AE rfl LO (Bf.cell rfl)) (qV (De (l:=F_ a.next.length fun q=>decide ((q:Int)=a.start)) underlying162 underlying5 underlying9 rfl hG (Eu _ _)) (BV (v:=(.string (CN a a.next.length))) rfl rfl qD (Qk rfl rfl (by unfold Eo;rw[Dq];show 5+_≤_;omega)) (A6 (v:=(.string (CN a a.next.length))) (c:=#[(.string (CN a a.next.length))]) (n:=1) qD SA rfl PO rfl rfl rfl qS ?_)))));intro bq wq Nq;have Fq:=Nq.ge E;have Oq_bp:=Nq.lt Bp;have Oq_br:=Nq.lt Br;have Oq_be:=Nq.lt Be;have Oq_bf:=Nq.lt Bf;have Oq_g:=Nq.lt hG;replace Bp:=Nq.keep Bp;replace Br:=Nq.keep Br;replace Be:=Nq.keep Be;replace Bf:=Nq.keep Bf;replace hG:=Nq.keep hG;replace E:=E.ext Nq.ext;have Bq:=Nq.blk;refine AA ?_;obtain ⟨n9,hn9⟩:∃n9,n9=(wq).heap.size:=⟨_,rfl⟩;have bs:w0.heap.size≤wq.heap.size:=E.size;have aq:bp<wq.heap.size:=Bp.lt;have ar:br<wq.heap.size:=Br.lt;have aw:be<wq.heap.size:=Be.lt;have ax:bf<wq.heap.size:=Bf.lt;have a1:g<wq.heap.size:=hG.lt;have ay:bq<wq.heap.size:=Bq.lt;refine AI ?_;obtain ⟨bn,ab⟩:∃Fs:List CO,Fs=[(eF (.string (CN a a.next.length))),(eF (P6 bp 2)),(eF (.slice (some ⟨nb,no,none⟩) a.next.length nc)),(eF (.pointer (some ⟨nb,no+0,none⟩))),(eF (.slice ra c rc)),(eF (I6 (c:Int))),(eF (.func (.func 238) #[] #[(P6 bq 0),(P6 bf 0),(P6 bp 0),(P6 be 0)])),(eF (.func (.func 239) #[] #[(P6 bq 0),(P6 bp 0)])),(fun S s v w=>PF 13 [(.bool ok)] (GV ok c 20000 (D7 a a.next.length (CN a a.next.length)) (FD a a.next.length (CN a a.next.length)) (CN a a.next.length) n9) S s v w),(fun S s v w=>PF 13 [(.bool ok)] (GV ok c 20000 (D7 a a.next.length (CN a a.next.length)) (FD a a.next.length (CN a a.next.length)) (CN a a.next.length) n9) S s v w),(fun S _ v w=>S 13=false→(GV ok c 20000 (D7 a a.next.length (CN a a.next.length)) (FD a a.next.length (CN a a.next.length)) (CN a a.next.length) n9) v w),(eF (.bool ok)),(fun S _ v w=>S 13=false→((R_ 48 #[(I6 0),(.slice none 0 0),(.slice none 0 0)] wq.heap.size)) v w),(fun S s v w=>Ql 7 wq.heap.size 48 (GV ok c 20000 (D7 a a.next.length (CN a a.next.length)) (FD a a.next.length (CN a a.next.length)) (CN a a.next.length) n9) S s v w),(eF undef)]:=⟨_,rfl⟩;refine EJ (Ld [(13,(fun y=>wq.heap.size≤y))]) [true,true,true,true,true,true,true,true,true,true,true,true,true,true,false] [14] [22,23,24,25,26,27,28,29,30,21,31,32,7,51,52] [[],[],[1],[2],[3],[4],[],[],[0,5,6,7],[8],[9],[9],[],[0,1,2,3,4,5,6,7,8,9,10,12],[]] [[],[],[1],[2,1],[3,2,1],[4,3,2,1],[],[],[0,5,4,3,2,1,6,7],[8,0,5,4,3,2,1,6,7],[9,8,0,5,4,3,2,1,6,7],[9,8,0,5,4,3,2,1,6,7],[],[0,1,2,3,4,5,6,7,8,9,10,12],[]] bn ab qK mixed qK qK qK qK ?_ ?_
 ·intro wd X0;refine qZ (fun S s' w' hi hN X U V H=>?_) ?_
  ·replace X:=K3 (hN 13 rfl) X;exact AH (AE (U 6 rfl) MY (((X0.trans X).keep Bq).cell rfl)) rfl
  refine qZ (fun S s' w' hi hN X U V H=>?_) ?_
  ·replace X:=K3 (hN 13 rfl) X;exact AH (AT (U 1 rfl) underlying48 rfl A' rfl) rfl
  refine qZ (fun S s' w' hi hN X U V H=>?_) ?_
  ·replace X:=K3 (hN 13 rfl) X;have bw:=(H 1 rfl).2 23 _ rfl (by rw[ab];rfl);exact AH (AE bw A4 (((X0.trans X).keep Bp).cell rfl)) rfl
  refine qZ (fun S s' w' hi hN X U V H=>?_) ?_
  ·replace X:=K3 (hN 13 rfl) X;have bh:=(H 2 rfl).2 24 _ rfl (by rw[ab];rfl);exact AH (AC (i:=0) bh rfl rfl underlying46 Ay qO qO) rfl
  refine qZ (fun S s' w' hi hN X U V H=>?_) ?_
  ·replace X:=K3 (hN 13 rfl) X;have bg:=(H 3 rfl).2 25 _ rfl (by rw[ab];rfl);exact AH (AE bg Ax ((Al.trans E (X0.trans X)).cell af)) rfl
  refine qZ (fun S s' w' hi hN X U V H=>?_) ?_
  ·replace X:=K3 (hN 13 rfl) X;have bz:=(H 4 rfl).2 26 _ rfl (by rw[ab];rfl);exact AH (AL underlying22 bz) rfl
  refine qZ (fun S s' w' hi hN X U V H=>?_) ?_
  ·replace X:=K3 (hN 13 rfl) X;exact AH (B7 rfl (U_ (U 6 rfl) (U 5 rfl) (U 1 rfl) (U 4 rfl))) rfl
  refine qZ (fun S s' w' hi hN X U V H=>?_) ?_
  ·replace X:=K3 (hN 13 rfl) X;exact AH (B7 rfl (JF (U 6 rfl) (U 1 rfl))) rfl
  refine DagStepsS.cons (Au.tup (U:=Ab) (HZ) (fun p y hp hw ah h=>by
     rcases C8 h with ⟨rfl,h0⟩|h0
     ·exact absurd rfl ah
     exact h0.elim)) (A_.const) (fun S s' w' hi hN X U V H=>Or.inl ⟨AQ rfl,?_⟩) ?_
  ·replace X:=K3 (hN 13 rfl) X;have bi:=(H 0 rfl).2 22 _ rfl (by rw[ab];rfl);have b2:=(H 5 rfl).2 27 _ rfl (by rw[ab];rfl);have bk:=(H 6 rfl).2 28 _ rfl (by rw[ab];rfl);have b4:=(H 7 rfl).2 29 _ rfl (by rw[ab];rfl);exact Gf (ET (AV func237 kQ kQ (Vf bi b2 bk b4 rfl)) (R:=fun v w=>∃u,v=.tuple (u::[(.bool ok)]).toArray∧(GV ok c 20000 (D7 a a.next.length (CN a a.next.length)) (FD a a.next.length (CN a a.next.length)) (CN a a.next.length) n9) u w) ((TA _ (CN a a.next.length) c 20000 _ _ (D7 a a.next.length (CN a a.next.length)) (FD a a.next.length (CN a a.next.length)) hc qD (fun k _=>R3 a _ _ k) (fun w k x hE hr hx=>CQ.mk (first:=#[]) (cap:=#[.pointer (some ⟨bq,0,none⟩),.pointer (some ⟨bf,0,none⟩),.pointer (some ⟨bp,0,none⟩),.pointer (some ⟨be,0,none⟩)]) func238 kQ kQ rfl (SL w a.next.length c a _ bp be bq bf g x k _ oka (ha.ext (Al.trans E ((X0.trans X).trans hE))) (((X0.trans X).trans hE).keep Bp) (((X0.trans X).trans hE).keep Bq) (((X0.trans X).trans hE).keep Bf) (((X0.trans X).trans hE).keep hG) (((X0.trans X).trans hE).keep Be) hn ((I1 oka a8 hr).imp id fun h9=>by rw[h9,Dq]) hx hc.2)) (fun w k hE hr=>CQ.mk (first:=#[]) (cap:=#[.pointer (some ⟨bq,0,none⟩),.pointer (some ⟨bp,0,none⟩)]) func239 kQ kQ rfl (SK w a.next.length c a _ bp bq k _ oka (ha.ext (Al.trans E ((X0.trans X).trans hE))) (((X0.trans X).trans hE).keep Bp) (((X0.trans X).trans hE).keep Bq) hn ((I1 oka a8 hr).imp id fun h9=>by rw[h9,Dq])))).mono (fun v w h=>⟨TD h.1 hk (by have:=X0.size;have:=X.size;omega),h.2⟩))) (fun v w h=>by obtain ⟨u,h1,h2⟩:=h;exact ⟨u,h1,fun _=>h2⟩)
  refine DagStepsS.cons (Au.tup (U:=Ab) (HZ) (fun p y hp hw ah h=>by
     rcases C8 h with ⟨rfl,h0⟩|h0
     ·exact absurd rfl ah
     exact h0.elim)) (A_.const) (fun S s' w' hi hN X U V H=>Or.inl ⟨AQ rfl,?_⟩) ?_
  ·replace X:=K3 (hN 13 rfl) X;exact AH (AZ rfl) (by obtain ⟨u,h1,h2⟩:=(H 8 rfl).2 30 (fun S s v w=>PF 13 [(.bool ok)] (GV ok c 20000 (D7 a a.next.length (CN a a.next.length)) (FD a a.next.length (CN a a.next.length)) (CN a a.next.length) n9) S s v w) rfl (by rw[ab];rfl);exact ⟨u,h1,fun _=>h2 (hN 13 rfl)⟩)
  refine DagStepsS.cons (Au.till (U:=Ab) (HZ) (fun p y hp hw ah h=>by
     rcases C8 h with ⟨rfl,h0⟩|h0
     ·exact absurd rfl ah
     exact h0.elim)) (A_.const) (fun S s' w' hi hN X U V H=>Or.inl ⟨AQ rfl,?_⟩) ?_
  ·replace X:=K3 (hN 13 rfl) X;obtain ⟨u9,e9,g9⟩:=(H 9 rfl).2 21 (fun S s v w=>PF 13 [(.bool ok)] (GV ok c 20000 (D7 a a.next.length (CN a a.next.length)) (FD a a.next.length (CN a a.next.length)) (CN a a.next.length) n9) S s v w) rfl (by rw[ab];rfl);exact AH (Aj e9 rfl) (fun _=>g9 (hN 13 rfl))
  refine qZ (fun S s' w' hi hN X U V H=>?_) ?_
  ·replace X:=Uw X;obtain ⟨u9,e9,_⟩:=(H 9 rfl).2 21 (fun S s v w=>PF 13 [(.bool ok)] (GV ok c 20000 (D7 a a.next.length (CN a a.next.length)) (FD a a.next.length (CN a a.next.length)) (CN a a.next.length) n9) S s v w) rfl (by rw[ab];rfl);exact AH (Aj e9 rfl) rfl
  refine DagStepsS.cons (Au.till (U:=Ab) (fun v w w' x h=>O3 _ _ _ v w w' x h) (fun p y hp hw ah h=>by
     rcases C8 h with ⟨rfl,h0⟩|h0
     ·exact absurd rfl ah
     exact h0.elim)) (A_.const) (fun S s' w' hi hN X U V H=>Or.inl ⟨AQ rfl,?_⟩) ?_
  ·replace X:=K3 (hN 13 rfl) X;exact Gf (IT (c:=#[(I6 0),(.slice none 0 0),(.slice none 0 0)]) (hs:=wq.heap.size) Ce rfl (by have:=X0.size;have:=X.size;omega)) (R':=fun v w=>H4 S 12 13=false→(R_ 48 #[(I6 0),(.slice none 0 0),(.slice none 0 0)] wq.heap.size) v w) (fun _ _ h _=>h)
  refine DagStepsS.cons (Au.put (HZ) (fun p y hp hw h=>by
     rcases C8 h with ⟨rfl,h0⟩|h0
     ·exact absurd rfl hp
     exact h0.elim)) (A_.put (j:=12) rfl rfl) (fun S s' w' hi hN X U V H=>Or.inl ⟨AQ rfl,?_⟩) ?_
  ·replace X:=K3 hi X;obtain ⟨b9,e9,B9,l9⟩:=((H 12 rfl).2 7 (fun S _ v w=>S 13=false→((R_ 48 #[(.int .i64 0),(.slice none 0 0),(.slice none 0 0)] wq.heap.size)) v w) rfl (by rw[ab];rfl)) hi;have g9:=((H 10 rfl).2 31 (fun S _ v w=>S 13=false→(GV ok c 20000 (D7 a a.next.length (CN a a.next.length)) (FD a a.next.length (CN a a.next.length)) (CN a a.next.length) n9) v w) rfl (by rw[ab];rfl)) hi;exact Gf (OL (n:=3) e9 rfl g9 B9 rfl Aw (Pq) (Pp) (by first|exact .inl ⟨rfl,l9⟩|exact .inr (.inl ⟨rfl,l9⟩))) (fun v w h=>by obtain ⟨vs,h1,h2⟩:=h;exact ⟨b9,vs,e9,l9,h1,h2⟩)
  refine DagStepsS.tail ?_;exact DagStepsS.nil
 ·intro s' wd1 w1 X0 X1 U H;replace X1:=X1.mono (M':=(fun y=>(fun y=>wq.heap.size≤y) y)) (fun y _ h=>by
    obtain ⟨j,hj,h⟩:=h;rcases C8 h with ⟨rfl,h0⟩|h0
    ·exact h0
    exact h0.elim)
  have bd:=H 11 rfl 32 _ rfl (by rw[ab];rfl);obtain ⟨b3,ba,bb,l51,ag,bm⟩:=(show ((fun S s v w=>Ql 7 wq.heap.size 48 (GV ok c 20000 (D7 a a.next.length (CN a a.next.length)) (FD a a.next.length (CN a a.next.length)) (CN a a.next.length) n9) S s v w):CO) (Lb [true,true,true,true,true,true,true,true,true,true,true,true,true,true,false]) s' (s' 51) w1 from H 13 rfl 51 (fun S s v w=>Ql 7 wq.heap.size 48 (GV ok c 20000 (D7 a a.next.length (CN a a.next.length)) (FD a a.next.length (CN a a.next.length)) (CN a a.next.length) n9) S s v w) rfl (by rw[ab];rfl));obtain ⟨ak,az,a6,a4,a7,ba,bo,bt⟩:=bm;cases bo;obtain ⟨j1,rfl⟩:=Ac.out (σ:=s') (l:=[(2,(.pointer (some ⟨br,0,none⟩))),(32,(.bool ok)),(7,(.pointer (some ⟨b3,0,none⟩)))]) ⟨U 2 rfl,bd,bb,trivial⟩;clear U H;replace Bp:=Chg.keep X1 kH (X0.keep Bp);replace Br:=Chg.keep X1 kH (X0.keep Br);replace Be:=Chg.keep X1 kH (X0.keep Be);replace Bf:=Chg.keep X1 kH (X0.keep Bf);replace hG:=Chg.keep X1 kH (X0.keep hG);replace Bq:=Chg.keep X1 kH (X0.keep Bq);replace E:=(E.ext X0).step X1 (fun y hy h=>by first|omega|(dsimp only at h;omega));refine qA _ rfl (AA (AB ?_));rcases Bool.eq_false_or_eq_true (ok) with ad|ad
  ·have a3:=ad;obtain ⟨aj,a5⟩:=bt ad;refine AI (Y (qM _ rfl (qV (CM rfl) ?_)));have a0:(!ok)=false:=by rw[ad];rfl
   refine AA (AW (BH a0) (AM (AB (Y (qV (Aa (vs:=[(I6 ak.start),(.slice az ak.accept.length a6),(.slice a4 ak.next.length a7)]) rfl BB Aw rfl (ag.cells rfl)) ?_)))));obtain ⟨ap,ai⟩:∃ap,ap=(w1).heap.size:=⟨_,rfl⟩;have ao:w0.heap.size≤ap∧br<ap:=⟨by rw[ai];exact E.size,by rw[ai];exact Br.lt⟩;refine qE rfl (AV func126 kQ kQ rfl) (Jk _ ak.next.length c ak _ aj.ok a5.dfa ⟨by have:=aj.most;omega,hc⟩ aj.acc) ?_;rintro _ w99 ⟨⟨C,ca,cc,ma,mc,hC,hCl,b5,rfl,au⟩,ae⟩;replace Bp:=ae.keep Bp;replace Br:=ae.keep Br;replace Be:=ae.keep Be;replace Bf:=ae.keep Bf;replace hG:=ae.keep hG;replace Bq:=ae.keep Bq;replace ag:=ae.keep ag;replace a5:=a5.ext ae;replace E:=E.ext ae;rw[←ai] at au;refine A8 (b:=br) (o:=0) (c':=#[(I6 C.start),(.slice ca C.accept.length cc),(.slice ma C.next.length mc)]) rfl rfl qS Aw rfl Br qL rfl ?_;intro w3 S3;replace au:=au.chg S3.chg fun y h=>by have h':y=br:=h;omega
   replace Bp:=S3.keep qO Bp;replace Be:=S3.keep qO Be;replace Bf:=S3.keep qO Bf;replace hG:=S3.keep qO hG;replace Bq:=S3.keep qO Bq;replace ag:=S3.keep qO ag;replace E:=S3.step E qQ;replace Br:=S3.blk;refine qA _ rfl (AA (AS (DJ results207 (vs:=[(.int .i64 C.start),(.slice ca C.accept.length cc),(.slice ma C.next.length mc)]) (b:=br) (v':=(.bool true)) rfl BB Aw rfl (Br.cells rfl) rfl ?_)));exact ⟨.inl ⟨hk.1 ad,⟨C,ca,cc,ma,mc,hC.congr (fun w hw=>by rw[aj.start,aj.beh w hw];exact P8 oka a8 w),by have:=aj.most;omega,b5,rfl,au.low ao.1⟩⟩,E⟩
  ·have a3:=ad;refine AI (Y (qM _ rfl (qV (CM rfl) ?_)));have a2:(!ok)=true:=by rw[ad];rfl
   refine AA (A7 (BH a2) (Y (qV (B' (ps:=[]) (v:=(.agg #[(I6 0),(.slice none 0 0),(.slice none 0 0)])) rfl qK) (A8 (b:=br) (o:=0) (c':=#[(I6 0),(.slice none 0 0),(.slice none 0 0)]) rfl rfl qS Aw rfl Br qL rfl ?_))));intro w5 S5;replace Bp:=S5.keep qO Bp;replace Be:=S5.keep qO Be;replace Bf:=S5.keep qO Bf;replace hG:=S5.keep qO hG;replace Bq:=S5.keep qO Bq;replace ag:=S5.keep qO ag;replace E:=S5.step E qQ;replace Br:=S5.blk;refine qA _ rfl (AA (AS (AU (DJ results207 (vs:=[(.int .i64 0),(.slice none 0 0),(.slice none 0 0)]) (b:=br) (v':=(.bool false)) rfl BB Aw rfl (Br.cells rfl) rfl ?_))));exact ⟨.inr ⟨fun h=>(by rw[hk.2 h] at ad;cases ad),rfl⟩,E⟩
end Go.Proofs
namespace Go.Eng
open Go
theorem O8 {P:Program} {N:Nat} {Q:DN} {σ:B0} {w:World} {x:Code} {K:B0->World->Prop} (J:B0->World->Prop) (h:Wp P N x (J1 J Q) σ w) (k:∀σ' w',J σ' w'->K σ' w'):Wp P N x (J1 K Q) σ w:=
 O5 h λe σ' w' q=>by cases e<;>first|exact k _ _ q|exact q
theorem GU {P:Program} {ch:List PanicEntry} {a:Func} {R:Value->World->Prop} {X:World->Prop} {σ:B0} {w:World} (h:fin P a R .ret σ w):UX P ch a R X .ret σ w:=h
section
variable {P : Program} {N : Nat} {Q : DN} {σ : B0} {w : World} {K : B0 → World → Prop} {ops : Array Oper} {rest : List Oper}
theorem K0 {o:Oper} (d:o.guard=none) {v:Value} (e:(execOp (ev σ) o).run P w=.halt (.panic v) w) (k:Q (.panic [{v,recovered:=false}]) σ w):DL P N ops K Q (o::rest) σ w:=by
 intro dz a c b;refine wpList_plain d λK' hK=>?_;unfold Oper.wp;rw[Ch,b,e];simp only[Oper.upon];exact ⟨c,by rw[b];exact k⟩
theorem Oa {dst:Option Tmp} {ty:TypeId} {pos:String} {af:Array Edge} {g:Option (Nat×Bool)} {x:Operand} {u:TypeId} {v:Value} (a:ev σ x=.iface u v):(execOp (ev σ) ⟨dst,.panic x,ty,pos,af,g⟩).run P w=.halt (.panic (.iface u v)) w:=by
 simp[execOp,a,Instr.panic]
theorem IH {dst:Option Tmp} {ty:TypeId} {pos:String} {af:Array Edge} {g:Option (Nat×Bool)} {x:Operand} {t:TypeId} {fs:Array Field} {v:Value} (a:P.underlying t=some (.struct fs)) (b:ev σ x=v):(execOp (ev σ) ⟨dst,.makeInterface t x,ty,pos,af,g⟩).run P w=.ok (.value (.iface t v)) w:=by
 subst b;simp[execOp,Instr.makeInterface,run_underlying a]
end
def VD (P:Program) (fn:Func) (R:Ending->World->Prop) (d:Deferred):DN
  | .normal,σ,w | .ret,σ,w=>∀a:Act,C1 a=σ->Leaves P fn a.tmps R [d] .returning w
  | .panic ch,σ,w=>∀a:Act,C1 a=σ->Leaves P fn a.tmps R [d] (.panicking ch) w
  | _,_,_=>False
def VW (P:Program) (N:Nat) (c:Code) (Q:Exit->Act->World->Prop) (σ:B0) (w:World):Prop:=∀a,Ok [] N a->C1 a=σ->c.wp P Q a w
def TZ (P:Program) (N:Nat) (ops:Array Oper) (Q:Exit->Act->World->Prop) (l:List Oper) (σ:B0) (w:World):Prop:=∀a,Ok [] N a->C1 a=σ->wpList P ops Q l a w
section
variable {P : Program} {N : Nat} {QA : Exit → Act → World → Prop} {σ : B0} {w : World} {ops : Array Oper} {rest : List Oper} {y : Code}
theorem QE {f:FuncId} {a:Func} {c:Code} {args:Array Value} {R:Ending->World->Prop}
 (d:P.funcs[f]?=some a) (b:a.body=some c) (e:a.ntmps=N) (hsz:args.size<=N)
 (h:VW P N c (bodyPostD P a R) (λt=>args.getD t undef) w):Calls P f args w R:=by
 refine calls_of_wp_defers d b (h _ ⟨?_,O⟩ ?_)
 .simp[e];omega
 .funext t;simp only[C1,Array.getD_eq_getD_getElem?,Array.getElem?_append];split
  .rfl
  .rename_i hlt
   rw[Array.getElem?_replicate,Array.getElem?_eq_none (xs:=args) qO];split<;>rfl
theorem Js {d:Nat} {l:List Oper} (h:DL P N l.toArray (VW P N y QA) (λ_ _ _=>False) l σ w):VW P N (.seq (.region d l.toArray false) y) QA σ w:=λa b c=>by
 refine wp_seq (Code.wp_mono ?_ (wp_region_lit (h [] a b c)));rintro e a' w' ⟨o,q⟩;cases e<;>first|exact q a' o rfl|exact (show False from q).elim
theorem Ib {d:Nat} {l:List Oper} (h:TZ P N l.toArray (Exit.then (y.wp P QA) QA) l σ w):VW P N (.seq (.region d l.toArray false) y) QA σ w:=λa c b=>wp_seq (wp_region_lit (h a c b))
theorem R4 {o:Oper} (g:o.guard=none) {d:Nat} (hd:o.dst=some d) (e:d<N) {v:Value} {w':World}
 (f:(execOp (ev σ) o).run P w=.ok (.value v) w') (k:TZ P N ops QA rest (Ef σ d v) w'):TZ P N ops QA (o::rest) σ w:=by
 intro a b c;refine wpList_plain g λK' h=>?_;unfold Oper.wp;rw[Ch,c,f];simp only[Oper.upon,hd];exact h _ _ (k _ (b.put _ _) (by rw[DT b e,c]))
theorem OF {b:Func} {R:Ending->World->Prop} {o:Oper} {d:Deferred} (m:o.guard=none) (hd:o.dst=none)
 (i:(execOp (ev σ) o).run P w=.ok (.defer d) w) (k:Wp P N y (VD P b R d) σ w):TZ P N ops (Exit.then (y.wp P (bodyPostD P b R)) (bodyPostD P b R)) [o] σ w:=by
 intro a g h;refine wpList_plain m λK' j=>?_;unfold Oper.wp;rw[Ch,h,i];simp only[Oper.upon,hd];refine j _ _ ?_;have c:=g.defers;have l:=k [d] {a with defers:=d::a.defers} ⟨g.size,by simp[c]⟩ (by rw[<-h];rfl);show y.wp P (bodyPostD P b R) {a with defers:=d::a.defers} w;refine Code.wp_mono ?_ l;rintro e a' w' ⟨o',q⟩;have f:=o'.defers;cases e<;>simp only[VD] at q<;>simp only[bodyPostD]
 .rw[f];exact q a' O
 .rw[f];exact q a' O
 .rw[f];exact q a' O
theorem Sb {ty:TypeId} {pos:String} {af:Array Edge} {g:Option (Nat×Bool)} {x:Operand} {a:Array TypeId} {f:FuncId} {cap:Array Value} (b:ev σ x=.func (.func f) #[] cap):(execOp (ev σ) ⟨none,.defer ⟨.value x,#[],a⟩,ty,pos,af,g⟩).run P w=.ok (.defer {target:=.fn (.func f) cap,args:=#[]}) w:=by
 simp[execOp,resolve,b,Deferred.ofValue]
theorem JI {b:Func} {a:Array Value} {R:Ending->World->Prop} {d:Deferred} {f:FuncId} {cap:Array Value} {u:FrameMode} {X:World->Prop} (hd:d={target:=.fn (.func f) cap,args:=#[]}) (g:u≠.run)
 (hi:(callFunc f cap).run P w=.ok (.enter f cap) w) (j:CallsD P f cap u w λe c w'=>(∃r,e=.returned r)∧settle c=.returning∧X w') (h:∀w',X w'->∃v,(results b a).run P w'=.ok v w'∧R (.returned v) w'):Leaves P b a R [d] u w:=by
 subst hd;refine leaves_cons (f:=f) (args:=cap) g (by simpa[invoke] using hi) (j.mono ?_);rintro e c w' ⟨⟨r,rfl⟩,k,i⟩;simp only;rw[k];exact h w' i
end
theorem KK {P:Program} {w:World} {ρ:Operand->Value} {dst:Option Tmp} {ty:TypeId} {pos:String} {af:Array Edge} {g:Option (Nat×Bool)} {a:Array TypeId}:(execOp ρ ⟨dst,.call ⟨.builtin .recover,#[],a⟩,ty,pos,af,g⟩).run P w=.ok .recover w:=by
 simp[execOp,resolve,invoke,builtin]
section
variable {P : Program} {σ : B0} {w : World} {dst : Option Tmp} {ty : TypeId} {pos : String} {af : Array Edge} {g : Option (Nat × Bool)} {x : Operand} {t s : TypeId} {v : Value} {fs : Array Field}
theorem L6 (b:P.underlying t=some (.struct fs)) (a:ev σ x=.iface t v):(execOp (ev σ) ⟨dst,.typeAssert x s t true,ty,pos,af,g⟩).run P w=.ok (.value (.tuple #[v,.bool true])) w:=by
 simp[execOp,a,Instr.typeAssert,run_underlying b]
theorem L7 (c:P.underlying t=some (.struct fs)) (a:D_ P t v) (b:ev σ x=.nilIface):(execOp (ev σ) ⟨dst,.typeAssert x s t true,ty,pos,af,g⟩).run P w=.ok (.value (.tuple #[v,.bool false])) w:=by
 have h:=a.run w;simp[execOp,b,Instr.typeAssert,run_underlying c,h]
end
theorem HK {P:Program} {h:Func} {a0 d t u b c n:Nat} (l:h.results=#[.cell a0 t,.cell d u]) {σ:B0} {w:World} {vs:List Value} {v':Value} (k:σ a0=.pointer (some ⟨b,0,none⟩)) (g:σ d=.pointer (some ⟨c,0,none⟩)) (s:Gw P t=true) (hs:DD P t n) (q:vs.length=n) (p:BA w b 0 vs) (f:C_ P u=true) (e:w.cell? ⟨c,0,none⟩=some v') {a:Act} (r:C1 a=σ):(results h a.tmps).run P w=.ok (.tuple #[.agg vs.toArray,v']) w:=by
 subst r;have i:a.tmps.getD a0 undef=.pointer (some ⟨b,0,none⟩):=k;have j:a.tmps.getD d undef=.pointer (some ⟨c,0,none⟩):=g;simp only[Array.getD_eq_getD_getElem?] at i j;have m:=E4 (P:=P) (w:=w) s hs q p;have o:(loadVar u ⟨c,0,none⟩).run P w=.ok v' w:=by simp[loadVar,C_.run f,e]
 simp[results,l,i,j,asAddr,m,o]
theorem HW {Q Q':Exit->Act->World->Prop} (b:∀e a w,Q e a w->Q' e a w) (h:LetsOut Q):LetsOut Q':=by
 obtain ⟨a,w,h⟩:=h;exact ⟨a,w,b _ _ _ h⟩
theorem KP {P:Program} {o:Oper} {a:Act} {w:World} {K K':Act->World->Prop} {Q Q':Exit->Act->World->Prop} (h:∀a w,K a w->K' a w) (d:∀e a w,Q e a w->Q' e a w)
 (b:o.wp P a w K Q):o.wp P a w K' Q':=by
 unfold Oper.wp at *;generalize (execOp a.eval o).run P w=r at *;cases r with
 | ok n w'=>
  cases n<;>simp only[Oper.upon] at b⊢<;>
   first
    | exact h _ _ b
    | exact Calls.mono b (λe w'' c=>by cases e<;>first|exact h _ _ c|exact HW d c|exact d _ _ _ c)
    | exact Rows.mono b (λ_ _ c=>h _ _ c)
 | halt x w'=>cases x<;>simp only[Oper.upon] at b⊢<;>first|exact d _ _ _ b|exact b
theorem K4 {P:Program} {ops:Array Oper} {Q Q':Exit->Act->World->Prop} (b:∀e a w,Q e a w->Q' e a w):∀(l:List Oper) (a:Act) (w:World),wpList P ops Q l a w->wpList P ops Q' l a w:=by
 intro l
 induction l with
 | nil=>intro a w h;exact b _ _ _ h
 | cons o l ih=>
  intro a w h;unfold wpList at h⊢;by_cases c:Region.wanted o (yielded ops a.tmps)=true
  .rw[if_pos c] at h⊢;rcases h with h|h
   .exact .inl (KP (λa w h=>ih a w h) b h)
   .exact .inr ⟨h.1,HW b h.2⟩
  .rw[if_neg c] at h⊢;exact ih _ _ h
theorem Ln {P:Program} {ops:Array Oper} {Q:Exit->Act->List Frame->World->Prop} {cs:List Frame} (n:∀(a:Act) (w:World),¬Q .outgrown a cs w):∀(l:List Oper) (k:Nat) (a:Act) (w:World),(∀j,l[j]?=ops[k+j]?)->wpList P ops (λe a w=>Q e a cs w) l a w->wpOpsS P ops Q (List.range' k l.length) a cs w:=by
 intro l
 induction l with
 | nil=>intro k a w _ h;exact h
 | cons o l ih=>
  intro k a w g h;have m:ops[k]?=some o:=by simpa using (g 0).symm
  have b:∀j,l[j]?=ops[k+1+j]?:=λj=>by have:=g (j+1);simpa[Nat.add_assoc,Nat.add_comm 1 j] using this
  rw[List.length_cons,List.range'_succ];unfold wpList at h;unfold wpOpsS;simp only[m];by_cases f:Region.wanted o (yielded ops a.tmps)=true
  .rw[if_pos f] at h⊢;rcases h with h|⟨_,i,w1,h⟩
   .have c:=KP (K':=λa' w'=>wpOpsS P ops Q (List.range' (k+1) l.length) a' cs w') (λa w h=>ih (k+1) a w b h) (λ_ _ _ h=>h) h;unfold Oper.wp at c;split
    .rename_i d
     rw[d] at c;exact (show False from c).elim
    .exact c
   .exact absurd h (n i w1)
  .rw[if_neg f] at h⊢;exact ih (k+1) _ _ b h
theorem Gh {P:Program} {N:Nat} {f:FuncId} {m:Func} {T z:Nat} {d:Oper} {rest:List Oper} {y:Code} {args:Array Value} {u g:FrameMode} {w:World} {v:Value} {R:Value->World->Prop}
 (Q:P.funcs[f]?=some m) (H:m.body=some (.seq (.region T (d::rest).toArray false) y)) (L:m.ntmps=N) (hsz:args.size<=N) (S:d.guard=none) (hd:d.dst=some z) (J:z<N)
 (E:∀(ρ:Operand->Value) (w:World),(execOp ρ d).run P w=.ok .recover w)
 (G:(u=.returning∧v=.nilIface∧g=u)∨∃c,u=.panicking ({v:=v,recovered:=false}::c)∧g=.panicking ({v:=v,recovered:=true}::c))
 (h:DL P N (d::rest).toArray (Wp P N y (fin P m R)) (fin P m R) rest (Ef (λt=>args.getD t undef) z v) w):CallsD P f args u w λe s w'=>(∃r,e=.returned r∧R r w')∧s=g:=by
 refine callsD_of_wpS Q H λi cs k=>?_;apply wpS_seq;apply wpS_region;have x:(d::rest).toArray.size=rest.length+1:=qP
 rw[x,List.range_eq_range',List.range'_succ];obtain ⟨a0,l⟩:∃a0:Act,a0={tmps:=args++Array.replicate (m.ntmps - args.size) undef,defers:=[]}:=⟨_,O⟩;rw[<-l];have B:Ok [] N a0:=⟨by rw[l];simp[L];omega,by rw[l]⟩;have C:C1 a0=λt=>args.getD t undef:=by
  rw[l];funext t;simp only[C1,Array.getD_eq_getD_getElem?,Array.getElem?_append];split
  .rfl
  .rename_i hlt
   rw[Array.getElem?_replicate,Array.getElem?_eq_none (xs:=args) qO];split<;>rfl
 have M:=h [] (a0.put (some z) v) (B.put _ _) (by rw[DT B J,C]);have b:(match recoverD (i::cs) with|some (v,cs')=>some (v,cs')|none=>some (Value.nilIface,i::cs))=some (v,{i with mode:=g}::cs):=by
  rcases G with ⟨rfl,rfl,rfl⟩|⟨c,rfl,rfl⟩
  .have:({i with mode:=FrameMode.returning}:Frame)=i:=by cases i;simp at k;subst k;rfl
   simp[recoverD,k,this]
  .simp[recoverD,k]
 have D:wpOpsS P (d::rest).toArray (Exit.thenS (y.wpS P (bodyPostS P m i cs λe s w'=>(∃r,e=.returned r∧R r w')∧s=g)) (bodyPostS P m i cs λe s w'=>(∃r,e=.returned r∧R r w')∧s=g)) (List.range' (0+1) rest.length) (a0.put (some z) v) ({i with mode:=g}::cs) w:=by
  refine Ln ?_ rest (0+1) _ _ (λj=>by simp[Nat.add_comm]) (K4 ?_ rest _ _ M)
  .rintro a w1 ⟨u9,⟨r,F,_⟩,_⟩;cases F
  .rintro e a w1 ⟨o,q⟩;cases e<;>simp only[J1] at q<;>simp only[Exit.thenS]
   .refine wpS_of_wp (Code.wp_mono ?_ (q [] a o O));rintro e a w1 ⟨o,q⟩;cases e<;>simp only[fin] at q<;>simp only[bodyPostS]
    .obtain ⟨n,A,r⟩:=q;exact ⟨o.defers,g,O,n,A a O,⟨n,O,r⟩,O⟩
    .obtain ⟨n,A,r⟩:=q;exact ⟨o.defers,g,O,n,A a O,⟨n,O,r⟩,O⟩
   all_goals simp only[fin] at q
   .obtain ⟨n,A,r⟩:=q;exact ⟨o.defers,g,O,n,A a O,⟨n,O,r⟩,O⟩
 unfold wpOpsS;have K:(d::rest).toArray[0]?=some d:=qP
 have I:Region.wanted d (yielded (d::rest).toArray a0.tmps)=true:=by simp[Region.wanted,S]
 simp only[K,E];rw[if_pos I,hd];cases hr:recoverD (i::cs) with
 | none=>rw[hr] at b;simp only[Option.some.injEq,Prod.mk.injEq] at b;rw[<-b.1,<-b.2] at D;exact D
 | some p=>rw[hr] at b;obtain ⟨p1,p2⟩:=p;simp only[Option.some.injEq,Prod.mk.injEq] at b;rw[<-b.1,<-b.2] at D;exact D
end Go.Eng
namespace Go.Proofs
open Go Go.Eng Go.Sort
set_option maxRecDepth 100000
def VU:List PanicEntry:=[{v:=.iface 164 (.agg #[]),recovered:=false}]
theorem UK (w0:World) (b:Bool) (x:Int) (ya za:Option Addr) (yn yc zn zc:Nat):Mr prog VU 204 #[.agg #[.int .i64 x,.slice ya yn yc,.slice za zn zc],.bool b] w0 (fun r w=>(b=true∧r=.agg #[.int .i64 x,.slice ya yn yc,.slice za zn zc])∧Al w0 w) fun w=>b=false∧Al w0 w:=by
 refine Hj func204 rfl ntmps204 (LK rfl) ?_;have E:Chg Ab w0 w0:=Chg.refl _ _;refine Y (BP (v:=(.agg #[(I6 x),(.slice ya yn yc),(.slice za zn zc)])) (c:=#[(I6 x),(.slice ya yn yc),(.slice za zn zc)]) qD rfl rfl ?_);intro bd wd Nd;have Fd:=Nd.ge E;replace E:=E.ext Nd.ext;have Bd:=Nd.blk;refine By (c:=#[(I6 0),(.slice none 0 0),(.slice none 0 0)]) qD Ce rfl ?_;intro br wr Nr;have Fr:=Nr.ge E;have Or_bd:=Nr.lt Bd;replace Bd:=Nr.keep Bd;replace E:=E.ext Nr.ext;have Br:=Nr.blk;refine AA (AI (Y (qM _ rfl (qV (CM rfl) (AA (As rfl (fun h0=>?_) (fun h0=>?_)))))))
 ·have aa:=h0;replace h0:=by simpa using h0
  refine AJ (qV (B' (ps:=[]) (v:=(.agg #[])) rfl qK) (qV (IH (t:=164) (v:=(.agg #[])) underlying164 rfl) (K0 rfl (Oa (u:=164) (v:=(.agg #[])) rfl) (And.intro rfl ⟨h0,E⟩))))
 ·have aa:=h0;replace h0:=by simpa using h0
  refine AM (AB (Y (qV (Aa (vs:=[(I6 x),(.slice ya yn yc),(.slice za zn zc)]) rfl BB Aw rfl (Bd.cells rfl)) (A8 (b:=br) (o:=0) (c':=#[(I6 x),(.slice ya yn yc),(.slice za zn zc)]) rfl rfl qS Aw rfl Br qL rfl ?_))));intro w2 S2;replace Bd:=S2.keep qO Bd;replace E:=S2.step E qQ;replace Br:=S2.blk;refine AA (AS (GU (C5 results204 (vs:=[(.int .i64 x),(.slice ya yn yc),(.slice za zn zc)]) (b:=br) rfl BB Aw rfl (Br.cells rfl) ?_)));exact ⟨⟨h0,rfl⟩,E⟩
end Go.Proofs
namespace Go.Proofs
open Go Go.Eng Go.Sort
set_option maxRecDepth 100000
def Cp (S:Nat->Prop) (w:World) (d:Dfa) (vs:List Value):Prop:=∀(M:Nat->Prop) w',Chg M w w'->(∀b,S b->b<w.heap.size->¬M b)->BC w' d vs
theorem Cp.at' {S:Nat->Prop} {w:World} {d:Dfa} {vs:List Value} (h:Cp S w d vs):BC w d vs:=h Ab w (Chg.refl _ _) λ_ _ _ f=>f.elim
theorem Cp.mono {S S':Nat->Prop} {w:World} {d:Dfa} {vs:List Value} (hs:∀b,S b->S' b) (h:Cp S w d vs):Cp S' w d vs:=λM w' c e=>h M w' c λb a=>e b (hs b a)
theorem Cp.chg {S M:Nat->Prop} {w w':World} {d:Dfa} {vs:List Value} (h:Cp S w d vs) (c:Chg M w w') (f:∀b,S b->b<w.heap.size->¬M b):Cp (λb=>S b∧b<w.heap.size) w' d vs:=λM2 j c2 g=>
 h (λb=>M b∨M2 b) j (Chg.trans (c.mono λb _ a=>.inl a) (c2.mono λb _ a=>.inr a)) λb a e=>λi=>i.elim (f b a e) (g b ⟨a,e⟩ (Nat.lt_of_lt_of_le e c.size))
theorem Cp.ext {S:Nat->Prop} {w w':World} {d:Dfa} {vs:List Value} (h:Cp S w d vs) (e:Al w w'):Cp S w' d vs:=(h.chg e λ_ _ _ f=>f.elim).mono λ_ a=>a.1
theorem Cp.of_new {m:Nat} {w:World} {d:Dfa} {vs:List Value} (h:DP m w d vs):Cp (λb=>m<=b∧b<w.heap.size) w d vs:=λM w' c f=>
 h (λb=>M b∧b<m) w' (c.mono λb e a=>⟨a,Classical.byContradiction λhn=>f b ⟨qO,e⟩ e a⟩) λb a=>.inl a.2
theorem Pv {S:Nat->Prop} {w:World} {f a s p:Nat} {d:Dfa} {vs:List Value} (n:Az w f (d.accept.map (Value.int .i64)).toArray s) (j:Az w a vs.toArray p) (z:S f) (v:S a) (m:vs.length=d.next.length) (hm:d.accept.length<=1000000∧d.next.length<=1000000)
 (e:∀(i:Nat) u l,vs[i]?=some u->d.next[i]?=some l->∃g T,u=.slice (some ⟨g,0,none⟩) l.length l.length∧S g∧l.length<=1000000∧Az w g (l.map (Value.int .i64)).toArray T) :
 Cp S w d [.int .i64 d.start,.slice (some ⟨f,0,none⟩) d.accept.length d.accept.length,.slice (some ⟨a,0,none⟩) d.next.length d.next.length]:=by
 intro M w' c h;refine ⟨_,_,_,_,O,Ev (c.keep (h f z n.lt) n) O qO,vs,?_,m,?_⟩
 .have:=GM (w:=w') (b:=a) (t:=p) (k:=1) (cap:=vs.length) (rows:=vs.map λx=>[x]) (by rw[show (vs.map λx=>[x]).flatten=vs by simp[List.flatten_eq_flatMap,List.flatMap_map]];exact c.keep (h a v j.lt) j) (by intro r e;simp only[List.mem_map] at e;obtain ⟨x,_,rfl⟩:=e;rfl) (by simp;omega) qP;rw[<-m];simpa using this
 .intro i u l q hi;obtain ⟨g,T,rfl,y,hlen,o⟩:=e i u l q hi;exact Ev (c.keep (h g y o.lt) o) O qO
def Lk (S:Nat->Prop) (d:Dfa) (r:Value) (w:World):Prop:=∃ea ec na nc,r=.agg #[.int .i64 d.start,.slice ea d.accept.length ec,.slice na d.next.length nc]∧Cp S w d [.int .i64 d.start,.slice ea d.accept.length ec,.slice na d.next.length nc]
def LR (c:Nat):Dfa:=⟨0,[0],[List.replicate c (-1)]⟩
def U9 (c:Nat):Dfa:=⟨0,[-1],[List.replicate c (-1)]⟩
end Go.Proofs
namespace Go.Proofs
open Go.Shelf
def Tryz.sortSp_ren:Go.Shelf.Ren:=⟨fun|6=>146|15=>108|14=>178|28=>159|29=>160|20=>212|21=>213|22=>214|23=>215|24=>216|25=>217|26=>218|27=>219|46=>241|47=>182|48=>183|49=>242|50=>243|57=>246|n=>n,fun|22=>37|24=>94|25=>181|3=>3|39=>141|0=>0|53=>193|55=>195|4=>4|46=>187|45=>186|50=>163|5=>5|9=>9|66=>209|70=>213|76=>243|77=>244|n=>n,fun|n=>n⟩
theorem Tryz.sortSp:Go.Proofs.SlLaysF0.n6 prog Tryz.sortSp_ren:={
 mixed:=by kernel_rfl
 f6:=⟨Tryz.f146.name,qD,func146.trans (congrArg some qK)⟩
 f14:=⟨Tryz.f178.name,qD,func178.trans (congrArg some qK)⟩
 f15:=func108.trans (congrArg some qK)
 f20:=⟨Tryz.f212.name,qD,func212.trans (congrArg some qK)⟩
 f21:=⟨Tryz.f213.name,qD,func213.trans (congrArg some qK)⟩
 f22:=⟨Tryz.f214.name,qD,func214.trans (congrArg some qK)⟩
 f23:=⟨Tryz.f215.name,qD,func215.trans (congrArg some qK)⟩
 f24:=⟨Tryz.f216.name,qD,func216.trans (congrArg some qK)⟩
 f25:=⟨Tryz.f217.name,qD,func217.trans (congrArg some qK)⟩
 f26:=⟨Tryz.f218.name,qD,func218.trans (congrArg some qK)⟩
 f27:=⟨Tryz.f219.name,qD,func219.trans (congrArg some qK)⟩
 f28:=func159.trans (congrArg some qK)
 f29:=func160.trans (congrArg some qK)
 f46:=⟨Tryz.f241.name,qD,func241.trans (congrArg some qK)⟩
 f47:=func182.trans (congrArg some qK)
 f48:=func183.trans (congrArg some qK)
 f49:=⟨Tryz.f242.name,qD,func242.trans (congrArg some qK)⟩
 f50:=⟨Tryz.f243.name,qD,func243.trans (congrArg some qK)⟩
 f57:=⟨Tryz.f246.name,qD,func246.trans (congrArg some qK)⟩
 t0:=underlying0
 a0:=Tryz.isAgg0
 z0:=Tryz.sizeOf0
 v0:=Tryz.zeroValue0
 t3:=underlying3
 a3:=Tryz.isAgg3
 z3:=Tryz.sizeOf3
 v3:=Tryz.zeroValue3
 t4:=underlying4
 a4:=Tryz.isAgg4
 z4:=Tryz.sizeOf4
 v4:=Tryz.zeroValue4
 t5:=underlying5
 a5:=Tryz.isAgg5
 z5:=Tryz.sizeOf5
 v5:=Tryz.zeroValue5
 t9:=underlying9
 a9:=Tryz.isAgg9
 z9:=Tryz.sizeOf9
 v9:=Tryz.zeroValue9
 t22:=underlying37
 a22:=Tryz.isAgg37
 z22:=Tryz.sizeOf37
 v22:=Tryz.zeroValue37
 t25:=underlying181
 a25:=Tryz.isAgg181
 z25:=Tryz.sizeOf181
 v25:=Tryz.zeroValue181
 t39:=underlying141
 a39:=Tryz.isAgg141
 z39:=Tryz.sizeOf141
 v39:=Tryz.zeroValue141
 t45:=underlying186
 a45:=Tryz.isAgg186
 z45:=Tryz.sizeOf186
 v45:=Tryz.zeroValue186
 t46:=underlying187
 a46:=Tryz.isAgg187
 z46:=Tryz.sizeOf187
 v46:=Tryz.zeroValue187
 t50:=underlying163
 a50:=Tryz.isAgg163
 z50:=Tryz.sizeOf163
 v50:=Tryz.zeroValue163
 t53:=underlying193
 a53:=Tryz.isAgg193
 z53:=Tryz.sizeOf193
 v53:=Tryz.zeroValue193
 t55:=underlying195
 a55:=Tryz.isAgg195
 z55:=Tryz.sizeOf195
 v55:=Tryz.zeroValue195
 t66:=underlying209
 a66:=Tryz.isAgg209
 z66:=Tryz.sizeOf209
 v66:=Tryz.zeroValue209
 t70:=underlying213
 a70:=Tryz.isAgg213
 z70:=Tryz.sizeOf213
 v70:=Tryz.zeroValue213
 t76:=underlying243
 a76:=Tryz.isAgg243
 z76:=Tryz.sizeOf243
 v76:=Tryz.zeroValue243
 t77:=underlying244
 a77:=Tryz.isAgg244
 z77:=Tryz.sizeOf244
 v77:=Tryz.zeroValue244}
def Tryz.sortI_ren:Go.Shelf.Ren:=⟨fun|189=>115|125=>108|257=>166|128=>159|129=>160|294=>186|295=>187|296=>188|297=>189|298=>190|299=>191|216=>192|300=>193|301=>194|328=>222|329=>182|330=>183|331=>223|332=>224|215=>161|343=>244|n=>n,fun|28=>22|3=>3|46=>141|0=>0|51=>193|53=>195|4=>4|183=>187|182=>186|131=>163|5=>5|9=>9|218=>209|222=>213|228=>243|229=>244|n=>n,fun|n=>n⟩
theorem Tryz.sortI:Go.Proofs.Lays.n189 prog Tryz.sortI_ren:={
 mixed:=by kernel_rfl
 f125:=func108.trans (congrArg some qK)
 f128:=func159.trans (congrArg some qK)
 f129:=func160.trans (congrArg some qK)
 f189:=func115.trans (congrArg some qK)
 f215:=func161.trans (congrArg some qK)
 f216:=func192.trans (congrArg some qK)
 f257:=func166.trans (congrArg some qK)
 f294:=func186.trans (congrArg some qK)
 f295:=func187.trans (congrArg some qK)
 f296:=func188.trans (congrArg some qK)
 f297:=func189.trans (congrArg some qK)
 f298:=func190.trans (congrArg some qK)
 f299:=func191.trans (congrArg some qK)
 f300:=func193.trans (congrArg some qK)
 f301:=func194.trans (congrArg some qK)
 f328:=func222.trans (congrArg some qK)
 f329:=func182.trans (congrArg some qK)
 f330:=func183.trans (congrArg some qK)
 f331:=func223.trans (congrArg some qK)
 f332:=func224.trans (congrArg some qK)
 f343:=func244.trans (congrArg some qK)
 t0:=underlying0
 a0:=Tryz.isAgg0
 z0:=Tryz.sizeOf0
 v0:=Tryz.zeroValue0
 t3:=underlying3
 a3:=Tryz.isAgg3
 z3:=Tryz.sizeOf3
 v3:=Tryz.zeroValue3
 t4:=underlying4
 a4:=Tryz.isAgg4
 z4:=Tryz.sizeOf4
 v4:=Tryz.zeroValue4
 t5:=underlying5
 a5:=Tryz.isAgg5
 z5:=Tryz.sizeOf5
 v5:=Tryz.zeroValue5
 t9:=underlying9
 a9:=Tryz.isAgg9
 z9:=Tryz.sizeOf9
 v9:=Tryz.zeroValue9
 t28:=underlying22
 a28:=Tryz.isAgg22
 z28:=Tryz.sizeOf22
 v28:=Tryz.zeroValue22
 t46:=underlying141
 a46:=Tryz.isAgg141
 z46:=Tryz.sizeOf141
 v46:=Tryz.zeroValue141
 t51:=underlying193
 a51:=Tryz.isAgg193
 z51:=Tryz.sizeOf193
 v51:=Tryz.zeroValue193
 t53:=underlying195
 a53:=Tryz.isAgg195
 z53:=Tryz.sizeOf195
 v53:=Tryz.zeroValue195
 t131:=underlying163
 a131:=Tryz.isAgg163
 z131:=Tryz.sizeOf163
 v131:=Tryz.zeroValue163
 t182:=underlying186
 a182:=Tryz.isAgg186
 z182:=Tryz.sizeOf186
 v182:=Tryz.zeroValue186
 t183:=underlying187
 a183:=Tryz.isAgg187
 z183:=Tryz.sizeOf187
 v183:=Tryz.zeroValue187
 t218:=underlying209
 a218:=Tryz.isAgg209
 z218:=Tryz.sizeOf209
 v218:=Tryz.zeroValue209
 t222:=underlying213
 a222:=Tryz.isAgg213
 z222:=Tryz.sizeOf213
 v222:=Tryz.zeroValue213
 t228:=underlying243
 a228:=Tryz.isAgg243
 z228:=Tryz.sizeOf243
 v228:=Tryz.zeroValue243
 t229:=underlying244
 a229:=Tryz.isAgg244
 z229:=Tryz.sizeOf244
 v229:=Tryz.zeroValue244}
def Tryz.compI_ren:Go.Shelf.Ren:=⟨fun|20=>116|n=>n,fun|22=>22|3=>3|4=>4|0=>0|n=>n,fun|n=>n⟩
theorem Tryz.compI:Go.Proofs.Lays2.n20 prog Tryz.compI_ren:={
 mixed:=by kernel_rfl
 f20:=func116.trans (congrArg some qK)
 t0:=underlying0
 a0:=Tryz.isAgg0
 z0:=Tryz.sizeOf0
 v0:=Tryz.zeroValue0
 t3:=underlying3
 a3:=Tryz.isAgg3
 z3:=Tryz.sizeOf3
 v3:=Tryz.zeroValue3
 t4:=underlying4
 a4:=Tryz.isAgg4
 z4:=Tryz.sizeOf4
 v4:=Tryz.zeroValue4
 t22:=underlying22
 a22:=Tryz.isAgg22
 z22:=Tryz.sizeOf22
 v22:=Tryz.zeroValue22
 i3:=by kernel_rfl}
end Go.Proofs
namespace Go.Proofs
open Go Go.Eng Go.Sort
set_option maxRecDepth 100000
structure VSp where
 s:Sp
 ok:EL s
instance:Inhabited VSp:=⟨⟨(0,0),by unfold EL;simp⟩⟩
def Jf (s:VSp):List Value:=CD s.s
theorem PK {α:Type} [Inhabited α] (enc:α->List Value) (k:Nat) (w:World) (g c m:Nat) (d:Array α) (f:Array Obj):Chg (λx=>x=g) w (sortWorldK enc k w g c m d f):=by
 refine ⟨O,O,O,Nat.le_add_right _ _,?_,λb e a=>?_⟩
 .simp[sortWorldK,grow,putRowK,putRow,mapBlock,ahead]
 .simp only[sortWorldK,grow,putRowK,putRow,mapBlock,ahead];rw[Array.getElem?_append_left (by simpa using e),Array.getElem?_modify,if_neg (λh=>a h.symm)];rfl
theorem own_holds {w:World} {base g n c:Nat} {d:List VSp} (h:w.ownsRow base Ll 2 (.slice (some ⟨g,0,none⟩) n c) n ((d.map VSp.s).map CD).flatten) (t:d.length=n):HoldsK Jf 2 w g 0 d.toArray:=by
 have i:BW w (.slice (some ⟨g,0,none⟩) n c) (d.map VSp.s):=EO h (by intro x f;simp only[List.mem_map] at f;obtain ⟨p,_,rfl⟩:=f;rfl) (by simpa using t) qD;intro j m;rw[size_flatK] at m;simp only[List.size_toArray] at m;have a:j / 2<d.length:=qO
 obtain ⟨b,o,e,l⟩:=CZ i qO;simp only[Option.some.injEq,Addr.mk.injEq,and_true] at e;obtain ⟨rfl,rfl⟩:=e;have f:(d.map VSp.s)[j / 2]?=some d[j / 2].s:=by rw[List.getElem?_map,List.getElem?_eq_getElem a];rfl
 have r:=l (j / 2) _ f;rw[get_flatK _ _ _ _ (by simpa using m)];have y:d.toArray[j / 2]! = d[j / 2]:=by rw[getElem!_pos d.toArray (j / 2) (by simpa using a)];simp
 rw[y];constructor
 .rcases Nat.mod_two_eq_zero_or_one j with k|k
  .have:=r.at0;rw[k];rw[show 0+j / 2*2=0+j from qO] at this;simpa[Jf,CD] using this
  .have:=r.at1;rw[k];rw[show 0+j / 2*2+1=0+j from qO] at this;simpa[Jf,CD] using this
 .rcases h.2 with ⟨u,_⟩|⟨g',cap,cur,q,_,v,_⟩
  .simp at u
  .simp only[Value.slice.injEq,Option.some.injEq,Addr.mk.injEq,and_true] at q;obtain ⟨rfl,_⟩:=q;simp[World.frozen?,v]
theorem MS {w:World} {g n c:Nat} {d:Array VSp} (h:HoldsK Jf 2 w g 0 d) (k:d.size=n) (hc:n<=c) (hl:n<=8796093022208):BW w (.slice (some ⟨g,0,none⟩) n c) (d.toList.map VSp.s):=by
 refine ⟨_,c,by simp[k],by simp;omega,by simp;omega,.inr ⟨g,0,O,λi r f j u a=>?_⟩⟩;simp only[List.getElem?_map,Option.map_eq_some_iff] at f;obtain ⟨s,⟨x,b,rfl⟩,rfl⟩:=f;have hi:i<d.size:=by have:=AG b;simpa using this
 have e:j<2:=by have:=AG a;simpa[CD] using this
 have l:=(HoldsK.cell h hi e).1;have m:d[i]! = x:=by
  rw[getElem!_pos d i hi];rw[Array.getElem?_toList,Array.getElem?_eq_getElem hi] at b;simpa using b
 rw[l,m]
 match j,e,a with
 | 0,_,a=>simpa[Jf,CD] using a
 | 1,_,a=>simpa[Jf,CD] using a
theorem J6 {P : Program} {f : FuncId} {a : Func} (c : P.funcs[f]? = some a) (d : (a.name == "runtime.NumGoroutine") = false) (b : a.body.isNone = false) : ∀ args w, (callFunc f args).run P w = .ok (.enter f args) w := fun args w => Gi (vs := args) (w := w) c d b
theorem P7 (a:World):CB prog 108 #[.int .u64 0] a λv w=>v=.int .i64 (Lib.bitLen 0:Nat)∧Al a w:=
 (Any.bits_Len (SlLaysF0.n15.bits (P:=prog) (ρ:=Tryz.sortSp_ren) {Tryz.sortSp with}) 0 a qO qO).mono λ_ _ ⟨b,c⟩=>⟨_,b,O,by rw[c];exact Al.refl _⟩
theorem UR (b:World) (a:Option Addr) (c:Nat) (fv:Value):CB prog 212 #[.slice a 0 c,.int .i64 0,.int .i64 0,fv] b λv w=>v=.tuple #[]∧Al b w:=by
 refine qR func212 O ntmps212 O (λE=>(Y (qM _ O (qV (Ar (c:=1) O O qD) (qA _ O (AA (AO (Ap (λnn_ σ d=>(∃jj_,σ=BK jj_ [(0,(.slice a 0 c)),(1,(I6 0)),(2,(I6 0)),(3,fv),(8,(I6 1))])∧Chg Ab b d∧nn_=(0:Nat)) (n:=(0:Nat)) ?_ ?_))))))))
 .exact ⟨Ac.out ⟨O,O,O,O,O,trivial⟩,E,O⟩
 .clear E;rintro _ _ d ⟨⟨j1,rfl⟩,E,rfl⟩;refine AI (Y (qM _ O (qM _ O (qV (A0 O O) (AA (AW O (Ak (AP (AP (Ae (EQ results212 ?_)))))))))));exact ⟨O,E⟩
theorem UC (b:World) (a:Option Addr) (c:Nat) (n:Int) (fv:Value):CB prog 178 #[.slice a 0 c,.int .i64 0,.int .i64 0,.int .i64 n,fv] b λv w=>v=.tuple #[]∧Al b w:=by
 refine qR func178 O ntmps178 O (λE=>(Y (qA _ O (AA (Y (qA _ O (AA (AO (Ap (λnn_ σ d=>(∃jj_,σ=BK jj_ [(0,(.slice a 0 c)),(1,(I6 0)),(2,(I6 0)),(4,fv)])∧Chg Ab b d∧nn_=(0:Nat)) (n:=(0:Nat)) ?_ ?_)))))))))
 .exact ⟨Ac.out ⟨O,O,O,O,trivial⟩,E,O⟩
 .clear E;rintro _ _ d ⟨⟨j1,rfl⟩,E,rfl⟩;refine AO (Y (qM _ O (qM _ O (qV (GO (c:=0) O O qD) (qA _ O (AA (AI (Y (qM _ O (qV (G0 O O) (AA (A7 O (Y (qM _ O (qM _ O (qM _ O (qM _ O ?_)))))))))))))))));refine qE O (AV func212 kQ kQ O) (UR _ a c fv) ?_;rintro _ w9 ⟨rfl,e⟩;replace E:=E.ext e;refine AA (AS (AU (A1 (AU (A1 (Po results178 ?_))))));exact ⟨O,E⟩
theorem SP (b:World) (a:Option Addr) (c:Nat) (fv:Value):CB prog 146 #[.slice a 0 c,fv] b λv w=>v=.tuple #[]∧Al b w:=by
 refine qR func146 O ntmps146 O (λE=>(Y (qM _ O (qV (AL underlying37 O) (qA _ O (AA (AJ (qM _ O (qM _ O (qM _ O (qV (Dl (c:=0) ⟨_,underlying3⟩ underlying141 O (QH qO)) (qE O (AV func108 kQ kQ O) (P7 _) ?_))))))))))));rintro _ w8 ⟨rfl,d⟩;refine qM _ O (qE O (AV func178 kQ kQ O) (UC _ a c _ fv) ?_);rintro _ w9 ⟨rfl,e⟩;replace E:=(E.ext d).ext e;refine AA (EQ results146 ?_);exact ⟨O,E⟩
theorem SM (p : VSp → VSp → Int) (T : SWO (ltOf p)) {f : FuncId} {C : Func} (hf : (prog).funcs[f]? = some C) (hn : (C.name == "runtime.NumGoroutine") = false) (V : C.body.isNone = false)
 (z:∀(W:World) (x y:VSp),CB prog f #[.agg #[.int .i64 x.s.1,.int .i64 x.s.2],.agg #[.int .i64 y.s.1,.int .i64 y.s.2]] W λv w=>v=.int .i64 (p x y)∧Al W w)
 (b:World) (base:Nat) (v:Value) (l:List Sp) (h:Jv b base v l) (Z:l.length<=8796093022208) (H:∀s∈l,EL s) :
 CB prog 146 #[v,.func (.func f) #[] #[]] b λr w=>r=.tuple #[]∧(∃J:List VSp,(J.map VSp.s).Perm l∧J.Pairwise (λs t=>¬p t s<0)∧BW w v (J.map VSp.s))∧Chg (λx=>v.ownBlock=some x) b w:=by
 have S:=J6 hf hn V;obtain ⟨d,rfl⟩:∃d:List VSp,d.map VSp.s=l:=⟨l.pmap VSp.mk H,by rw[List.map_pmap];simp⟩;have ht:∀w,(isAgg (Tryz.sortSp_ren.t 24)).run prog w=.ok true w:=λw=>Gw.run GF w;have hs:∀w,(Go.sizeOf (Tryz.sortSp_ren.t 24)).run prog w=.ok 2 w:=λw=>CJ.run w;rcases h.2.2 with ⟨rfl,h0⟩|⟨g,cap,cur,rfl,hbg,hg,K,hcm,hcs,htake⟩
 .have hd:d=[]:=List.eq_nil_of_length_eq_zero (by simpa using h0);subst hd;exact (SP b none 0 (.func (.func f) #[] #[])).mono λv w' ⟨X,F⟩=>⟨X,⟨[],List.Perm.refl _,List.Pairwise.nil,BO.nil _ _ _ _⟩,Al.chg F⟩
 .simp only[List.length_map] at *;have R:=own_holds (d:=d) (n:=d.length) (by have:=h.2;rwa [List.length_map] at this) O;have k:g<b.heap.size:=(Array.getElem?_eq_some_iff.1 hg).1;have U:CmpLays prog f #[] Jf 2 p g 0 d.toArray.size b:=λm I dk _ x y=>by
   refine Calls.mono (z _ x y) ?_;rintro e w' ⟨v,rfl,rfl,E⟩;obtain ⟨q,D,F⟩:=Al.grown E;exact ⟨O,q,D,F⟩
  have A:=AnyQ.slices_SortFunc Tryz.sortSp 2 ht hs Jf (λ_=>rfl) (λx u P=>by simp[Jf,CD] at P;rcases P with rfl|rfl<;>rfl) p T f #[] g 0 cap d.toArray b S U R k (by simp;omega);refine Calls.mono A ?_;rintro e w' ⟨rfl,c,n,I,Q,L,rfl⟩;have a:c.size=d.length:=by have:=Q.1;simpa using this
  have o:c.toList.Perm d:=by
   have B:=Q.2.2;simp only[List.size_toArray] at B;rw[show d.length=c.size from a.symm,Array.extract_size] at B;rw[a] at B;simpa using B
  refine ⟨_,O,O,⟨c.toList,o.map _,?_,?_⟩,(PK Jf 2 b g 0 n c I).mono λx _ E=>by subst E;rfl⟩
  .rw[List.pairwise_iff_getElem];intro i j hi M G;have N:=L i j (Nat.zero_le _) G (by simp at M⊢;omega);simp only[Array.length_toList] at hi M;rw[getElem!_pos c i hi,getElem!_pos c j M] at N;simpa[ltOf] using N
  .exact MS (holdsK_sortWorldK_c Jf 2 b g 0 d.toArray c n I R k (by simpa using a)) a K Z
end Go.Proofs
namespace Go.Proofs
open Go Go.Eng Go.Sort
set_option maxRecDepth 100000
def R8:List Int->Int
  | []=>0
  | x::r=>if x≠0 then x else R8 r
theorem U4 (e:World) (v:Value) (l:List Int) (h:A2 e v l):CB prog 109 #[v] e λr w=>r=.int .i64 (R8 l)∧Al e w:=by
 obtain ⟨a,c,rfl⟩:=BO.form h;have hlen:l.length<=9223372036854775807:=by simpa using BO.le h
 simp only[List.length_map] at h⊢;refine qR func109 O ntmps109 O (λE=>(Y (qA _ O (AA (Y (qA _ O (AA (AI (Y (qM _ O (qV (AL underlying22 O) (qM _ O (AA (AO (Ap (λnn_ σ q=>∃(k:Nat),(∃jj_,σ=BK jj_ [(3,(I6 0)),(6,(.slice a l.length c)),(7,(I6 (l.length:Int))),(8,(I6 (k:Int)))])∧Chg Ab e q∧(k<=l.length)∧(R8 (l.drop k)=R8 l)∧nn_=l.length - k) (n:=l.length - 0) ?_ ?_)))))))))))))))
 .exact ⟨0,Ac.out ⟨O,O,O,O,trivial⟩,E,Nat.zero_le _,O,O⟩
 .clear E;rintro _ _ q ⟨k,⟨j1,rfl⟩,E,hk,g,rfl⟩;refine Y (qV (A0 O O) (AA (AI (qC O (λp=>?_) (λp=>?_)))))
  .obtain ⟨x,s⟩:=AK (l:=l) (i:=k) qO;obtain ⟨b,o,rfl,m⟩:=Ao h qO;rw[Gm s] at g;refine AM (AB (AI (AO (Y (qV (AC (b:=b) (o:=o) (len:=l.length) (cap:=c) (i:=k) (o':=o+k) O O O underlying22 Ad qO qO) (qV (AE O Ai (E.cell (λf=>f) (m k x s))) (qA _ O (AA (Y (qM _ O (qM _ O (qV (CE O O) (AA (qC O (λd=>?_) (λd=>?_)))))))))))))))
   .refine Y (qM _ O (qA _ O (AA (AS (A1 (AU (AU (A1 (AU (AY results109 (v:=(.int .i64 x)) O ?_))))))))));exact ⟨BJ (by rw[<-g,R8,if_pos d]),E⟩
   .refine AM (AN (AB (AJ (qV (Ar O O (A5 qO)) (qM _ O (AA (AB ?_)))))));exact ⟨l.length - (k+1),qO,k+1,Ac.out ⟨O,O,O,O,trivial⟩,E,qO,(by rw[<-g,R8,if_neg d]),O⟩
  .have j:k=l.length:=qO
   refine Ak (AP (AP (Ae (AB (Y (qM _ O (qA _ O (AA (AS (AY results109 (v:=(.int .i64 0)) O ?_))))))))));exact ⟨BJ (by rw[<-g,j,List.drop_length];rfl),E⟩
def LM (a b:Int):EK:=λv w=>∃bb,v=.slice (some ⟨bb,0,none⟩) 2 2∧A2 w v [a,b]
theorem JT (a b:Int):Jt (LM a b):=by
 rintro v w w' e ⟨d,c,f⟩;exact ⟨d,c,f.ext e⟩
theorem OI {N:Nat} {σ:B0} {w:World} {dst:Option Tmp} {ty:TypeId} {pos:String} {af:Array Edge} {g:Option (Nat×Bool)} {x y:Operand} {a b:Int} (e:ev σ x=.int .i64 a) (d:ev σ y=.int .i64 b) :
 Td prog N ⟨dst,.buildSlice 22 2 #[(0,x),(1,y)],ty,pos,af,g⟩ (LM a b) σ w:=by
 have c:=New.mk' w #[.int .i64 a,.int .i64 b] 3;refine Aq (Dy (parts:=[(0,x),(1,y)]) (ps:=[(0,.int .i64 a),(1,.int .i64 b)]) (by simp only[List.map,e,d]) underlying22 Ad BY qD qD qK) c.ext ?_;exact ⟨_,O,GS [a,b] c.blk qP qP⟩
end Go.Proofs
namespace Go.Proofs
open Go Go.Eng Go.Sort
set_option maxRecDepth 100000
def P2 (x y:VSp):Int:=R8 [GZ x.s.1 y.s.1,GZ x.s.2 y.s.2]
theorem VH (A:World) (x y:VSp):CB prog 163 #[.agg #[.int .i64 x.s.1,.int .i64 x.s.2],.agg #[.int .i64 y.s.1,.int .i64 y.s.2]] A λv w=>v=.int .i64 (P2 x y)∧Al A w:=by
 refine qR func163 O ntmps163 O (λE=>(Y (BP (v:=(.agg #[(I6 x.s.1),(I6 x.s.2)])) (c:=#[(I6 x.s.1),(I6 x.s.2)]) qD O O ?_)));intro d w1 z;replace E:=E.ext z.ext;have e:=z.blk;refine BP (v:=(.agg #[(I6 y.s.1),(I6 y.s.2)])) (c:=#[(I6 y.s.1),(I6 y.s.2)]) qD O O ?_;intro f w2 k;replace e:=k.keep e;replace E:=E.ext k.ext;have i:=k.blk;refine qA _ O (AA (AI ?_));obtain ⟨t,a⟩:∃I:List Fact,I=[.eq (P6 d 0),.eq (I6 x.s.1),.eq (P6 f 0),.eq (I6 y.s.1),.eq (I6 (GZ x.s.1 y.s.1)),.eq (P6 d 1),.eq (I6 x.s.2),.eq (P6 f 1),.eq (I6 y.s.2),.eq (I6 (GZ x.s.2 y.s.2)),.gen (LM (GZ x.s.1 y.s.1) (GZ x.s.2 y.s.2)) (JT _ _),.eq (I6 (P2 x y)),.eq (I6 (P2 x y))]:=⟨_,O⟩;refine IE [5,6,7,8,9,10,11,12,13,14,15,16,4] [[],[0],[],[2],[1,3],[],[5],[],[7],[4,6,8],[4,9],[9,10],[0,1,2,3,4,5,6,7,8,9,10,11]] t a mixed qK qK ?_ ?_
 .intro wd h;refine DagSteps.cons (λb w' X U H=>Or.inl ⟨?_,?_⟩) ?_
  .exact AQ O
  .exact Aq (AT (U 2 O) underlying94 O Ad O) (Al.refl _) O
  refine DagSteps.cons (λb w' X U H=>Or.inl ⟨?_,?_⟩) ?_
  .exact AQ O
  .have G:b 5=(.pointer (some ⟨d,0,none⟩)):=H 0 O 5 (.eq (.pointer (some ⟨d,0,none⟩))) O (by rw[a];rfl);exact Aq (AE G Ai (((h.trans X).keep e).cell O)) (Al.refl _) O
  refine DagSteps.cons (λb w' X U H=>Or.inl ⟨?_,?_⟩) ?_
  .exact AQ O
  .exact Aq (AT (U 3 O) underlying94 O Ad O) (Al.refl _) O
  refine DagSteps.cons (λb w' X U H=>Or.inl ⟨?_,?_⟩) ?_
  .exact AQ O
  .have F:b 7=(.pointer (some ⟨f,0,none⟩)):=H 2 O 7 (.eq (.pointer (some ⟨f,0,none⟩))) O (by rw[a];rfl);exact Aq (AE F Ai (((h.trans X).keep i).cell O)) (Al.refl _) O
  refine DagSteps.cons (λb w' X U H=>Or.inl ⟨?_,?_⟩) ?_
  .exact AQ O
  .have B:b 6=(.int .i64 x.s.1):=H 1 O 6 (.eq (.int .i64 x.s.1)) O (by rw[a];rfl);have D:b 8=(.int .i64 y.s.1):=H 3 O 8 (.eq (.int .i64 y.s.1)) O (by rw[a];rfl);exact DO (AV func110 kQ kQ (JF B D)) (Kr _ _ _)
  refine DagSteps.cons (λb w' X U H=>Or.inl ⟨?_,?_⟩) ?_
  .exact AQ O
  .exact Aq (AT (U 2 O) underlying94 O Ad O) (Al.refl _) O
  refine DagSteps.cons (λb w' X U H=>Or.inl ⟨?_,?_⟩) ?_
  .exact AQ O
  .have n:b 10=(.pointer (some ⟨d,1,none⟩)):=H 5 O 10 (.eq (.pointer (some ⟨d,1,none⟩))) O (by rw[a];rfl);exact Aq (AE n Ai (((h.trans X).keep e).cell O)) (Al.refl _) O
  refine DagSteps.cons (λb w' X U H=>Or.inl ⟨?_,?_⟩) ?_
  .exact AQ O
  .exact Aq (AT (U 3 O) underlying94 O Ad O) (Al.refl _) O
  refine DagSteps.cons (λb w' X U H=>Or.inl ⟨?_,?_⟩) ?_
  .exact AQ O
  .have j:b 12=(.pointer (some ⟨f,1,none⟩)):=H 7 O 12 (.eq (.pointer (some ⟨f,1,none⟩))) O (by rw[a];rfl);exact Aq (AE j Ai (((h.trans X).keep i).cell O)) (Al.refl _) O
  refine DagSteps.cons (λb w' X U H=>Or.inl ⟨?_,?_⟩) ?_
  .exact AQ O
  .have p:b 11=(.int .i64 x.s.2):=H 6 O 11 (.eq (.int .i64 x.s.2)) O (by rw[a];rfl);have u:b 13=(.int .i64 y.s.2):=H 8 O 13 (.eq (.int .i64 y.s.2)) O (by rw[a];rfl);exact DO (AV func110 kQ kQ (JF p u)) (Kr _ _ _)
  refine DagSteps.cons (λb w' X U H=>Or.inl ⟨?_,?_⟩) ?_
  .exact AQ O
  .have C:b 9=(.int .i64 (GZ x.s.1 y.s.1)):=H 4 O 9 (.eq (.int .i64 (GZ x.s.1 y.s.1))) O (by rw[a];rfl);have r:b 14=(.int .i64 (GZ x.s.2 y.s.2)):=H 9 O 14 (.eq (.int .i64 (GZ x.s.2 y.s.2))) O (by rw[a];rfl);exact OI C r
  refine DagSteps.cons (λb w' X U H=>Or.inl ⟨?_,?_⟩) ?_
  .exact AQ O
  .obtain ⟨b15,g,q⟩:=H 10 O 15 (.gen (LM (GZ x.s.1 y.s.1) (GZ x.s.2 y.s.2)) (JT _ _)) O (by rw[a];rfl);exact DO (AV func109 kQ kQ (NK g)) (U4 _ _ _ (g▸q))
  refine DagSteps.cons (λb w' X U H=>Or.inl ⟨?_,?_⟩) ?_
  .exact AQ O
  .have o:b 16=(.int .i64 (P2 x y)):=H 11 O 16 (.eq (.int .i64 (P2 x y))) O (by rw[a];rfl);exact Aq (El o) (Al.refl _) O
  exact DagSteps.nil
 .intro b w3 m U H;obtain ⟨j3,rfl⟩:=Ac.out (σ:=b) (l:=[(4,(.int .i64 (P2 x y)))]) ⟨(show b 4=(.int .i64 (P2 x y)) from H 12 4 (.eq (.int .i64 (P2 x y))) O (by rw[a];rfl)),trivial⟩;clear U H;replace e:=m.keep e;replace i:=m.keep i;replace E:=E.ext m;refine AB (AS (AY results163 (v:=(.int .i64 (P2 x y))) O ?_));exact ⟨O,E⟩
theorem Ro (x y:VSp):P2 x y<0↔x.s.1<y.s.1∨x.s.1=y.s.1∧x.s.2<y.s.2:=by
 unfold P2 R8 R8 R8 GZ
 (repeat' split)<;>omega
theorem VZ:SWO (ltOf P2):=by
 refine ⟨λx=>?_,λx y z=>?_,λx y z=>?_⟩<;>simp only[ltOf,decide_eq_true_eq,decide_eq_false_iff_not,Ro]<;>omega
theorem SO (a:World) (base:Nat) (v:Value) (l:List Sp) (h:Jv a base v l) (g:l.length<=8796093022208) (b:∀s∈l,EL s) :
 CB prog 146 #[v,.func (.func 163) #[] #[]] a λr w=>r=.tuple #[]∧(∃c:List Sp,c.Perm l∧c.Pairwise (λs t=>s.1<=t.1)∧BW w v c)∧Chg (λx=>v.ownBlock=some x) a w:=
 (SM P2 VZ func163 kQ kQ VH a base v l h g b).mono λr w ⟨i,⟨l',e,f,k⟩,j⟩=>
  ⟨i,⟨_,e,List.pairwise_map.2 (f.imp fun {s t} d=>by rw[Ro] at d;omega),k⟩,j⟩
theorem Hs {w w':World} {base e size n cap g i:Nat} {xs:List Value} {b:Array Value} {v:Value} (h:w.ownsRow base e size (.slice (some ⟨g,0,none⟩) n cap) n xs) (o:Az w g b e) (hi:i<n*size) (c:Az w' g (b.setIfInBounds i v) e):w'.ownsRow base e size (.slice (some ⟨g,0,none⟩) n cap) n (xs.set i v):=by
 rcases h.2 with ⟨p,_⟩|⟨g',cap',cur',m,d,k,l,f,j,a⟩
 .simp at p
 .simp only[Value.slice.injEq,Option.some.injEq,Addr.mk.injEq,and_true] at m;obtain ⟨rfl,_,rfl⟩:=m;unfold Az at o c;rw[o] at k;simp only[Option.some.injEq,Obj.cells.injEq,and_true] at k;obtain ⟨rfl,_⟩:=k;refine ⟨by simpa using h.1,.inr ⟨g,cap,_,O,d,c,l,f,by simpa using j,?_⟩⟩;rw[<-a,Array.toList_setIfInBounds,List.take_set]
theorem Ig {w:World} {base e size n cap g:Nat} {xs:List Value} (h:w.ownsRow base e size (.slice (some ⟨g,0,none⟩) n cap) n xs):∃a,Az w g a e∧n*size<=a.size:=by
 rcases h.2 with ⟨i,_⟩|⟨g',cap',b,f,hbg,j,d,hcm,c,htake⟩
 .simp at i
 .simp only[Value.slice.injEq,Option.some.injEq,Addr.mk.injEq,and_true] at f;obtain ⟨rfl,_,rfl⟩:=f;exact ⟨b,j,by rw[c];exact Nat.mul_le_mul_right _ d⟩
theorem KE (o:List Sp) (c:Sp):((o++[c]).map CD).flatten[o.length*2+1]?=some (.int .i64 c.2):=by
 rw[FU,List.getElem?_append_right (by rw[FH];omega),FH];rw[show o.length*2+1 - o.length*2=1 from qO];rfl
theorem QO (o:List Sp) (c:Sp) (x:Int):((o++[c]).map CD).flatten.set (o.length*2+1) (.int .i64 x)=((o++[(c.1,x)]).map CD).flatten:=by
 rw[FU,FU,List.set_append,if_neg (by rw[FH];omega),FH,show o.length*2+1 - o.length*2=1 from qO];rfl
theorem RF (Q:World) (v:Value) (l:List Sp) (h:BW Q v l) (hl:l.length<=8796093022208) (aa:∀s∈l,EL s) :
 CB prog 132 #[v] Q λr w=>(∃out,FE l out∧Jv w Q.heap.size r out)∧Al Q w:=by
 refine qR func132 O ntmps132 O (λE=>(Y (qA _ O (AA (Y (qM v O (qE O (AV func52 kQ kQ O) (Mf _ v l h qO) ?_)))))));rintro _ w9 ⟨⟨⟨a9,c9,rfl⟩,O9⟩,X9⟩;replace E:=E.ext X9;refine qA _ O (AA (Y (qM _ O (qE O (AV func146 kQ kQ O) (SO _ Q.heap.size (.slice a9 l.length c9) l ⟨⟨_,_,O⟩,O9⟩ qO aa) ?_))));rintro _ G ⟨rfl,⟨I,z,P,ai⟩,ae⟩;replace E:=E.step ae (λx hx hm=>absurd (O9.lt x hm).1 qO);have hlen:I.length=l.length:=z.length_eq;have X:∀s∈I,EL s:=λs hs=>aa s (z.mem_iff.1 hs);have hsz0:Q.heap.size<=G.heap.size:=E.size;obtain ⟨base,hbase⟩:∃base,base=G.heap.size:=⟨_,O⟩;have f:Chg Ab G G:=Chg.refl _ _;refine AA (Y (qA _ O (AA (AI (Y (qM _ O (qV (AL underlying37 O) (qM _ O (AA (AO (Ap (λnn_ σ W1=>∃(k:Nat) (S:Option Addr) (H:Nat) (m:Nat) (K:List Sp),(∃jj_,σ=BK jj_ [(11,(.slice a9 l.length c9)),(12,(I6 (l.length:Int))),(13,(I6 (k:Int))),(3,(.slice S m H))])∧Chg Ab Q W1∧Chg Ab G W1∧(k<=l.length)∧(m=K.length)∧(m<=k)∧(∀s∈K,0<=s.2∧s.2<=1114111)∧((I.drop k).foldl JO K=Kf I)∧(W1.ownsRow base Ll 2 (.slice S m H) m (K.map CD).flatten)∧(base<=W1.heap.size)∧nn_=l.length - k) (n:=l.length - 0) ?_ ?_)))))))))))
 .exact ⟨0,none,0,0,[],Ac.out ⟨O,O,O,O,trivial⟩,E,f,Nat.zero_le _,O,Nat.le_refl _,(λs hs=>absurd hs List.not_mem_nil),O,World.ownsRow_nil _ _ _ _,qO,O⟩
 .clear E f;rintro _ _ W1 ⟨k,S,H,m,K,⟨j1,rfl⟩,E,f,hk,hm,hlo,L,D,a,e,rfl⟩;refine Y (qV (A0 O O) (AA (AI (qC O (λan=>?_) (λan=>?_)))))
  .obtain ⟨s,hs⟩:=AK (l:=I) (i:=k) qO;have hv:=X s (List.mem_of_getElem? hs);unfold EL at hv;obtain ⟨b,o,ak,am⟩:=CZ ai qO;subst ak;rw[Gm hs,List.foldl_cons] at D;have A:=a;refine AM (AB (AI (AO (Y (qV (AC (b:=b) (o:=o) (len:=l.length) (cap:=c9) (i:=k) (o':=o+k*2) O O O underlying37 CJ qO qO) (qV (Aa O GF CJ O ((am k s hs).ext f)) (A6 (v:=(.agg #[(I6 s.1),(I6 s.2)])) (c:=#[(I6 s.1),(I6 s.2)]) (n:=2) qD FF O CJ O O O qS ?_)))))));intro bq wq J;replace a:=Am a J.ext;replace e:=Nat.le_trans e J.ext.size;replace E:=E.ext J.ext;have j:=J.blk;replace f:=f.ext J.ext;refine AA ?_;rcases Bool.eq_false_or_eq_true (decide ((0:Int)<((m:Nat):Int))) with d|d
   .have q:=d;replace q:=of_decide_eq_true q;obtain ⟨C,B,ah⟩:∃C B,K=C++[B]:=by rcases Iv K with rfl|V;simp at hm;omega;exact V
    subst ah;have hvc:=L B qP;have Z:m=C.length+1:=by simpa using hm
    obtain ⟨g,rfl,hgb,hgc⟩:=BS a qO;have hgn:g≠bq:=λV=>by have:=(A.lt g O).2;have:=J.eq;omega
    refine Y (qM _ O (qV (AL underlying37 O) (qA _ O (AA (Dt 13 mixed qK ?_)))));intro w3 X3 _;replace j:=X3.keep j;replace a:=Am a X3;replace e:=Nat.le_trans e X3.size;replace E:=E.ext X3;replace f:=f.ext X3;refine qT (AZ O) (qT (CU O O) (qT (AZ O) (CI (oj:=_) O O qD (BH d) (qT (AT O underlying94 O Ad O) (CI (oj:=_) O O qD (BH d) (qT (AE O Ai (j.cell O)) (CI (oj:=_) O O qD (BH d) (qT (AZ O) (CI (oj:=_) O O qD (BH d) (qT (AZ O) (CI (oj:=_) O O qD (BH d) (qT (GO O O (A5 qO)) (CI (oj:=_) O O qD (BH d) (qT (AC (b:=g) (o:=0) (len:=m) (cap:=H) (i:=m - 1) (o':=0+(m - 1)*2) O O qO underlying37 CJ qO qO) ?_))))))))))))));refine CI (oj:=_) O O qD (BH d) (qT (AT O underlying94 O Ad O) (CI (oj:=_) O O qD (BH d) (qT (AE (v:=(I6 B.2)) O Ai ((by have V:=(a.cells (g:=g) O) (C.length*2+1) _ (KE C B);rwa [Addr.add_lit,show 0+(C.length*2+1)=0+(m - 1)*2+1 from qO] at V))) (CI (oj:=_) O O qD (BH d) (qT (Ar O O (A5 qO)) (CI (oj:=_) O O qD (BH d) (qT (G0 O O) (ES (qV (Ag (v:=(.bool (decide ((s.1:Int)<=B.2+1)))) O (by rw[d];rfl)) (AA (qC O (λhj=>?_) (λhj=>?_))))))))))))
    .obtain ⟨al,T,hcs⟩:=Ig a;refine Lc 14 mixed qK ?_;intro w5 W _;replace j:=W.keep j;replace T:=W.keep T;replace a:=Am a W;replace e:=Nat.le_trans e W.size;replace E:=E.ext W;replace f:=f.ext W;refine qT (AZ O) (qT (AZ O) (qT (GO O O (A5 qO)) (qT (AZ O) (qT (AZ O) (qT (GO O O (A5 qO)) (qT (AC (b:=g) (o:=0) (len:=m) (cap:=H) (i:=m - 1) (o':=0+(m - 1)*2) O O qO underlying37 CJ qO qO) (qT (AT O underlying94 O Ad O) (qT (AE (v:=(I6 B.2)) O Ai ((by have V:=(a.cells (g:=g) O) (C.length*2+1) _ (KE C B);rwa [Addr.add_lit,show 0+(C.length*2+1)=0+(m - 1)*2+1 from qO] at V))) (qT (AT O underlying94 O Ad O) (qT (AE O Ai (j.cell O)) (qT (Qj O O O) (qT (AC (b:=g) (o:=0) (len:=m) (cap:=H) (i:=m - 1) (o':=0+(m - 1)*2) O O qO underlying37 CJ qO qO) (qT (AT O underlying94 O Ad O) (ES ?_))))))))))))));have ag:=T;refine A9 (b:=g) (o:=0+(m - 1)*2+1) (c':=al.setIfInBounds (0+(m - 1)*2+1) (I6 (max B.2 s.2))) (v:=(I6 (max B.2 s.2))) O O O Ad T qO (O) ?_;intro w6 S6;replace j:=S6.keep qO j;replace E:=S6.step E qQ;replace f:=S6.step f (Or.inl qO);replace T:=S6.blk;have y:=Hs a ag (i:=0+(m - 1)*2+1) qO T;refine AA (AN (AB (AJ (qV (Ar O O (A5 qO)) (qM _ O (AA (AB ?_)))))));exact ⟨l.length - (k+1),qO,k+1,some ⟨g,0,none⟩,H,m,C++[(B.1,max B.2 s.2)],Ac.out ⟨O,O,O,O,trivial⟩,E,f,qO,(by simp[Z]),qO,(λu t=>by rcases List.mem_append.1 t with t|t;exact L u (by simp[t]);rw[List.mem_singleton] at t;subst t;simp only;omega),(by rw[<-D,G7,if_pos hj]),(by rw[show 0+(m - 1)*2+1=C.length*2+1 from qO,QO] at y;exact y),(by have:=y.lt g O;omega),O⟩
    .refine AJ (qM _ O (qV (Aa (vs:=[(I6 s.1),(I6 s.2)]) O GF CJ O (j.cells O)) (Ah (ps:=[(0,(.agg #[(I6 s.1),(I6 s.2)]))]) (c:=#[(I6 s.1),(I6 s.2)]) qD O underlying37 CJ FF qD qD qK ?_)));intro br wr R;replace j:=R.keep j;replace a:=Am a R.ext;replace e:=Nat.le_trans e R.ext.size;replace E:=E.ext R.ext;have Br:=R.blk;replace f:=f.ext R.ext;refine BU (base:=base) (n:=m) (m:=1) (xs:=((C++[B]).map CD).flatten) (news:=[(I6 s.1),(I6 s.2)]) (size:=2) (bytes:=16) (v:=(.slice (some ⟨g,0,none⟩) m H)) qD underlying37 CJ O0 FF O qD O a O (O) (Br.cells O) qS (by unfold maxLen;omega) qO (e) ?_;intro v9 af F p ad;replace j:=p.keep (λh=>by have:=(A.lt _ h).2;have:=J.eq;omega) j;replace E:=E.step p (λx hx h=>absurd (a.lt x h).1 qO);replace f:=f.step p (λx hx h=>absurd (a.lt x h).1 qO);obtain ⟨M,N,rfl⟩:=BD F;refine qA _ O (AA (AN (AB (AJ (qV (Ar O O (A5 qO)) (qM _ O (AA (AB ?_))))))));exact ⟨l.length - (k+1),qO,k+1,M,N,m+1,C++[B]++[s],Ac.out ⟨O,O,O,O,trivial⟩,E,f,qO,(by simp[Z]),qO,(λu t=>by rcases List.mem_append.1 t with t|t;exact L u t;rw[List.mem_singleton] at t;subst t;omega),(by rw[<-D,G7,if_neg hj]),(by rw[FU];exact F),Nat.le_trans e p.size,O⟩
   .have q:=d;replace q:=of_decide_eq_false q;have aj:m=0:=qO
    have ab:K=[]:=List.eq_nil_of_length_eq_zero qO;subst ab;refine Y (qM _ O (qV (AL underlying37 O) (qA _ O (AA (Dt 13 mixed qK ?_)))));intro w7 X7 _;replace j:=X7.keep j;replace E:=E.ext X7;replace f:=f.ext X7;refine qT (AZ O) (qT (CU O O) (qT (AZ O) (CR (oj:=_) O O qD (v:=.bool false) (BH d) (Or.inl O) (CR (oj:=_) O O qD (v:=.bool false) (BH d) (Or.inl O) (CR (oj:=_) O O qD (v:=.bool false) (BH d) (Or.inl O) (CR (oj:=_) O O qD (v:=.bool false) (BH d) (Or.inl O) (CR (oj:=_) O O qD (v:=.bool false) (BH d) (Or.inl O) (CR (oj:=_) O O qD (v:=.bool false) (BH d) (Or.inl O) (CR (oj:=_) O O qD (v:=.bool false) (BH d) (Or.inl O) (CR (oj:=_) O O qD (v:=.bool false) (BH d) (Or.inl O) (CR (oj:=_) O O qD (v:=.bool false) (BH d) (Or.inl O) (CR (oj:=_) O O qD (v:=.bool false) (BH d) (Or.inl O) (ES (qV (Ag (v:=(.bool false)) O (by rw[d];rfl)) ?_))))))))))))));refine AA (AW O (AJ (qM _ O (qV (Aa (vs:=[(I6 s.1),(I6 s.2)]) O GF CJ O (j.cells O)) (Ah (ps:=[(0,(.agg #[(I6 s.1),(I6 s.2)]))]) (c:=#[(I6 s.1),(I6 s.2)]) qD O underlying37 CJ FF qD qD qK ?_)))));intro b8 w8 U;replace j:=U.keep j;replace a:=Am (Am a X7) U.ext;replace e:=Nat.le_trans (Nat.le_trans e X7.size) U.ext.size;replace E:=E.ext U.ext;have B8:=U.blk;replace f:=f.ext U.ext;refine BU (base:=base) (n:=m) (m:=1) (xs:=[]) (news:=[(I6 s.1),(I6 s.2)]) (size:=2) (bytes:=16) (v:=(.slice S m H)) qD underlying37 CJ O0 FF O qD O a O (O) (B8.cells O) qS (by unfold maxLen;omega) qO (e) ?_;intro v9 af F p ad;replace j:=p.keep (λh=>by have:=(A.lt _ h).2;have:=J.eq;omega) j;replace E:=E.step p (λx hx h=>absurd (a.lt x h).1 qO);replace f:=f.step p (λx hx h=>absurd (a.lt x h).1 qO);obtain ⟨M,N,rfl⟩:=BD F;refine qA _ O (AA (AN (AB (AJ (qV (Ar O O (A5 qO)) (qM _ O (AA (AB ?_))))))));exact ⟨l.length - (k+1),qO,k+1,M,N,m+1,[s],Ac.out ⟨O,O,O,O,trivial⟩,E,f,qO,(by simp[aj]),qO,(λu t=>by rw[List.mem_singleton] at t;subst t;omega),(by rw[<-D,Ke]),(by simpa[CD] using F),Nat.le_trans e p.size,O⟩
  .have ac:I.drop k=[]:=List.drop_eq_nil_of_le qO;rw[ac,List.foldl_nil] at D;refine Ak (AP (AP (Ae (AB (Y (qM _ O (qA _ O (AA (AS (AY results132 (v:=(.slice S m H)) O ?_))))))))));subst D;subst hm;exact ⟨⟨Kf I,⟨I,z,P,O⟩,⟨S,H,O⟩,Dc a qO⟩,E⟩
theorem Ku:∀(l:List Sp) (p:Option Int),Canon l->(∀h,p=some h->∀s∈l,h+2<=s.1)->EG p l=0
 | [],_,_,_=>rfl
 | s::r,p,hc,hp=>by
  have a:=hc.head;unfold EL at a;rw[Ds,if_neg (by unfold FB;simp;omega)];rw[if_neg,Ku r (some s.2) hc.tail (λh b t c=>by cases b;exact hc.far t c)];cases p with
  | none=>simp
  | some h=>have:=hp h O s List.mem_cons_self;simp;omega
theorem Hb:∀(l:List Sp) (p:Option Int),EG p l=0->Canon l∧(∀h,p=some h->∀s∈l,h+2<=s.1)
 | [],_,_=>⟨Canon.nil,λ_ _ _ h=>absurd h List.not_mem_nil⟩
 | s::r,p,h0=>by
  rw[Ds] at h0;by_cases c:FB s=false
  .rw[if_pos c] at h0;cases h0
  rw[if_neg c] at h0;have f:EG (some s.2) r=0∧∀h,p=some h->h+2<=s.1:=by
   cases p with
   | none=>exact ⟨by simpa using h0,λ_ b=>by cases b⟩
   | some q=>
    by_cases e:s.1<q+2
    .simp[e] at h0
    .simp[e] at h0;exact ⟨h0,λh b=>by cases b;omega⟩
  obtain ⟨i,j⟩:=Hb r (some s.2) f.1;have a:EL s:=by unfold EL;unfold FB at c;simp at c;omega
  have g:=j s.2 O;refine ⟨Canon.cons a g i,λh b t d=>?_⟩;have h4:=f.2 h b;rcases List.mem_cons.1 d with rfl|d
  .omega
  .have:=g t d;unfold EL at a;omega
theorem P1 {l:List Sp} (h:Canon l) (hl:l.length<=16):BT l=0:=by
 unfold BT;rw[if_neg qO];exact Ku l none h λ_ a=>by cases a
theorem LV {l:List Sp} (h:BT l=0):Canon l∧l.length<=16:=by
 unfold BT at h;split at h
 .cases h
 .exact ⟨(Hb l none h).1,qO⟩
def GG (out:List Sp) (f:Int->Bool):Prop:=Canon out∧∀r,0<=r->r<=1114111->Cq out r=f r
theorem GG.eq {a b:List Sp} {f g:Int->Bool} (e:GG a f) (i:GG b g) (h:∀r,0<=r->r<=1114111->f r=g r):a=b:=
 H9 e.1 i.1 λr d c=>by rw[e.2 r d c,i.2 r d c,h r d c]
theorem GG.join {l out:List Sp} (h:FE l out) (a:∀s∈l,EL s):GG out (Cq l)∧out.length<=l.length:=
 let ⟨h1,h2,h3⟩:=h.all a
 ⟨⟨h1,λr _ _=>h2 r⟩,h3⟩
end Go.Proofs
namespace Go.Proofs
open Go Go.Eng Go.Sort
set_option maxRecDepth 100000
abbrev Ta:Nat:=3
theorem ownI_holds {w:World} {base g n c:Nat} {l:List Int} (h:w.ownsRow base Ta 1 (.slice (some ⟨g,0,none⟩) n c) n (l.map (Value.int .i64))):Sort.Holds (Value.int .i64) w g 0 l.toArray:=by
 intro j b;simp only[List.size_toArray] at b;have e:l[j]?=some l[j]:=List.getElem?_eq_getElem b;have a:=h.cells (g:=g) O j (.int .i64 l[j]) (by simp[e]);rw[Addr.add_lit] at a;have f:l.toArray[j]! = l[j]:=by rw[getElem!_pos l.toArray j (by simpa using b)];simp
 rw[f];refine ⟨a,?_⟩;rcases h.2 with ⟨a,_⟩|⟨g',cap,cur,d,_,i,_⟩
 .simp at a
 .simp only[Value.slice.injEq,Option.some.injEq,Addr.mk.injEq,and_true] at d;obtain ⟨rfl,_⟩:=d;simp[World.frozen?,i]
theorem NT {w:World} {g n c:Nat} {l:List Int} (h:Sort.Holds (Value.int .i64) w g 0 l.toArray) (f:l.length=n) (hc:n<=c) (hl:n<=9223372036854775807):A2 w (.slice (some ⟨g,0,none⟩) n c) l:=by
 refine ⟨_,c,by simp[f],by simp;omega,by simp;omega,.inr ⟨g,0,O,λi r d j u a=>?_⟩⟩;simp only[List.getElem?_map,Option.map_eq_some_iff] at d;obtain ⟨x,b,rfl⟩:=d;have hi:=AG b;have hj:j<1:=by have:=AG a;simpa[Dh] using this
 obtain rfl:j=0:=qO
 have e:=(h i (by simpa using hi)).1;have k:l.toArray[i]! = x:=by
  rw[getElem!_pos l.toArray i (by simpa using hi)];rw[List.getElem?_eq_getElem hi] at b;simpa using b
 rw[k] at e;simp[Dh] at a;subst a;simpa using e
theorem II {α:Type} [Inhabited α] (enc:α->Value) (w:World) (g c m:Nat) (d:Array α) (f:Array Obj):Chg (λx=>x=g) w (grow (putRow enc (Sort.ahead w m) g c d) f):=by
 refine ⟨O,O,O,Nat.le_add_right _ _,?_,λb e a=>?_⟩
 .simp[grow,putRow,mapBlock,Sort.ahead]
 .simp only[grow,putRow,mapBlock,Sort.ahead];rw[Array.getElem?_append_left (by simpa using e),Array.getElem?_modify,if_neg (λh=>a h.symm)]
def RC (x y:Int):Bool:=decide (x<=y)
theorem SN (b:World) (base g c:Nat) (l:List Int) (h:b.ownsRow base Ta 1 (.slice (some ⟨g,0,none⟩) l.length c) l.length (l.map (Value.int .i64))) (hl:l.length<=17592186044416) :
 CB prog 115 #[.slice (some ⟨g,0,none⟩) l.length c] b λr w=>r=.tuple #[]∧Sort.Holds (Value.int .i64) w g 0 (l.mergeSort RC).toArray∧Chg (λx=>x=g) b w:=by
 have d:=ownI_holds h;have a:g<b.heap.size:=(h.lt g O).2;refine Calls.mono (Any.slices_Sort_int Tryz.sortI g 0 c l b d a qO) ?_;rintro e w' ⟨rfl,n,f,rfl⟩;refine ⟨_,O,O,?_,II _ b g 0 n _ f⟩;exact holds_grow _ _ f g 0 _ (by simpa[putRow,mapBlock,Sort.ahead] using a) (holds_putRow _ (Sort.ahead b n) g 0 l.toArray _ d qP)
theorem TM (a:World) (g c:Nat) (l:List Int) (i:Sort.Holds (Value.int .i64) a g 0 l.toArray) (m:l.length<=c∧c<=9223372036854775807) :
 CB prog 116 #[.slice (some ⟨g,0,none⟩) l.length c] a λr w=>r=.slice (some ⟨g,0,none⟩) (Lib.compact l).length c∧A2 w r (Lib.compact l)∧Chg (λx=>x=g) a w:=by
 refine Calls.mono (Any.slices_Compact_int Tryz.compI g 0 c l a i qO m.1) ?_;rintro e w' ⟨rfl,q,rfl⟩;have hlen:(Lib.compact l).length<=l.length:=by
  unfold Lib.compact Lib.compactUpTo;rw[List.length_map];exact Nat.le_trans (List.length_filter_le _ _) qP
 have b:=II (Value.int .i64) a g 0 q (Lib.compact l++List.replicate (l.length - (Lib.compact l).length) 0).toArray #[];have d:∀w:World,grow w #[]=w:=λw=>by simp[grow]
 rw[d] at b;refine ⟨_,O,O,?_,b⟩;have n:Sort.Holds (Value.int .i64) (putRow (Value.int .i64) (Sort.ahead a q) g 0 (Lib.compact l++List.replicate (l.length - (Lib.compact l).length) 0).toArray) g 0 (Lib.compact l++List.replicate (l.length - (Lib.compact l).length) 0).toArray:=
  holds_putRow _ (Sort.ahead a q) g 0 l.toArray _ i (by simp;omega)
 have f:Sort.Holds (Value.int .i64) (putRow (Value.int .i64) (Sort.ahead a q) g 0 (Lib.compact l++List.replicate (l.length - (Lib.compact l).length) 0).toArray) g 0 (Lib.compact l).toArray:=by
  intro j h;simp only[List.size_toArray] at h;have k:=n j (by simp;omega);rw[getElem!_pos _ j (by simp;omega)] at k;rw[getElem!_pos _ j (by simpa using h)];simpa[List.getElem_append_left h] using k
 exact NT (l:=Lib.compact l) f O qO qO
theorem LU {l:List Int} (hs:l.Pairwise (·<=·)):∀m,m<=l.length->(Lib.compactUpTo l.toArray m).Pairwise (· < ·)∧∀x,x∈Lib.compactUpTo l.toArray m↔x∈l.take m:=by
 intro m
 induction m with
 | zero=>intro _;simp[Lib.compactUpTo]
 | succ m ih=>
  intro hm;obtain ⟨s,k⟩:=ih qO;have e:l[m]?=some l[m]:=List.getElem?_eq_getElem qO;have r:l.toArray[m]! = l[m]:=by rw[getElem!_pos _ m (by simp;omega)];simp
  rw[Lib.compactUpTo_succ,(show l.take (m+1)=l.take m++[l[m]] by rw[List.take_add_one,e];rfl)];have p:∀x∈l.take m,∃j,j<m∧∃c:j<l.length,l[j]=x:=λx e=>by
   obtain ⟨j,c⟩:=List.mem_iff_getElem?.1 e;have b:=AG c;rw[List.length_take] at b;have f:j<m:=qO
   have g:j<l.length:=qO
   rw[List.getElem?_take,if_pos f,List.getElem?_eq_getElem g] at c;exact ⟨j,f,g,Option.some.inj c⟩
  have a:∀(i j:Nat) (hi:i<l.length) (c:j<l.length),i<=j->l[i]<=l[j]:=λi j hi c h=>by
   rcases Nat.eq_or_lt_of_le h with b|b
   .subst b;exact Int.le_refl _
   .exact List.pairwise_iff_getElem.1 hs i j hi c b
  by_cases d:Lib.keeps l.toArray m=true
  .rw[if_pos d,r];have o:∀x∈l.take m,x<l[m]:=λx e=>by
    obtain ⟨j,hjm,c,rfl⟩:=p x e;have q:l[j]<=l[m - 1]:=a j (m - 1) c qO qO;have u:l[m - 1]<=l[m]:=a (m - 1) m qO qO qO;have h6:l[m]≠l[m - 1]:=by
     unfold Lib.keeps at d;rw[decide_eq_true_eq] at d;rcases d with n|n
     .omega
     .rw[r,getElem!_pos _ (m - 1) (by simp;omega)] at n;simpa using n
    omega
   refine ⟨?_,λx=>by rw[List.mem_append,List.mem_append,k x]⟩;rw[List.pairwise_append];exact ⟨s,qP,λx e y t=>by rw[List.mem_singleton] at t;subst t;exact o x ((k x).1 e)⟩
  .rw[if_neg d,List.append_nil];refine ⟨s,λx=>?_⟩;rw[k x,List.mem_append,List.mem_singleton];constructor
   .exact .inl
   .rintro (b|b)
    .exact b
    .have q:m≠0∧l.toArray[m]! = l.toArray[m - 1]!:=by
      unfold Lib.keeps at d;simp only[decide_eq_true_eq,not_or,Decidable.not_not] at d;exact d
     rw[r,getElem!_pos _ (m - 1) (by simp;omega)] at q;have u:l[m]=l[m - 1]:=by simpa using q.2
     rw[b,u];exact List.mem_iff_getElem?.2 ⟨m - 1,by rw[List.getElem?_take,if_pos qO,List.getElem?_eq_getElem qO]⟩
theorem Ji (l:List Int):(Lib.compact (l.mergeSort RC)).Pairwise (· < ·)∧∀x,x∈Lib.compact (l.mergeSort RC)↔x∈l:=by
 have hs:(l.mergeSort RC).Pairwise (·<=·):=by
  have:=List.pairwise_mergeSort (le:=RC) (λa b c h1 d=>by simp[RC] at *;omega) (λa b=>by simp[RC];omega) l;exact this.imp λh=>by simpa[RC] using h
 have h:=LU hs (l.mergeSort RC).length (Nat.le_refl _);refine ⟨h.1,λx=>?_⟩;have d:=h.2 x;rw[List.take_length,List.mem_mergeSort] at d;exact d
end Go.Proofs
namespace Go.Proofs
open Go Go.Eng Go.Sort
set_option maxRecDepth 100000
def Ju (l:List Sp) (k:Int):Prop:=k=0∨∃s∈l,k=s.1∨(s.2<1114111∧k=s.2+1)
theorem Ec {α:Type} {l:List α} {k:Nat} {x:α} (h:l[k]?=some x):l.take (k+1)=l.take k++[x]:=by rw[List.take_add_one,h];rfl
def FR (l:List Sp) (p:List Int):Prop:=p.Pairwise (· < ·)∧∀k,k∈p↔Ju l k
end Go.Proofs
namespace Go.Proofs
open Go Go.Eng Go.Sort
set_option maxRecDepth 100000
def nx (p:List Int) (k:Nat):Int:=(p[k]?).getD 1114112
def R7 (f:Int->Bool) (p:List Int):Prop:=∀a r,a∈p->a<=r->r<=1114111->(∀k∈p,k<=a∨r<k)->f r=f a
structure CInv (p:List Int) (f:Int->Bool) (ou:List Sp) (k:Nat):Prop where
 can:Canon ou
 low:∀s∈ou,s.2<nx p k
 mem:∀r,0<=r->r<nx p k->Cq ou r=f r
theorem EC {l:List Sp} {p:List Int} (h:FR l p) (a:∀s∈l,EL s) {k:Int} (c:k∈p):0<=k∧k<=1114111:=by
 rcases (h.2 k).1 c with b|⟨s,hs,b⟩
 .omega
 .have:=a s hs;unfold EL at this;omega
theorem Sl {p:List Int} (h:p.Pairwise (· < ·)) {k:Nat} {x:Int} (a:p[k]?=some x) (b:∀q∈p,q<=1114111):x<nx p (k+1):=by
 unfold nx;cases hy:p[k+1]? with
 | none=>have:=b x (List.mem_of_getElem? a);simp;omega
 | some y=>
  have c:=AG hy;have h2:=List.pairwise_iff_getElem.1 h k (k+1) qO c qO;rw[List.getElem?_eq_getElem qO] at a hy;simp at a hy;simp;omega
theorem NH {p:List Int} (h:p.Pairwise (· < ·)) {k:Nat} {x r:Int} (g:p[k]?=some x) (e:r<nx p (k+1)):∀q∈p,q<=x∨r<q:=by
 intro q i;obtain ⟨j,d⟩:=List.mem_iff_getElem?.1 i;have a:=AG d;have b:=AG g;rw[List.getElem?_eq_getElem a] at d;rw[List.getElem?_eq_getElem b] at g;simp at d g;rcases Nat.lt_trichotomy j k with c|c|c
 .have:=List.pairwise_iff_getElem.1 h j k a b c;omega
 .subst c;omega
 .right;unfold nx at e;rw[List.getElem?_eq_getElem (show k+1<p.length by omega)] at e;simp at e;rcases Nat.eq_or_lt_of_le (show k+1<=j by omega) with f|f
  .subst f;omega
  .have:=List.pairwise_iff_getElem.1 h (k+1) j qO a f;omega
theorem KO {l:List Sp} {p:List Int} (h:FR l p) (a:∀s∈l,EL s):nx p 0=0:=by
 have b:(0:Int)∈p:=(h.2 0).2 (.inl O);cases p with
 | nil=>cases b
 | cons x r=>
  unfold nx;simp;rcases List.mem_cons.1 b with c|c
  .omega
  .have h2:=(List.pairwise_cons.1 h.1).1 0 c;have h3:=EC h a (k:=x) List.mem_cons_self;omega
theorem CInv.same {l:List Sp} {p:List Int} {f:Int->Bool} (h:FR l p) (b:∀s∈l,EL s) (e:R7 f p) {k:Nat} {lo r:Int} (a:p[k]?=some lo) (d:lo<=r) (c:r<nx p (k+1)):f r=f lo:=by
 have hb:nx p (k+1)<=1114112:=by
  unfold nx;cases hy:p[k+1]? with
  | none=>simp
  | some y=>have:=EC h b (List.mem_of_getElem? hy);simp;omega
 exact e lo r (List.mem_of_getElem? a) d qO (NH h.1 a c)
theorem Tk {p:List Int} {k:Nat} {x:Int} (h:p[k]?=some x):nx p k=x:=by unfold nx;rw[h];rfl
theorem Pj {l:List Sp} {p:List Int} (d:∀s∈l,s.1∈p) (e:∀s∈l,s.2<1114111->s.2+1∈p):R7 (Cq l) p:=by
 intro a r ha har hr b;rw[Bool.eq_iff_iff,F0,F0];have c:∀s∈l,(s.1<=r∧r<=s.2)↔(s.1<=a∧a<=s.2):=λs hs=>by
  have q1:=b s.1 (d s hs);by_cases f:s.2<1114111
  .have q2:=b (s.2+1) (e s hs f);omega
  .omega
 constructor
 .rintro ⟨s,hs,h⟩;exact ⟨s,hs,(c s hs).1 h⟩
 .rintro ⟨s,hs,h⟩;exact ⟨s,hs,(c s hs).2 h⟩
theorem PU {a:List (List Sp)} {p:List Int} (h:FR a.flatten p) {l:List Sp} (b:l∈a):R7 (Cq l) p:=
 Pj (λs hs=>(h.2 _).2 (.inr ⟨s,List.mem_flatten.2 ⟨l,b,hs⟩,.inl O⟩)) (λs hs c=>(h.2 _).2 (.inr ⟨s,List.mem_flatten.2 ⟨l,b,hs⟩,.inr ⟨c,O⟩⟩))
theorem Q_:∀{p:List Int} {lo hi:Int},p.Pairwise (· < ·)->(∀q∈p,lo<=q∧q<=hi)->lo<=hi+1->((p.length:Nat):Int)<=hi - lo+1
 | [],_,_,_,_,h=>by simp;omega
 | x::r,lo,hi,hp,hb,h=>by
  have h1:=hb x List.mem_cons_self;have h2:=Q_ (lo:=x+1) (hi:=hi) (List.pairwise_cons.1 hp).2 (λq a=>⟨by have:=(List.pairwise_cons.1 hp).1 q a;omega,(hb q (List.mem_cons_of_mem _ a)).2⟩) qO;simp only[List.length_cons];omega
theorem Sc {p:List Int} (b:p.Pairwise (· < ·)) (a:∀q∈p,0<=q∧q<=1114111):p.length<=1114112:=by
 have:=Q_ (lo:=0) (hi:=1114111) b a qO;omega
end Go.Proofs
namespace Go.Proofs
open Go Go.Eng Go.Sort
set_option maxRecDepth 100000
def QI (r:Int):Bool:=decide ((65<=r∧r<=90)∨(192<=r∧r<=222∧r≠215)∨(913<=r∧r<=939∧r≠930))
def UH (r:Int):List Int:=
 if r=181∨r=924∨r=956 then [181,924,956] else if r=931∨r=962∨r=963 then [931,962,963] else if QI r=true then [r,r+32] else if QI (r - 32)=true then [r - 32,r] else [r]
def Vu (l:List Int):List Sp:=l.map λx=>(x,x)
def clo (l:List Sp) (n:Nat):List Sp:=(List.range n).flatMap λr=>if Cq l ((r:Nat):Int) then Vu (UH ((r:Nat):Int)) else []
end Go.Proofs
namespace Go.Proofs
open Go Go.Eng Go.Sort
set_option maxRecDepth 100000
theorem P4 {a b c d:Int} (f:0<=a) (i:a<=b) (j:b+2<=c) (h:c<=d) (g:d<=1114111):Canon [(a,b),(c,d)]:=
 Canon.cons ⟨f,i,by show b<=1114111;omega⟩ (λt e=>by rw[List.mem_singleton] at e;subst e;exact j) (Canon.one ⟨by show 0<=c;omega,h,g⟩)
end Go.Proofs
namespace Go.Proofs
open Go Go.Eng Go.Sort
set_option maxRecDepth 100000
theorem KV:∀{p q:List Int},p.Pairwise (· < ·)->q.Pairwise (· < ·)->(∀x,x∈p↔x∈q)->p=q
 | [],[],_,_,_=>rfl
 | [],y::q,_,_,h=>absurd ((h y).2 List.mem_cons_self) List.not_mem_nil
 | x::p,[],_,_,h=>absurd ((h x).1 List.mem_cons_self) List.not_mem_nil
 | x::p,y::q,hp,hq,h=>by
  have d:=List.pairwise_cons.1 hp;have c:=List.pairwise_cons.1 hq;have e:x=y:=by
   rcases List.mem_cons.1 ((h x).1 List.mem_cons_self) with a|a
   .exact a
   .rcases List.mem_cons.1 ((h y).2 List.mem_cons_self) with f|f
    .exact f.symm
    .have:=d.1 y f;have:=c.1 x a;omega
  subst e;rw[KV d.2 c.2 λz=>?_];constructor
  .intro b;rcases List.mem_cons.1 ((h z).1 (List.mem_cons_of_mem _ b)) with a|a
   .subst a;have:=d.1 z b;omega
   .exact a
  .intro b;rcases List.mem_cons.1 ((h z).2 (List.mem_cons_of_mem _ b)) with a|a
   .subst a;have:=c.1 z b;omega
   .exact a
end Go.Proofs
namespace Go.Proofs
open Go Go.Eng Go.Sort
def BQ (ll:List (List Sp)) (r:Int):List Bool:=ll.map λl=>Cq l r
def Hh (acc:List (List Bool)) (m:List Bool):List (List Bool):=if m∈acc then acc else acc++[m]
def DX (l:List (List Bool)):List (List Bool):=l.foldl Hh []
theorem IN (l:List (List Bool)) (m:List Bool):DX (l++[m])=Hh (DX l) m:=by simp[DX,List.foldl_append]
theorem R2 {acc:List (List Bool)} {m x:List Bool}:x∈Hh acc m↔x∈acc∨x=m:=by
 unfold Hh;split
 .constructor
  .exact .inl
  .rintro (h|rfl)<;>assumption
 .simp
theorem OE {acc:List (List Bool)} {m:List Bool} (h:acc.Nodup):(Hh acc m).Nodup:=by
 unfold Hh;split
 .exact h
 .rename_i f
  rw[List.nodup_append];exact ⟨h,qP,λa d b c=>by rw[List.mem_singleton] at c;subst c;exact λe=>f (e▸d)⟩
theorem FV {a:List (List Sp)} {p:List Int} (d:FR a.flatten p) (b:∀s∈a.flatten,EL s) {i:Nat} {lo r:Int} (c:p[i]?=some lo) (g:lo<=r) (e:r<nx p (i+1)):BQ a r=BQ a lo:=by
 unfold BQ;apply List.map_congr_left;intro l f;exact CInv.same d b (PU d f) c g e
structure GInv (ll:List (List Sp)) (p:List Int) (i:Nat) (ks:List (List Bool)) (outs:List (List Sp)):Prop where
 keys:ks=DX ((p.take i).map (BQ ll))
 nd:ks.Nodup
 len:outs.length=ks.length
 cnt:ks.length<=i
 ok:∀(k:Nat) o,outs[k]?=some o->(∀s∈o,EL s)∧o.length<=i
 cov:∀r,0<=r->r<nx p i->BQ ll r∈ks
 mem:∀(k:Nat) key o r,ks[k]?=some key->outs[k]?=some o->0<=r->r<=1114111->Cq o r=(decide (r<nx p i) && decide (BQ ll r=key))
theorem GInv.start {a:List (List Sp)} {p:List Int} (d:FR a.flatten p) (b:∀s∈a.flatten,EL s):GInv a p 0 [] [] where
 keys:=rfl
 nd:=List.nodup_nil
 len:=rfl
 cnt:=Nat.le_refl _
 ok:=λk o h=>by simp at h
 cov:=λr h0 c=>by rw[KO d b] at c;omega
 mem:=λk key o r h=>by simp at h
theorem Pm {l:List (List Bool)} (h:l.Nodup) {i j:Nat} {x:List Bool} (hi:l[i]?=some x) (d:l[j]?=some x):i=j:=by
 have c:=AG hi;have b:=AG d;rw[List.getElem?_eq_getElem c] at hi;rw[List.getElem?_eq_getElem b] at d;have e:=(Option.some.inj hi).trans (Option.some.inj d).symm;rcases Nat.lt_trichotomy i j with a|a|a
 .exact absurd e (List.pairwise_iff_getElem.1 h i j c b a)
 .exact a
 .exact absurd e.symm (List.pairwise_iff_getElem.1 h j i b c a)
theorem RI (o:List Sp) (x:Sp) (r:Int):Cq (o++[x]) r=(Cq o r || (decide (x.1<=r) && decide (r<=x.2))):=by
 induction o with
 | nil=>simp[Cv,Fy]
 | cons y o ih=>simp only[List.cons_append,Cv,ih,Bool.or_assoc]
theorem GInv.step {t:List (List Sp)} {p:List Int} {i k:Nat} {D n:List (List Bool)} {A b:List (List Sp)} {o:List Sp} {lo:Int} (h:GInv t p i D A) (G:FR t.flatten p) (u:∀s∈t.flatten,EL s) (g:p[i]?=some lo)
 (F:n=Hh D (BQ t lo)) (P:b.length=n.length) (c:∀(j:Nat) q,b[j]?=some q->A[j]?=some q∨(j=D.length∧q=[]∧BQ t lo∉D)) (E:n[k]?=some (BQ t lo)) (T:b[k]?=some o) :
 GInv t p (i+1) n (b.set k (o++[(lo,nx p (i+1) - 1)])):=by
 have hrng:=EC G u (List.mem_of_getElem? g);have H:∀q∈p,q<=1114111:=λq m=>(EC G u m).2;have hnx:=Sl G.1 g H;have l:nx p i=lo:=by unfold nx;rw[g];rfl
 have hnx1:nx p (i+1)<=1114112:=by
  unfold nx;cases m:p[i+1]? with
  | none=>simp
  | some y=>have:=H y (List.mem_of_getElem? m);simp;omega
 have hkl:=AG T;have J:n.Nodup:=by rw[F];exact OE h.nd
 have L:EL (lo,nx p (i+1) - 1):=by unfold EL;simp;omega
 have B:∀(j:Nat) d,n[j]?=some d->j<D.length->D[j]?=some d:=by
  intro j d v a;rw[F] at v;unfold Hh at v;split at v
  .exact v
  .rwa [List.getElem?_append_left a] at v
 refine ⟨?_,J,by simp[P],by rw[F];unfold Hh;have:=h.cnt;split;omega;simp;omega,?_,?_,?_⟩
 .rw[F,Ec g,List.map_append,List.map_cons,List.map_nil,IN,<-h.keys]
 .intro j q m;rw[List.getElem?_set] at m;split at m
  .rename_i w
   have C:=Option.some.inj m;subst C;rcases c k o T with a|⟨_,a,_⟩
   .have K:=h.ok k o a;exact ⟨λs hs=>by rcases List.mem_append.1 hs with f|f;exact K.1 s f;rw[List.mem_singleton] at f;subst f;exact L,by simp;omega⟩
   .subst a;exact ⟨λs hs=>by simp at hs;subst hs;exact L,qP⟩
  .rcases c j q m with a|⟨_,a,_⟩
   .exact ⟨(h.ok j q a).1,by have:=(h.ok j q a).2;omega⟩
   .subst a;exact ⟨λs hs=>absurd hs List.not_mem_nil,qP⟩
 .intro r N v;rw[F,R2];rcases LJ r lo with a|a
  .exact .inl (h.cov r N (by rw[l];exact a))
  .exact .inr (FV G u g a v)
 .intro j d q r x m N v;rw[List.getElem?_set] at m;split at m
  .rename_i w
   have C:=Option.some.inj m;subst C;subst w;rw[E] at x;have I:=Option.some.inj x;subst I;rw[RI];have R:Cq o r=(decide (r<lo) && decide (BQ t r=BQ t lo)):=by
    rcases c k o T with a|⟨_,a,K⟩
    .have:=h.mem k _ o r (B k _ E (by have:=AG a;have:=h.len;omega)) a N v;rw[l] at this;exact this
    .subst a;symm;rw[Fy,Bool.and_eq_false_iff];rcases LJ r lo with f|f
     .right;rw[decide_eq_false_iff_not];intro z;exact K (z▸h.cov r N (by rw[l];exact f))
     .left;rw[decide_eq_false_iff_not];omega
   rw[R];rcases LJ r lo with f|f
   .have Q:decide (r<lo)=true:=decide_eq_true f;have U:decide (lo<=r)=false:=decide_eq_false qO;have V:decide (r<nx p (i+1))=true:=decide_eq_true qO;simp only[Q,U,V,Bool.true_and,Bool.false_and,Bool.or_false]
   .have Q:decide (r<lo)=false:=decide_eq_false qO;have U:decide (lo<=r)=true:=decide_eq_true f;simp only[Q,U,Bool.true_and,Bool.false_and,Bool.false_or];rcases LJ r (nx p (i+1)) with z|z
    .rw[decide_eq_true z,decide_eq_true (FV G u g f z)];simp;omega
    .rw[decide_eq_false (show ¬r<nx p (i+1) by omega)];simp;omega
  .rename_i w
   have M:d≠BQ t lo:=λe=>by subst e;exact w (Pm J E x)
   rcases c j q m with a|⟨a,_,K⟩
   .have S:j<D.length:=by have:=AG a;have:=h.len;omega
    have:=h.mem j d q r (B j d x S) a N v;rw[this,l];rcases LJ r lo with f|f
    .rw[decide_eq_true f,decide_eq_true (show r<nx p (i+1) by omega)]
    .rw[decide_eq_false (show ¬r<lo by omega)];rcases LJ r (nx p (i+1)) with z|z
     .rw[FV G u g f z,decide_eq_false (show ¬BQ t lo=d from λe=>M e.symm)];simp
     .rw[decide_eq_false (show ¬r<nx p (i+1) by omega)]
   .exfalso;subst a;rw[F] at x;unfold Hh at x;rw[if_neg K,List.getElem?_append_right (Nat.le_refl _)] at x;simp at x;exact M x.symm
def IB:List (List Sp)->Int
  | []=>0
  | l::ll=>if BT l≠0 then BT l else IB ll
def Me (ll:List (List Sp)) (cs:List (List Sp)):Prop:=∃p,FR ll.flatten p∧cs.length=(DX (p.map (BQ ll))).length∧∀(k:Nat) key c,(DX (p.map (BQ ll)))[k]?=some key->cs[k]?=some c->GG c (λr=>decide (BQ ll r=key))
def LL (cs:List (List Sp)):Prop:=(∃c∈cs,16<c.length)∨16<cs.length
def N0 (ll out:List (List Sp)) (e:Int):Prop:=(IB ll≠0∧e=IB ll∧out=[])∨(IB ll=0∧∃cs,Me ll cs∧((LL cs∧e=2∧out=[])∨(¬LL cs∧e=0∧out=cs)))
theorem GInv.done {e:List (List Sp)} {p:List Int} {s:List (List Bool)} {a cs:List (List Sp)} (h:GInv e p p.length s a) (t:FR e.flatten p) (u:cs.length=a.length) (v:∀(k:Nat) o c,a[k]?=some o->cs[k]?=some c->FE o c):Me e cs:=by
 have b:=h.keys;rw[List.take_length] at b;refine ⟨p,t,by rw[<-b,u,h.len],λk d c j n=>?_⟩;rw[<-b] at j;obtain ⟨o,f⟩:=AK (l:=a) (i:=k) (by have:=AG n;omega);have q:=GG.join (v k o c f n) (h.ok k o f).1;refine ⟨q.1.1,λr g m=>?_⟩;rw[q.1.2 r g m,h.mem k d o r j f g m];have:r<nx p p.length:=by unfold nx;rw[List.getElem?_eq_none (Nat.le_refl _)];simp;omega
 rw[decide_eq_true this];simp
end Go.Proofs
namespace Go.Proofs
open Go Go.Eng Go.Sort
abbrev PA:Nat:=37
structure CSt (w:World) (base:Nat) (vo:Value) (vs:List Value) (outs:List (List Sp)):Prop where
 o:w.ownsRow base PA 1 vo outs.length vs
 len:vs.length=outs.length
 inn:∀(i:Nat) v l,vs[i]?=some v->outs[i]?=some l->w.ownsRow base Ll 2 v l.length (l.map CD).flatten
 ap:∀(i j:Nat) v u b,vs[i]?=some v->vs[j]?=some u->v.ownBlock=some b->u.ownBlock=some b->i=j
 apo:∀(i:Nat) v b,vs[i]?=some v->v.ownBlock=some b->vo.ownBlock≠some b
theorem CSt.start (w:World) (base:Nat):CSt w base (.slice none 0 0) [] []:=
 ⟨World.ownsRow_nil _ _ _ _,O,λi v l h=>by simp at h,λi j v u b h=>by simp at h,λi v b h=>by simp at h⟩
theorem CSt.some {w:World} {base:Nat} {c:Value} {vs:List Value} {a:List (List Sp)} (h:CSt w base c vs a) {i:Nat} {v:Value} (b:vs[i]?=some v):∃l,a[i]?=some l:=
 AK (by have:=AG b;have:=h.len;omega)
theorem CSt.chg {M:Nat->Prop} {w w':World} {base:Nat} {j:Value} {vs:List Value} {a:List (List Sp)} (h:CSt w base j vs a) (c:Chg M w w') (g:∀b,base<=b->b<w.heap.size->¬M b):CSt w' base j vs a:=
 ⟨Av h.o c λk d=>g k (h.o.lt k d).1 (h.o.lt k d).2,h.len,λi v l e f=>Av (h.inn i v l e f) c λk d=>g k ((h.inn i v l e f).lt k d).1 ((h.inn i v l e f).lt k d).2,h.ap,h.apo⟩
theorem CSt.ext {w w':World} {base:Nat} {b:Value} {vs:List Value} {a:List (List Sp)} (h:CSt w base b vs a) (c:Al w w'):CSt w' base b vs a:=h.chg c λ_ _ _ f=>f
theorem CSt.push {w w':World} {base:Nat} {o v':Value} {vs:List Value} {e:List (List Sp)} (h:CSt w base o vs e) (s:w'.ownsRow base PA 1 v' (e.length+1) (vs++[.slice none 0 0])) (q:Chg (λx=>o.ownBlock=.some x) w w')
 (t:∀k,v'.ownBlock=.some k->o.ownBlock=.some k∨w.heap.size<=k):CSt w' base v' (vs++[.slice none 0 0]) (e++[[]]):=by
 have c:∀(i:Nat) v,(vs++[.slice none 0 0])[i]?=.some v->vs[i]?=.some v∨(i=vs.length∧v=.slice none 0 0):=by
  intro i v d;rcases Nat.lt_or_ge i vs.length with a|a
  .left;rwa [List.getElem?_append_left a] at d
  .right;rw[List.getElem?_append_right a] at d;have n:=AG d;simp at n;obtain rfl:i=vs.length:=qO
   simp at d;exact ⟨O,d.symm⟩
 refine ⟨by simpa using s,by simp[h.len],?_,?_,?_⟩
 .intro i v l d g;rcases c i v d with a|⟨a,rfl⟩
  .rw[List.getElem?_append_left (by have:=AG a;have:=h.len;omega)] at g;exact Av (h.inn i v l a g) q λk r=>h.apo i v k a r
  .rw[a,h.len] at g;simp at g;subst g;exact World.ownsRow_nil _ _ _ _
 .intro i j v u b d p m f;rcases c i v d with a|⟨_,rfl⟩
  .rcases c j u p with n|⟨_,rfl⟩
   .exact h.ap i j v u b a n m f
   .cases f
  .cases m
 .intro i v b d m f;rcases c i v d with a|⟨_,rfl⟩
  .rcases t b f with n|n
   .exact h.apo i v b a m n
   .obtain ⟨l,g⟩:=h.some a;have:=((h.inn i v l a g).lt b m).2;omega
  .cases m
theorem CSt.grow {w w' L:World} {base g cap k n:Nat} {v v':Value} {vs:List Value} {a:List (List Sp)} {l:List Sp} {x:Sp} {A:Array Value} (h:CSt w base (.slice (.some ⟨g,0,none⟩) n cap) vs a) (M:n=a.length) (H:vs[k]?=.some v) (hl:a[k]?=.some l)
 (P:w'.ownsRow base Ll 2 v' (l.length+1) ((l++[x]).map CD).flatten) (I:Chg (λx=>v.ownBlock=.some x) w w') (K:∀k,v'.ownBlock=.some k->v.ownBlock=.some k∨w.heap.size<=k)
 (N:Az w' g A PA) (F:Put w' L g (A.setIfInBounds k v') PA):CSt L base (.slice (.some ⟨g,0,none⟩) n cap) (vs.set k v') (a.set k (l++[x])):=by
 have hkl:=AG H;have C:v.ownBlock≠.some g:=λe=>h.apo k v g H e O;have hgl:=(h.o.lt g O).2;have t:v'.ownBlock≠.some g:=λe=>by rcases K g e with m|m;exact C m;omega
 have B:w'.ownsRow base PA 1 (.slice (.some ⟨g,0,none⟩) n cap) a.length vs:=Av h.o I λq r=>by cases r;exact C
 rw[<-M] at B;have G:=Hs B N (i:=k) (by have:=h.len;omega) F.blk;have f:∀(i:Nat) u,(vs.set k v')[i]?=.some u->(i=k∧u=v')∨(i≠k∧vs[i]?=.some u):=by
  intro i u d;rw[List.getElem?_set] at d;split at d
  .rename_i E
   exact .inl ⟨E.symm,(Option.some.inj d).symm⟩
  .rename_i E
   exact .inr ⟨λe=>E e.symm,d⟩
 have s:∀(i:Nat) u b,i≠k->vs[i]?=.some u->u.ownBlock=.some b->v.ownBlock≠.some b∧v'.ownBlock≠.some b∧b≠g:=by
  intro i u b hi d c;have m:v.ownBlock≠.some b:=λe=>hi (h.ap i k u v b d H c e);refine ⟨m,λe=>?_,λe=>h.apo i u b d c (by rw[e];rfl)⟩;rcases K b e with p|p
  .exact m p
  .obtain ⟨q,r⟩:=h.some d;have:=((h.inn i u q d r).lt b c).2;omega
 refine ⟨by rw[List.length_set,<-M];exact G,by simp[h.len],?_,?_,?_⟩
 .intro i u q d r;rcases f i u d with ⟨rfl,rfl⟩|⟨m,p⟩
  .rw[List.getElem?_set] at r;rw[if_pos O,if_pos (by have:=h.len;omega)] at r;have D:=Option.some.inj r;subst D;rw[List.length_append];exact Av P F.chg λb c e=>t (e▸c)
  .rw[List.getElem?_set,if_neg (λe=>m e.symm)] at r;exact Av (Av (h.inn i u q p r) I λb c=>(s i u b m p c).1) F.chg λb c e=>(s i u b m p c).2.2 e
 .intro i j u z b d R c y;rcases f i u d with ⟨rfl,rfl⟩|⟨m,p⟩<;>rcases f j z R with ⟨rfl,rfl⟩|⟨Q,J⟩
  .rfl
  .exact absurd c (s j z b Q J y).2.1
  .exact absurd y (s i u b m p c).2.1
  .exact h.ap i j u z b p J c y
 .intro i u b d c;rcases f i u d with ⟨rfl,rfl⟩|⟨m,p⟩
  .intro e;cases e;exact t c
  .exact h.apo i u b p c
def LY (b:Bool):Int:=if b then 1 else 0
def F7 (m:List Bool):ByteArray:=strOfNums (m.map LY)
theorem RY {m m':List Bool} (h:F7 m=F7 m'):m=m':=by
 have b:=congrArg (λs=>s.data.toList) h;simp only[F7,strOfNums_data,List.map_map] at b;exact (List.map_inj_right (λx y a=>by cases x<;>cases y<;>first|rfl|(simp[LY] at a;done)|(exact absurd a qD))).1 b
def Dp:List (List Bool)->Nat->List (ByteArray×Int)
  | [],_=>[]
  | m::ks,n=>(F7 m,((n:Nat):Int))::Dp ks (n+1)
theorem JJ:∀(a:List (List Bool)) (m:List Bool) (n:Nat),Dp (a++[m]) n=Dp a n++[(F7 m,(((n+a.length:Nat):Nat):Int))]
 | [],m,n=>rfl
 | x::a,m,n=>by
  show (F7 x,_)::Dp (a++[m]) (n+1)=(F7 x,_)::(Dp a (n+1)++_);rw[JJ a m (n+1),List.length_cons,show n+1+a.length=n+(a.length+1) by omega]
theorem KW:∀{a:List (List Bool)} {n:Nat} {q:ByteArray×Int},q∈Dp a n->∃(j:Nat) (m:List Bool),a[j]?=some m∧q=(F7 m,(((n+j:Nat):Nat):Int))
 | [],_,_,h=>by cases h
 | x::a,n,q,h=>by
  rcases List.mem_cons.1 h with h|h
  .exact ⟨0,x,O,h⟩
  .obtain ⟨j,m,b,c⟩:=KW h;exact ⟨j+1,m,b,by rw[c];congr 2;omega⟩
theorem KX:∀{a:List (List Bool)} {n:Nat} {m:List Bool},m∈a->F7 m∈(Dp a n).map (·.1)
 | x::a,n,m,h=>by
  rcases List.mem_cons.1 h with rfl|h
  .exact List.mem_cons_self
  .exact List.mem_cons_of_mem _ (KX (n:=n+1) h)
theorem Pe {b:List (List Bool)} {m:List Bool} {v:Int} (h:A3 (Dp b 0) (F7 m)=some v):∃j:Nat,v=((j:Nat):Int)∧b[j]?=some m:=by
 obtain ⟨j,m',c,a⟩:=KW (EI h);simp only[Prod.mk.injEq,Nat.zero_add] at a;obtain rfl:=RY a.1;exact ⟨j,a.2,c⟩
theorem NN {a:List (List Bool)} {m:List Bool} (h:A3 (Dp a 0) (F7 m)=none):m∉a∧D8 (Dp a 0) (F7 m) ((a.length:Nat):Int)=Dp (a++[m]) 0:=by
 refine ⟨λb=>?_,?_⟩
 .have:=Cm.2 (KX (n:=0) b);rw[h] at this;cases this
 .rw[Dm _ h,JJ,Nat.zero_add]
end Go.Proofs
namespace Go.Proofs
open Go Go.Eng Go.Sort
def IY (l:List Sp):List Int:=0::l.flatMap λs=>[s.1,s.2+1]
theorem I2 {l:List Sp} {k:Int}:k∈IY l↔k=0∨∃s∈l,k=s.1∨k=s.2+1:=by
 unfold IY;simp[List.mem_flatMap]
theorem I3 (l:List Sp):(IY l).length=1+2*l.length:=by
 unfold IY;rw[List.length_cons];have:(l.flatMap λs=>[s.1,s.2+1]).length=2*l.length:=by
  induction l with
  | nil=>rfl
  | cons x l ih=>rw[List.flatMap_cons,List.length_append,ih];simp;omega
 omega
theorem Rf {l:List Sp} {q:List Int} (f:∀s∈l,EL s) (i:q.Pairwise (· < ·)) (c:∀x,x∈q↔x∈IY l):∃p,FR l p∧(q=p∨q=p++[1114112]):=by
 have o:∀x∈q,0<=x∧x<=1114112:=λx j=>by
  rcases I2.1 ((c x).1 j) with a|⟨s,hs,a⟩
  .omega
  .have:=f s hs;unfold EL at this;omega
 have e:∀k,k<=1114111->(k∈IY l↔Ju l k):=λk n=>by
  rw[I2];unfold Ju;constructor
  .rintro (a|⟨s,hs,a|a⟩)
   .exact .inl a
   .exact .inr ⟨s,hs,.inl a⟩
   .exact .inr ⟨s,hs,.inr ⟨qO,a⟩⟩
  .rintro (a|⟨s,hs,a|a⟩)
   .exact .inl a
   .exact .inr ⟨s,hs,.inl a⟩
   .exact .inr ⟨s,hs,.inr a.2⟩
 have b:∀k,Ju l k->k<=1114111:=λk n=>by
  rcases n with a|⟨s,hs,a⟩
  .omega
  .have:=f s hs;unfold EL at this;omega
 rcases List.eq_nil_or_concat q with rfl|⟨m,x,rfl⟩
 .exact ⟨[],⟨i,λk=>⟨λh=>(e k (by cases h)).1 ((c k).1 h),λh=>(c k).2 ((e k (b k h)).2 h)⟩⟩,.inl O⟩
 .rw[List.concat_eq_append] at *;have g:∀y∈m,y<x:=λy t=>(List.pairwise_append.1 i).2.2 y t x qP;have hxb:=o x qP;by_cases j:x=1114112
  .subst j;refine ⟨m,⟨(List.pairwise_append.1 i).1,λk=>⟨λh=>?_,λh=>?_⟩⟩,.inr O⟩
   .have:=g k h;exact (e k qO).1 ((c k).1 (by simp[h]))
   .have a:=b k h;have r:=(c k).2 ((e k a).2 h);rcases List.mem_append.1 r with d|d
    .exact d
    .rw[List.mem_singleton] at d;omega
  .refine ⟨m++[x],⟨i,λk=>⟨λh=>?_,λh=>(c k).2 ((e k (b k h)).2 h)⟩⟩,.inl O⟩;have:k<=1114111:=by
    rcases List.mem_append.1 h with d|d
    .have:=g k d;omega
    .rw[List.mem_singleton] at d;omega
   exact (e k this).1 ((c k).1 h)
end Go.Proofs
namespace Go.Proofs
open Go Go.Eng Go.Sort
def Tc (vo:Value) (w:World) (u:Value) (l:List Sp):Prop:=(∃a c,u=.slice a l.length c)∧CS (λb=>vo.ownBlock≠some b) w 2 u (l.map CD)
theorem Oc {w:World} {base:Nat} {f v:Value} {l:List Sp} (h:w.ownsRow base Ll 2 v l.length (l.map CD).flatten) (j:∀b,v.ownBlock=some b->f.ownBlock≠some b):Tc f w v l:=by
 obtain ⟨a,c,rfl⟩:=BD h;refine ⟨⟨a,c,O⟩,?_⟩;rcases Nat.eq_zero_or_pos l.length with e|e
 .have:=List.eq_nil_of_length_eq_zero e;subst this;exact CS.nil _ _ _ _ _
 .have i:Jv w base (.slice a l.length c) l:=⟨⟨a,c,O⟩,h⟩;have d:=i.at;obtain ⟨g,rfl,_,_⟩:=BS h e;exact CS.mk d (j g O)
structure JSt (w:World) (base:Nat) (vo:Value) (us:List Value) (outs cs:List (List Sp)) (k:Nat):Prop where
 o:w.ownsRow base PA 1 vo outs.length us
 len:us.length=outs.length
 cl:cs.length=k
 don:∀(i:Nat) u c,i<k->us[i]?=some u->cs[i]?=some c->Tc vo w u c
 rst:∀(i:Nat) u l,k<=i->us[i]?=some u->outs[i]?=some l->Tc vo w u l
 jn:∀(i:Nat) q c,outs[i]?=some q->cs[i]?=some c->FE q c
theorem CSt.join {w:World} {base:Nat} {e:Value} {vs:List Value} {a:List (List Sp)} (h:CSt w base e vs a):JSt w base e vs a [] 0:=
 ⟨h.o,h.len,O,λi u c hi=>absurd hi (Nat.not_lt_zero _),λi u l _ d j=>Oc (h.inn i u l d j) λb f=>h.apo i u b d f,λi q c _ g=>by simp at g⟩
theorem Tc.ext {a u:Value} {w w':World} {l:List Sp} (h:Tc a w u l) (e:Al w w'):Tc a w' u l:=⟨h.1,h.2.chg e λ_ _ f=>f⟩
theorem JSt.ext {w w':World} {base k:Nat} {d:Value} {us:List Value} {a cs:List (List Sp)} (h:JSt w base d us a cs k) (e:Al w w'):JSt w' base d us a cs k:=
 ⟨Am h.o e,h.len,h.cl,λi u c hi b f=>(h.don i u c hi b f).ext e,λi u l hi b g=>(h.rst i u l hi b g).ext e,h.jn⟩
theorem JSt.step {w y:World} {base n1 g cap k n:Nat} {p:Value} {us:List Value} {a cs:List (List Sp)} {q c':List Sp} {t:Array Value} (h:JSt w base (.slice (some ⟨g,0,none⟩) n cap) us a cs k) (G:n=a.length) (F:a[k]?=some q)
 (D:Jv w n1 p c') (hn1:g<n1) (L:FE q c') (I:Az w g t PA) (E:Put w y g (t.setIfInBounds k p) PA):JSt y base (.slice (some ⟨g,0,none⟩) n cap) (us.set k p) a (cs++[c']) (k+1):=by
 have hkl:=AG F;have z:Tc (.slice (some ⟨g,0,none⟩) n cap) w p c':=Oc D.2 λb A e=>by cases e;have:=(D.2.lt g A).1;omega
 have f:∀u l,Tc (.slice (some ⟨g,0,none⟩) n cap) w u l->Tc (.slice (some ⟨g,0,none⟩) n cap) y u l:=λu l s=>⟨s.1,s.2.chg E.chg λb A e=>A (by rw[e];rfl)⟩;have H:=h.o;rw[<-G] at H;have B:=Hs H I (i:=k) qO E.blk;have m:∀(i:Nat) u,(us.set k p)[i]?=some u->(i=k∧u=p)∨(i≠k∧us[i]?=some u):=by
  intro i u j;rw[List.getElem?_set] at j;split at j
  .rename_i x
   split at j
   .exact .inl ⟨x.symm,(Option.some.inj j).symm⟩
   .cases j
  .rename_i x
   exact .inr ⟨λe=>x e.symm,j⟩
 refine ⟨by rw[<-G];exact B,by simp[h.len],by simp[h.cl],?_,?_,?_⟩
 .intro i u c hi j d;rcases m i u j with ⟨rfl,rfl⟩|⟨s,v⟩
  .rw[List.getElem?_append_right (by have:=h.cl;omega),h.cl,Nat.sub_self] at d;simp at d;subst d;exact f _ _ z
  .rw[List.getElem?_append_left (by have:=h.cl;omega)] at d;exact f _ _ (h.don i u c qO v d)
 .intro i u l hi j K;rcases m i u j with ⟨rfl,rfl⟩|⟨s,v⟩
  .omega
  .exact f _ _ (h.rst i u l qO v K)
 .intro i r c C d;rcases Nat.lt_or_ge i k with s|s
  .rw[List.getElem?_append_left (by have:=h.cl;omega)] at d;exact h.jn i r c C d
  .rw[List.getElem?_append_right (by have:=h.cl;omega)] at d;have v:=AG d;simp at v;have J:=h.cl;obtain rfl:i=k:=qO
   rw[J,Nat.sub_self] at d;simp at d;subst d;rw[F] at C;cases C;exact L
theorem JSt.done {w:World} {base k:Nat} {d:Value} {us:List Value} {a cs:List (List Sp)} (h:JSt w base d us a cs k) (g:k=a.length):Ck w d cs:=by
 refine ⟨us,?_,by rw[h.len,h.cl,g],λi u l f c=>(h.don i u l (by have:=AG c;have:=h.cl;omega) f c).2.at⟩;have e:=h.o;rw[show us=(us.map λx=>[x]).flatten by simp[List.flatten_eq_flatMap,List.flatMap_map]] at e;exact EO e (by intro r b;simp only[List.mem_map] at b;obtain ⟨x,_,rfl⟩:=b;rfl) (by simp[h.len]) qD
theorem Sx (o:List Sp):∃c,FE o c:=by
 let le:Sp->Sp->Bool:=λs t=>decide (s.1<=t.1)
 refine ⟨_,o.mergeSort le,List.mergeSort_perm o le,?_,O⟩;have:=List.pairwise_mergeSort (le:=le) (λa b c h1 h2=>by simp[le] at *;omega) (λa b=>by simp[le];omega) o;exact this.imp λh=>by simpa[le] using h
theorem MR:∀a:List (List Sp),∃cs:List (List Sp),cs.length=a.length∧∀(k:Nat) o c,a[k]?=some o->cs[k]?=some c->FE o c
 | []=>⟨[],O,λk o c h=>by simp at h⟩
 | o::a=>by
  obtain ⟨c,g⟩:=Sx o;obtain ⟨cs,e,f⟩:=MR a;refine ⟨c::cs,by simp[e],λk q r b d=>?_⟩;cases k with
  | zero=>simp at b d;subst b;subst d;exact g
  | succ k=>exact f k q r (by simpa using b) (by simpa using d)
theorem Ks {b:List (List Sp)} {p:List Int} {j:List (List Bool)} {a:List (List Sp)} {o c:List Sp} {k:Nat} (h:GInv b p p.length j a) (m:FR b.flatten p) (e:a[k]?=some o) (r:FE o c) (n:16<c.length):∃cs,Me b cs∧LL cs:=by
 obtain ⟨cs,q,g⟩:=MR a;refine ⟨cs,h.done m q g,.inl ?_⟩;obtain ⟨d,hd⟩:=AK (l:=cs) (i:=k) (by have:=AG e;omega);refine ⟨d,List.mem_of_getElem? hd,?_⟩;have f:=(h.ok k o e).1;rw[GG.eq (GG.join (g k o d e hd) f).1 (GG.join r f).1 λ_ _ _=>rfl];exact n
end Go.Proofs
namespace Go.Proofs
open Go Go.Eng Go.Sort
def RG (ll:List (List Sp)):Prop:=∀r,0<=r->r<=1114111->ll.countP (λl=>Cq l r)=1
def BM:List Sp->Int
  | []=>-1
  | s::_=>s.1
def UO (ll:List (List Sp)):Nat->Int
  | 0=>-1
  | k+1=>BM (ll.getD k [])
def Vh (ll:List (List Sp)) (k:Nat):Prop:=ll.getD k []≠[]∧UO ll k<BM (ll.getD k [])
def RM (ll:List (List Sp)):Prop:=∀k,k<ll.length->Vh ll k
open Classical in
noncomputable def partE (ll:List (List Sp)):Int:=if 16<ll.length then 2 else if IB ll≠0 then IB ll else if RM ll∧RG ll then 0 else 3
theorem Hr {c:List (List Sp)} {p:List Int} (e:FR c.flatten p) (a:∀s∈c.flatten,EL s):∀i,i<=p.length->∀r,0<=r->r<nx p i->∃k lo,p[k]?=some lo∧lo<=r∧r<nx p (k+1)∧BQ c r=BQ c lo
 | 0,_,r,h0,h1=>by rw[KO e a] at h1;omega
 | i+1,hi,r,h0,h1=>by
  obtain ⟨lo,b⟩:=AK (l:=p) (i:=i) qO;rcases LJ r lo with d|d
  .exact Hr e a i qO r h0 (by rw[Tk b];exact d)
  .exact ⟨i,lo,b,d,h1,FV e a b d h1⟩
theorem Qm {a:List (List Sp)} {p:List Int} (c:FR a.flatten p) (b:∀s∈a.flatten,EL s) {r:Int} (f:0<=r) (h1:r<=1114111):∃lo∈p,BQ a r=BQ a lo:=by
 obtain ⟨k,lo,d,_,_,e⟩:=Hr c b p.length (Nat.le_refl _) r f (by unfold nx;rw[List.getElem?_eq_none (Nat.le_refl _)];simp;omega);exact ⟨lo,List.mem_of_getElem? d,e⟩
def UN (ll:List (List Sp)):List Int:=ll.map BM
end Go.Proofs
namespace Go.Proofs
open Go Go.Eng Go.Sort
set_option maxRecDepth 100000
open Classical in
noncomputable def canC (c:Nat) (f:List Nat->Int):Dfa:=if h:∃C,Cj c f C then Classical.choose h else LR c
theorem TS {c:Nat} {f:List Nat->Int} {C:Dfa} (h:Cj c f C):canC c f=C:=by
 have a:∃C,Cj c f C:=⟨C,h⟩;unfold canC;rw[dif_pos a];exact Cj.uniq (Classical.choose_spec a) h λ_ _=>rfl
open Classical in
noncomputable def canO (c:Nat) (f:List Nat->Int):Option Dfa:=if ∃C,Cj c f C then some (canC c f) else none
theorem Il {c:Nat} {f:List Nat->Int} {C:Dfa} (h:Cj c f C):canO c f=some C:=by
 unfold canO;rw[if_pos ⟨C,h⟩,TS h]
structure GoodD (c:Nat) (d:Dfa):Prop where
 ok:OkD d.next.length c d
 most:d.next.length<=20000
 acc:∀x∈d.accept,x<2147483648
theorem Kh {c:Nat} {f:List Nat->Int} {C:Dfa} (h:Cj c f C) (b:C.next.length<=20000) (a:∀x∈C.accept,x<2147483648):GoodD c C:=⟨h.ok.1,b,a⟩
open Classical in
noncomputable def catO (c:Nat) (a b:Dfa):Option Dfa:=if Ge c (Vb a b b.next.length) (Vd a b b.next.length) 20000 then canO c (catB a b) else none
open Classical in
noncomputable def prsO (c:Nat) (both:Bool) (a b:Dfa):Option Dfa:=if Ge c (Va both a b) (a.start,b.start) 20000 then canO c (λw=>Vx both (beh a a.start w) (beh b b.start w)) else none
open Classical in
noncomputable def stO (c:Nat) (a:Dfa):Option Dfa:=if Ge c (D7 a a.next.length (CN a a.next.length)) (CN a a.next.length) 20000 then canO c (starB a) else none
def Ur (c:Nat) (S:Nat->Prop) (o:Option Dfa) (r:Value) (w:World):Prop:=∃(d:Dfa) (ea na:Option Addr) (ec nc:Nat),r=.tuple #[.agg #[.int .i64 d.start,.slice ea d.accept.length ec,.slice na d.next.length nc],.bool o.isSome]∧∀D,o=some D->D=d∧GoodD c d∧Cp S w d [.int .i64 d.start,.slice ea d.accept.length ec,.slice na d.next.length nc]
theorem Ur.mono {c:Nat} {S S':Nat->Prop} {o:Option Dfa} {r:Value} {w:World} (h:Ur c S o r w) (hs:∀b,S b->S' b):Ur c S' o r w:=by
 obtain ⟨d,f,k,j,i,g,e⟩:=h;exact ⟨d,f,k,j,i,g,λD a=>⟨(e D a).1,(e D a).2.1,(e D a).2.2.mono hs⟩⟩
open Classical in
theorem UI {c:Nat} {f:List Nat->Int} {p:Prop} {e w:World} {r:Value} (h:(p∧Tq c f e.heap.size r w)∨(¬p∧VR r)):Ur c (λb=>e.heap.size<=b∧b<w.heap.size) (if p then canO c f else none) r w:=by
 rcases h with ⟨a,C,m,o,i,q,g,n,l,rfl,j⟩|⟨a,k⟩
 .rw[if_pos a];rw[Il g];exact ⟨C,m,i,o,q,O,λD d=>⟨by rw[<-Option.some.inj d],Kh g n l,Cp.of_new j⟩⟩
 .rw[if_neg a];exact ⟨⟨0,[],[]⟩,none,none,0,0,k,λD d=>by cases d⟩
open Classical in
theorem U2 (d:World) (c:Nat) (a:Dfa) (e:List Value) (f:GoodD c a) (g:BC d a e) (i:1<=c∧c<=16) :
 CB prog 207 #[.agg e.toArray] d λr w=>Ur c (λb=>d.heap.size<=b∧b<w.heap.size) (stO c a) r w∧Al d w:=
 (SJ d _ c a e f.ok g i f.most).mono λ_ _ h=>⟨UI h.1,h.2⟩
theorem SZ {α:Type} {n:Nat} {x a:α} (h:a∈List.replicate n x):a=x:=(List.mem_replicate.1 h).2
def setRow (cs:List (List Sp)) (s:List Sp):List Int:=cs.map λl=>if Cq s (BM l)=true then 1 else -1
def FW (cs:List (List Sp)) (s:List Sp):Dfa:=⟨0,[-1,0],[setRow cs s,List.replicate cs.length (-1)]⟩
theorem MW (cs:List (List Sp)) (s:List Sp):GoodD cs.length (FW cs s):=by
 refine ⟨⟨O,O,by simp[FW],by simp[FW],?_⟩,by simp[FW],by simp[FW]⟩;intro r b;simp only[FW,List.mem_cons,List.not_mem_nil,or_false] at b;rcases b with rfl|rfl
 .refine ⟨by simp[setRow],λx a=>?_⟩;obtain ⟨l,_,rfl⟩:=List.mem_map.1 a;simp only[FW,List.length_cons,List.length_nil];split<;>omega
 .exact ⟨List.length_replicate ..,λx a=>by rw[SZ a];simp[FW]⟩
noncomputable def opK (c:Nat) (k:Int) (a b:Dfa):Option Dfa:=if k=3 then catO c a b else prsO c (decide (k=7)) a b
noncomputable def foldK (c:Nat) (k:Int):Dfa->List Dfa->Option Dfa
  | d,[]=>some d
  | d,e::es=>(opK c k d e).bind λd'=>foldK c k d' es
noncomputable def repK (c:Nat) (mn:Int) (a may:Dfa):Nat->Option Dfa
  | 0=>some (LR c)
  | k+1=>(repK c mn a may k).bind λo=>catO c o (if ((k:Nat):Int)<mn then a else may)
noncomputable def nodeO (c:Nat) (cs:List (List Sp)) (k:Int) (s:List Sp) (mn mx:Int) (L:Option (List Dfa)):Option Dfa:=
 if k=1 then some (LR c)
 else if k=2 then canO c (beh (FW cs s) 0)
 else if k=3∨k=4∨k=7 then L.bind λl=>match l with|d::ds=>foldK c k d ds|[]=>none
 else if k=5 then L.bind λl=>match l with|d::_=>stO c d|[]=>none
 else if k=6 then L.bind λl=>match l with|d::_=>(prsO c false d (LR c)).bind λm=>repK c mn d m mx.toNat|[]=>none
 else if k=8 then L.bind λl=>match l with|d::_=>canO c λw=>fl (beh d d.start w)|[]=>none
 else if k=9 then L.bind λl=>match l with|d::_=>some d|[]=>none
 else some (U9 c)
def Su (o:Option Dfa):Option Dfa:=o.bind λd=>if 200<d.next.length then none else some d
mutual
noncomputable def trN (c:Nat) (cs:List (List Sp)):Re->Option Dfa
  | .mk k s a mn mx _=>nodeO c cs k s mn mx (trL c cs a)
noncomputable def trL (c:Nat) (cs:List (List Sp)):List Re->Option (List Dfa)
  | []=>some []
  | t::ts=>(Su (trN c cs t)).bind λd=>(trL c cs ts).map λl=>d::l
end
noncomputable def trO (c:Nat) (cs:List (List Sp)) (t:Re):Option Dfa:=Su (trN c cs t)
theorem M4 (c:Nat) (cs:List (List Sp)) (t:Re):trN c cs t=nodeO c cs t.kind t.set t.mn t.mx (trL c cs t.args):=by cases t;simp only[trN];rfl
theorem QK (c:Nat) (cs:List (List Sp)) (t:Re) (a:List Re):trL c cs (t::a)=(trO c cs t).bind λd=>(trL c cs a).map λl=>d::l:=by simp only[trL];rfl
end Go.Proofs
namespace Go.Proofs
open Go Go.Eng Go.Sort
set_option maxRecDepth 100000
theorem Cp.put {S M:Nat->Prop} {w w':World} {d:Dfa} {vs:List Value} (h:Cp S w d vs) (c:Chg M w w') (e:∀b,S b->¬M b):Cp S w' d vs:=(h.chg c λb a _=>e b a).mono λ_ a=>a.1
theorem Lk.mono {S S':Nat->Prop} {w:World} {d:Dfa} {r:Value} (hs:∀b,S b->S' b) (h:Lk S d r w):Lk S' d r w:=by
 obtain ⟨a,f,i,e,c,g⟩:=h;exact ⟨a,f,i,e,c,g.mono hs⟩
def O_ (c:Nat) (cs:List (List Sp)) (x:Re):Prop:=∀(w:World) (bt:Nat) (ca:Option Addr) (cc:Nat) (vs:List Value),Az w bt #[.slice ca cs.length cc] 168->Ck w (.slice ca cs.length cc) cs->CG w x vs->
 Mr prog VU 172 #[.pointer (some ⟨bt,0,none⟩),.agg vs.toArray] w (λr w'=>(∃d,trN c cs x=some d∧GoodD c d∧Lk (λb=>w.heap.size<=b∧b<w'.heap.size) d r w')∧Al w w') λw'=>trN c cs x=none∧Al w w'
def K1 (c:Nat) (cs:List (List Sp)) (x:Re):Prop:=∀(w:World) (bt:Nat) (ca:Option Addr) (cc:Nat) (vs:List Value),Az w bt #[.slice ca cs.length cc] 168->Ck w (.slice ca cs.length cc) cs->CG w x vs->
 Mr prog VU 137 #[.pointer (some ⟨bt,0,none⟩),.agg vs.toArray] w (λr w'=>(∃d,trO c cs x=some d∧GoodD c d∧d.next.length<=200∧Lk (λb=>w.heap.size<=b∧b<w'.heap.size) d r w')∧Al w w') λw'=>trO c cs x=none∧Al w w'
theorem HF {c:Nat} {cs:List (List Sp)} {x:Re} {d:Dfa} (h:trN c cs x=some d):(¬200<d.next.length->trO c cs x=some d)∧(200<d.next.length->trO c cs x=none):=by
 unfold trO Su;rw[h];exact ⟨λa=>by rw[Option.bind_some,if_neg a],λa=>by rw[Option.bind_some,if_pos a]⟩
theorem Ty {c:Nat} {cs:List (List Sp)} {x:Re} (h:trN c cs x=none):trO c cs x=none:=by
 unfold trO Su;rw[h];rfl
theorem Qv (c:Nat) (cs:List (List Sp)) (x:Re) (hx:O_ c cs x):K1 c cs x:=by
 intro w0 bt ca cc vs hT hC ht;have ad:=ht;obtain ⟨sa,sc,aa,ac,rfl,_,_,_⟩:=ht.form;refine Hj func137 rfl ntmps137 (LK rfl) ?_;have E:Chg Ab w0 w0:=Chg.refl _ _;refine Y (BP (v:=(.agg (R6 x sa sc aa ac))) (c:=(R6 x sa sc aa ac)) qD rfl rfl ?_);intro bb wb Nb;have Fb:=Nb.ge E;have Ob_bt:=Nb.lt hT;replace hT:=Nb.keep hT;replace E:=E.ext Nb.ext;have Bb:=Nb.blk;refine By (c:=#[(I6 0),(.slice none 0 0),(.slice none 0 0)]) qD Ce rfl ?_;intro br wr Nr;have Fr:=Nr.ge E;have Or_bt:=Nr.lt hT;have Or_bb:=Nr.lt Bb;replace hT:=Nr.keep hT;replace Bb:=Nr.keep Bb;replace E:=E.ext Nr.ext;have Br:=Nr.blk;refine AA (Y (qM _ rfl (qV (Aa (vs:=[(I6 x.kind),(.slice sa x.set.length sc),(.slice aa x.args.length ac),(I6 x.mn),(I6 x.mx),(.bool x.neg)]) rfl DK Ca rfl (Bb.cells rfl)) ?_)));obtain ⟨n9,ab⟩:∃n9,n9=(wr).heap.size:=⟨_,rfl⟩;have hlt:br<n9∧w0.heap.size≤n9:=⟨by rw[ab];exact Br.lt,by rw[ab];exact E.size⟩;refine Ey rfl rfl qD (AV func172 kQ kQ rfl) (((hx _ bt ca cc _ hT (hC.ext E) (CG.ext E x ad)).mono (R':=fun r w'=>(∃d,trN c cs x=some d∧GoodD c d∧Lk (fun b=>n9≤b) d r w')∧Al _ w') (fun r w' h=>⟨by obtain ⟨d,h1,h2,h3⟩:=h.1;exact ⟨d,h1,h2,h3.mono fun b hb=>by rw[ab];exact hb.1⟩,h.2⟩) (fun _ h=>h))) (fun w' h=>And.intro rfl ⟨Ty h.1,E.ext h.2⟩) ?_;rintro _ w9 ⟨⟨d,hd,gd,ea,ec,na,nc,rfl,hD⟩,X9⟩;replace hT:=X9.keep hT;replace Bb:=X9.keep Bb;replace Br:=X9.keep Br;replace E:=E.ext X9;refine A6 (v:=(.agg #[(I6 d.start),(.slice ea d.accept.length ec),(.slice na d.next.length nc)])) (c:=#[(I6 d.start),(.slice ea d.accept.length ec),(.slice na d.next.length nc)]) (n:=3) qD Ce rfl Aw rfl rfl rfl qS ?_;intro bd wd Nd;have Fd:=Nd.ge E;have Od_bt:=Nd.lt hT;have Od_bb:=Nd.lt Bb;have Od_br:=Nd.lt Br;replace hT:=Nd.keep hT;replace Bb:=Nd.keep Bb;replace Br:=Nd.keep Br;replace hD:=hD.ext Nd.ext;replace E:=E.ext Nd.ext;have Bd:=Nd.blk;refine AA (AI (Y (qF bd 0 2 rfl underlying48 rfl A' rfl (qV (AE rfl A4 (Bd.cell rfl)) (qV (AL underlying46 rfl) (qV (CU rfl rfl) (AA (qC rfl (fun h0=>?_) (fun h0=>?_)))))))))
 ·refine AJ (qV (B' (ps:=[]) (v:=(.agg #[])) rfl qK) (qV (IH (t:=164) (v:=(.agg #[])) underlying164 rfl) (K0 rfl (Oa (u:=164) (v:=(.agg #[])) rfl) (And.intro rfl ⟨(HF hd).2 qO,E⟩))))
 ·refine AM (AB (Y (qV (Aa (vs:=[(I6 d.start),(.slice ea d.accept.length ec),(.slice na d.next.length nc)]) rfl BB Aw rfl (Bd.cells rfl)) (A8 (b:=br) (o:=0) (c':=#[(I6 d.start),(.slice ea d.accept.length ec),(.slice na d.next.length nc)]) rfl rfl qS Aw rfl Br qL rfl ?_))));intro w2 S2;replace hD:=hD.put S2.chg fun y h1 h=>by have h':y=br:=h;omega
  replace hT:=S2.keep qO hT;replace Bb:=S2.keep qO Bb;replace Bd:=S2.keep qO Bd;replace E:=S2.step E qQ;replace Br:=S2.blk;refine AA (AS (GU (C5 results137 (vs:=[(.int .i64 d.start),(.slice ea d.accept.length ec),(.slice na d.next.length nc)]) (b:=br) rfl BB Aw rfl (Br.cells rfl) ?_)));exact ⟨⟨d,(HF hd).1 qO,gd,qO,_,_,_,_,rfl,(Cp.chg hD (Chg.refl Ab _) fun _ _ _ f=>f).mono fun b hb=>⟨qO,hb.2⟩⟩,E⟩
end Go.Proofs
namespace Go.Proofs
open Go Go.Eng Go.Sort
set_option maxRecDepth 100000
theorem Ru {t y:Re} (h:t.args.length=1) (b:t.args[0]?=some y):t.args=[y]:=by
 match t.args,h,b with
 | [a],_,e=>simp at e;rw[e]
section
variable {c : Nat} {cs : List (List Sp)} {t y : Re}
theorem OS (h:t.args.length=1) (a:t.args[0]?=some y):trL c cs t.args=(trO c cs y).map λd=>[d]:=by
 rw[Ru h a,QK];cases trO c cs y<;>simp[trL]
theorem Ti (a:t.kind=2):trN c cs t=canO c (beh (FW cs t.set) 0):=by rw[M4,nodeO,if_neg qO,if_pos a]
theorem OR (a:t.kind=5) (h:t.args.length=1) (b:t.args[0]?=some y):trN c cs t=(trO c cs y).bind (stO c):=by
 rw[M4,nodeO,if_neg qO,if_neg qO,if_neg qO,if_pos a,OS h b];cases trO c cs y<;>rfl
theorem Th (a:t.kind=9) (h:t.args.length=1) (b:t.args[0]?=some y):trN c cs t=trO c cs y:=by
 rw[M4,nodeO,if_neg qO,if_neg qO,if_neg qO,if_neg qO,if_neg qO,if_neg qO,if_pos a,OS h b];cases trO c cs y<;>rfl
end
theorem VT (cs:List (List Sp)) (x:Re) (hc:1≤cs.length∧cs.length≤16) (hN:NodeI x) (hk:x.kind=9) (hof:∀y∈x.args,K1 cs.length cs y):O_ cs.length cs x:=by
 intro w0 bt ca cc vs hT hC ht;have ht0:=ht;obtain ⟨sa,sc,aa,ac,rfl,am,av,ae⟩:=ht.form;have hcl:cs.length≤16:=hc.2;have h1:=hN.one qO;obtain ⟨y,hy⟩:=AK (l:=x.args) (i:=0) qO;obtain ⟨ab,ao,rfl,ah⟩:=O2 ae qO;obtain ⟨us,ar,ai⟩:=ah.get hy;have ag:=ai;obtain ⟨ysa,ysc,yaa,yac,rfl,_,_,_⟩:=ai.form;refine Hj func172 rfl ntmps172 (LK rfl) ?_;have E:Chg Ab w0 w0:=Chg.refl _ _;refine Y (BP (v:=(.agg (R6 x sa sc (some ⟨ab,ao,none⟩) ac))) (c:=(R6 x sa sc (some ⟨ab,ao,none⟩) ac)) qD rfl rfl ?_);intro bb wb Nb;have Fb:=Nb.ge E;have Ob_bt:=Nb.lt hT;replace hT:=Nb.keep hT;replace E:=E.ext Nb.ext;have Bb:=Nb.blk;refine By (c:=#[(I6 0),(.slice none 0 0),(.slice none 0 0)]) qD Ce rfl ?_;intro br wr Nr;have Fr:=Nr.ge E;have Or_bt:=Nr.lt hT;have Or_bb:=Nr.lt Bb;replace hT:=Nr.keep hT;replace Bb:=Nr.keep Bb;replace E:=E.ext Nr.ext;have Br:=Nr.blk;refine AA (Y (qM _ rfl (qV (FX rfl) (qF bt 0 0 rfl underlying168 rfl Ls rfl (qV (AE rfl G9 (hT.cell rfl)) (qV (AL underlying69 rfl) (qA _ rfl (AA (AI (Y (qF bb 0 0 rfl underlying68 rfl Ad rfl (qV (AE rfl Ai (Bb.cell rfl)) (AA (AO (Y (qV (BF rfl rfl) (qA _ rfl (AA ?_))))))))))))))))));have al:(decide ((x.kind:Int)=1))=false:=decide_eq_false qO;refine AW (BH al) (Y (qV (BF rfl rfl) (qA _ rfl (AA ?_))));have ax:(decide ((x.kind:Int)=2))=false:=decide_eq_false qO;refine AW (BH ax) (AI (Y (qV (BF rfl rfl) (qA _ rfl (AA ?_)))));have au:(decide ((x.kind:Int)=3))=false:=decide_eq_false qO;refine AW (BH au) (Y (qV (BF rfl rfl) (qA _ rfl (AA ?_))));have aj:(decide ((x.kind:Int)=4))=false:=decide_eq_false qO;refine AW (BH aj) (AJ (qV (BF rfl rfl) (qA _ rfl (AA (AB ?_)))));have aq:(decide ((x.kind:Int)=7))=false:=decide_eq_false qO;refine AW (BH aq) (Y (qV (BF rfl rfl) (qA _ rfl (AA ?_))));have ap:(decide ((x.kind:Int)=5))=false:=decide_eq_false qO;refine AW (BH ap) (Y (qV (BF rfl rfl) (qA _ rfl (AA ?_))));have an:(decide ((x.kind:Int)=6))=false:=decide_eq_false qO;refine AW (BH an) (Y (qV (BF rfl rfl) (qA _ rfl (AA ?_))));have ak:(decide ((x.kind:Int)=8))=false:=decide_eq_false qO;refine AW (BH ak) (Y (qV (BF rfl rfl) (qA _ rfl (AA ?_))));have aw:(decide ((x.kind:Int)=9))=true:=decide_eq_true hk;refine A7 (BH aw) (Y (qM _ rfl (qF bb 0 2 rfl underlying68 rfl Lt rfl (qV (AE rfl JW (Bb.cell rfl)) (qV (AC (b:=ab) (o:=ao) (len:=x.args.length) (cap:=ac) (i:=0) (o':=ao+0*6) rfl rfl rfl underlying66 Ca qO qO) (qV (Aa rfl DK Ca rfl (ar.ext E)) ?_))))));obtain ⟨n9,af⟩:∃n9,n9=(wr).heap.size:=⟨_,rfl⟩;have hlt:br<n9∧w0.heap.size≤n9:=⟨by rw[af];exact Br.lt,by rw[af];exact E.size⟩;refine Ey rfl rfl qD (AV func137 kQ kQ rfl) (((hof y (List.mem_of_getElem? hy) _ bt ca cc _ hT (hC.ext E) (CG.ext E y ag)).mono (R':=fun r w'=>(∃d,trO cs.length cs y=some d∧GoodD cs.length d∧d.next.length≤200∧Lk (fun b=>n9≤b) d r w')∧Al _ w') (fun r w' h=>⟨by obtain ⟨d,h1,h2,h3,h4⟩:=h.1;exact ⟨d,h1,h2,h3,h4.mono fun b hb=>by rw[af];exact hb.1⟩,h.2⟩) (fun _ h=>h))) (fun w' h=>And.intro rfl ⟨by rw[Th hk h1 hy];exact h.1,E.ext h.2⟩) ?_;rintro _ w9 ⟨⟨d,hd,gd,hd2,ea,ec,na,nc,rfl,hD⟩,X9⟩;replace hT:=X9.keep hT;replace Bb:=X9.keep Bb;replace Br:=X9.keep Br;replace E:=E.ext X9;refine A8 (b:=br) (o:=0) (c':=#[(I6 d.start),(.slice ea d.accept.length ec),(.slice na d.next.length nc)]) rfl rfl qS Aw rfl Br qL rfl ?_;intro w10 ad;replace hD:=hD.put ad.chg fun y h1 h=>by have h':y=br:=h;omega
 replace hT:=ad.keep qO hT;replace Bb:=ad.keep qO Bb;replace E:=ad.step E qQ;replace Br:=ad.blk;refine AA (AS (A1 (AU (GU (C5 results172 (vs:=[(.int .i64 d.start),(.slice ea d.accept.length ec),(.slice na d.next.length nc)]) (b:=br) rfl BB Aw rfl (Br.cells rfl) ?_)))));exact ⟨⟨_,by rw[Th hk h1 hy];exact hd,gd,_,_,_,_,rfl,(Cp.chg hD (Chg.refl Ab _) fun _ _ _ f=>f).mono fun b hb=>⟨qO,hb.2⟩⟩,E⟩
theorem SG (cs:List (List Sp)) (x:Re) (hc:1≤cs.length∧cs.length≤16) (hN:NodeI x) (hk:x.kind=5) (hof:∀y∈x.args,K1 cs.length cs y):O_ cs.length cs x:=by
 intro w0 bt ca cc vs hT hC ht;have ht0:=ht;obtain ⟨sa,sc,aa,ac,rfl,ax,a5,ad⟩:=ht.form;have hcl:cs.length≤16:=hc.2;have h1:=hN.one qO;obtain ⟨y,hy⟩:=AK (l:=x.args) (i:=0) qO;obtain ⟨ab,ao,rfl,aj⟩:=O2 ad qO;obtain ⟨us,az,aq⟩:=aj.get hy;have ap:=aq;obtain ⟨ysa,ysc,yaa,yac,rfl,_,_,_⟩:=aq.form;refine Hj func172 rfl ntmps172 (LK rfl) ?_;have E:Chg Ab w0 w0:=Chg.refl _ _;refine Y (BP (v:=(.agg (R6 x sa sc (some ⟨ab,ao,none⟩) ac))) (c:=(R6 x sa sc (some ⟨ab,ao,none⟩) ac)) qD rfl rfl ?_);intro bb wb Nb;have Fb:=Nb.ge E;have Ob_bt:=Nb.lt hT;replace hT:=Nb.keep hT;replace E:=E.ext Nb.ext;have Bb:=Nb.blk;refine By (c:=#[(I6 0),(.slice none 0 0),(.slice none 0 0)]) qD Ce rfl ?_;intro br wr Nr;have Fr:=Nr.ge E;have Or_bt:=Nr.lt hT;have Or_bb:=Nr.lt Bb;replace hT:=Nr.keep hT;replace Bb:=Nr.keep Bb;replace E:=E.ext Nr.ext;have Br:=Nr.blk;refine AA (Y (qM _ rfl (qV (FX rfl) (qF bt 0 0 rfl underlying168 rfl Ls rfl (qV (AE rfl G9 (hT.cell rfl)) (qV (AL underlying69 rfl) (qA _ rfl (AA (AI (Y (qF bb 0 0 rfl underlying68 rfl Ad rfl (qV (AE rfl Ai (Bb.cell rfl)) (AA (AO (Y (qV (BF rfl rfl) (qA _ rfl (AA ?_))))))))))))))))));have aw:(decide ((x.kind:Int)=1))=false:=decide_eq_false qO;refine AW (BH aw) (Y (qV (BF rfl rfl) (qA _ rfl (AA ?_))));have a6:(decide ((x.kind:Int)=2))=false:=decide_eq_false qO;refine AW (BH a6) (AI (Y (qV (BF rfl rfl) (qA _ rfl (AA ?_)))));have a0:(decide ((x.kind:Int)=3))=false:=decide_eq_false qO;refine AW (BH a0) (Y (qV (BF rfl rfl) (qA _ rfl (AA ?_))));have au:(decide ((x.kind:Int)=4))=false:=decide_eq_false qO;refine AW (BH au) (AJ (qV (BF rfl rfl) (qA _ rfl (AA (AB ?_)))));have a4:(decide ((x.kind:Int)=7))=false:=decide_eq_false qO;refine AW (BH a4) (Y (qV (BF rfl rfl) (qA _ rfl (AA ?_))));have a3:(decide ((x.kind:Int)=5))=true:=decide_eq_true hk;refine A7 (BH a3) (Y (qM _ rfl (qF bb 0 2 rfl underlying68 rfl Lt rfl (qV (AE rfl JW (Bb.cell rfl)) (qV (AC (b:=ab) (o:=ao) (len:=x.args.length) (cap:=ac) (i:=0) (o':=ao+0*6) rfl rfl rfl underlying66 Ca qO qO) (qV (Aa rfl DK Ca rfl (az.ext E)) ?_))))));obtain ⟨n9,ag⟩:∃n9,n9=(wr).heap.size:=⟨_,rfl⟩;have hlt:br<n9∧w0.heap.size≤n9:=⟨by rw[ag];exact Br.lt,by rw[ag];exact E.size⟩;refine Ey rfl rfl qD (AV func137 kQ kQ rfl) (((hof y (List.mem_of_getElem? hy) _ bt ca cc _ hT (hC.ext E) (CG.ext E y ap)).mono (R':=fun r w'=>(∃d,trO cs.length cs y=some d∧GoodD cs.length d∧d.next.length≤200∧Lk (fun b=>n9≤b) d r w')∧Al _ w') (fun r w' h=>⟨by obtain ⟨d,h1,h2,h3,h4⟩:=h.1;exact ⟨d,h1,h2,h3,h4.mono fun b hb=>by rw[ag];exact hb.1⟩,h.2⟩) (fun _ h=>h))) (fun w' h=>And.intro rfl ⟨by rw[OR hk h1 hy,h.1];rfl,E.ext h.2⟩) ?_;rintro _ w9 ⟨⟨d,hd,gd,hd2,ea,ec,na,nc,rfl,hD⟩,X9⟩;replace hT:=X9.keep hT;replace Bb:=X9.keep Bb;replace Br:=X9.keep Br;replace E:=E.ext X9;have ar:n9≤(w9).heap.size:=by rw[ag];exact X9.size
 obtain ⟨o9,al⟩:∃o9,o9=stO cs.length d:=⟨_,rfl⟩;refine qE rfl (AV func207 kQ kQ rfl) ((U2 _ cs.length d _ gd hD.at' hc).mono (R':=fun r w'=>Ur cs.length (fun b=>n9≤b) o9 r w'∧Al _ w') (fun r w' h=>⟨by rw[al];exact h.1.mono fun b hb=>by have:=hb.1;omega,h.2⟩)) ?_;rintro _ w29 ⟨⟨s9,ai,am,ah,an,rfl,a1⟩,af⟩;replace hT:=af.keep hT;replace Bb:=af.keep Bb;replace Br:=af.keep Br;replace E:=E.ext af;refine qV (Aj rfl rfl) (qV (Aj rfl rfl) (Ey rfl rfl qD (AV func204 kQ kQ rfl) (UK _ o9.isSome s9.start ai am s9.accept.length ah s9.next.length an) (fun w' h=>And.intro rfl ⟨by rw[OR hk h1 hy,hd];exact al.symm.trans (Option.not_isSome_iff_eq_none.1 (by rw[h.1];decide)),E.ext h.2⟩) ?_));rintro _ w39 ⟨⟨ay,rfl⟩,ae⟩;replace hT:=ae.keep hT;replace Bb:=ae.keep Bb;replace Br:=ae.keep Br;replace E:=E.ext ae;obtain ⟨D,ak⟩:=Option.isSome_iff_exists.1 ay;obtain ⟨a2,gD,av⟩:=a1 D ak;rw[a2] at ak;have hD:=av.ext ae;refine A8 (b:=br) (o:=0) (c':=#[(I6 s9.start),(.slice ai s9.accept.length ah),(.slice am s9.next.length an)]) rfl rfl qS Aw rfl Br qL rfl ?_;intro w7 S7;replace hD:=hD.put S7.chg fun y h1 h=>by have h':y=br:=h;omega
 replace hT:=S7.keep qO hT;replace Bb:=S7.keep qO Bb;replace E:=S7.step E qQ;replace Br:=S7.blk;refine AA (AS (A1 (AU (GU (C5 results172 (vs:=[(.int .i64 s9.start),(.slice ai s9.accept.length ah),(.slice am s9.next.length an)]) (b:=br) rfl BB Aw rfl (Br.cells rfl) ?_)))));exact ⟨⟨_,by rw[OR hk h1 hy,hd];exact al.symm.trans ak,gD,_,_,_,_,rfl,(Cp.chg hD (Chg.refl Ab _) fun _ _ _ f=>f).mono fun b hb=>⟨qO,hb.2⟩⟩,E⟩
end Go.Proofs
