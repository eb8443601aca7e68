/- Contracts and plain lemmas, part 3. -/
import Derived.Test.YtmkajlkbimgngaaGreatZo2
open Go.Proofs.Tryz
set_option maxHeartbeats 16000000
set_option linter.unusedVariables false
namespace Go.Proofs
open Go Go.Eng Go.Sort
set_option maxRecDepth 100000
def WY (k:ByteArray):List Value:=[.string k]
def WZ (k:Int×Int):List Value:=[.int .i64 k.1,.int .i64 k.2]
theorem EF {α:Type} {a:α->List Value} {sz:Nat} (d:∀k,(a k).length=sz) {w:World} {b:Nat}:∀{l:List α} {o i:Nat} {k:α},A' w b o (l.map a).flatten->l[i]?=some k->A' w b (o+i*sz) (a k)
 | [],_,_,_,_,h=>by simp at h
 | q::l,o,0,k,h,hi=>by
  simp at hi;subst hi;intro j v c;rw[Nat.zero_mul,Nat.add_zero];exact h j v (by rw[List.map_cons,List.flatten_cons,List.getElem?_append_left (AI c)];exact c)
 | q::l,o,i+1,k,h,hi=>by
  have e:A' w b (o+sz) (l.map a).flatten:=λj v c=>by
   have:=h (sz+j) v (by rw[List.map_cons,List.flatten_cons,List.getElem?_append_right (by rw[d];omega),d,show sz+j - sz=j by omega];exact c)
   rwa [<-Nat.add_assoc] at this
  have:=EF d e (i:=i) (k:=k) (by simpa using hi)
  rwa [show o+(i+1)*sz=o+sz+i*sz by rw[Nat.add_mul];omega]
def RZ {α:Type} (c:Nat) (stp:α->Nat->Option α) (a0 k:α):Prop:=∃w,E3 c w∧FH stp a0 w=some k
def WV (base:Nat) (D:Dfa) (r:Value) (w:World):Prop:=∃ea ec na nc vs,r=.agg #[.int .i64 D.start,.slice ea D.accept.length ec,.slice na D.next.length nc]∧OutSt w base (.slice ea D.accept.length ec) (.slice na D.next.length nc) vs D.accept D.next
structure ExpOf {α:Type} (c most:Nat) (stp:α->Nat->Option α) (acc:α->Int) (a0:α) (D:Dfa):Prop where
 ok:OkD D.next.length c D
 most:D.next.length<=most
 start:D.start=0
 beh:∀w,E3 c w->beh D 0 w=K8 stp acc a0 w
 acc:∀x∈D.accept,x<2147483648
def JW {α:Type} (c most:Nat) (stp:α->Nat->Option α) (acc:α->Int) (first:α) (base:Nat) (r:Value) (w:World):Prop:=
 (GA c stp first most∧∃D v,(∀mx,GA c stp first mx->ExpOf c mx stp acc first D)∧r=.tuple #[v,.bool true]∧WV base D v w)∨(¬GA c stp first most∧r=.tuple #[.agg #[.int .i64 0,.slice none 0 0,.slice none 0 0],.bool false])
theorem OutSt.low {w:World} {base a:Nat} {E N:Value} {vs:List Value} {acc:List Int} {rows:List (List Int)} (h:OutSt w base E N vs acc rows) (hb:a<=base):OutSt w a E N vs acc rows:=
 ⟨Eo h.e hb,⟨Eo h.n.o hb,h.n.len,λi v p c b=>Eo (h.n.inn i v p c b) hb,h.n.apo⟩,h.en,h.ei⟩
theorem Um (w0:World) (first:ByteArray) (c most:Nat) (sv av:Value) (stp:ByteArray→Nat→Option ByteArray) (acc:ByteArray→Int) (hc:1≤c∧c≤16) (hm:1≤most∧most≤20000) (hac:∀k,RZ c stp first k→-1≤acc k∧acc k<2147483648)
  (hs:∀w k x,Ao w0 w→RZ c stp first k→x<c→CV prog sv #[.string k,.int .i64 ((x:Nat):Int)] w fun r w'=>(∃q,r=.tuple #[.string q,.bool (stp k x).isSome]∧∀b,stp k x=some b→q=b)∧Ao w w')
  (ha:∀w k,Ao w0 w→RZ c stp first k→CV prog av #[.string k] w fun r w'=>r=.int .i64 (acc k)∧Ao w w') :
  CJ prog 190 #[.string first,.int .i64 ((c:Nat):Int),sv,av,.int .i64 ((most:Nat):Int)] w0 fun r w=>JW c most stp acc first w0.heap.size r w∧Ao w0 w:=by
 have cx:∀k,(WY k).length=1:=fun _=>rfl;refine qR func190 rfl ntmps190 rfl (fun E=>(Y (BO (c:=#[(I6 0),(.slice none 0 0),(.slice none 0 0)]) qD CU rfl ?_)));intro br wr Nr;have Fr:=Nr.ge E;replace E:=E.ext Nr.ext;have Br:=Nr.blk;refine qA (.bool false) rfl (AA (Y (qM (.string first) rfl (Ad (ps:=[(0,(.string first))]) (c:=#[(.string first)]) qD rfl underlying236 Qi T2 qD qD qK ?_))));intro bs ws Ns;have Fs:=Ns.ge E;have Os_br:=Ns.lt Br;replace Br:=Ns.keep Br;replace E:=E.ext Ns.ext;have Bs:=Ns.blk;refine qA (.slice (some ⟨bs,0,none⟩) 1 1) rfl (AA (Y (Eg G9 DJ qD ?_)));intro bm wm Nm;have Fm:=Nm.ge E;have Om_br:=Nm.lt Br;have Om_bs:=Nm.lt Bs;replace Br:=Nm.keep Br;replace Bs:=Nm.keep Bs;replace E:=E.ext Nm.ext;intro Mm;refine qM (.string first) rfl (HB (k:=first) (v:=0) underlying161 (HE underlying9) Mm rfl rfl rfl ?_);intro w1 S1 H1;replace Br:=S1.keep qO Br;replace Bs:=S1.keep qO Bs;replace E:=S1.step E qQ;replace Mm:=H1;refine qM (.map (some bm)) rfl (qA (.map (some bm)) rfl (AA (Y (BO (c:=#[(I6 0),(.slice none 0 0),(.slice none 0 0)]) qD CU rfl ?_))));intro bd wd Nd;have Fd:=Nd.ge E;have Od_br:=Nd.lt Br;have Od_bs:=Nd.lt Bs;have Od_bm:=Nd.ltM Mm;replace Br:=Nd.keep Br;replace Bs:=Nd.keep Bs;replace Mm:=Nd.keepM Mm;replace E:=E.ext Nd.ext;have Bd:=Nd.blk;refine AA (AE (Y (qA (I6 0) rfl (AA (AM ?_)))));obtain ⟨n1,ds⟩:∃n1,n1=bs:=⟨_,rfl⟩;obtain ⟨n2,ar⟩:∃n2,n2=(wd).heap.size:=⟨_,rfl⟩;have c5:br<n2∧bs<n2∧bm<n2∧bd<n2:=⟨by rw[ar];exact Br.lt,by rw[ar];exact Bs.lt,by rw[ar];exact Mm.lt,by rw[ar];exact Bd.lt⟩;have cb:w0.heap.size≤n1∧w0.heap.size≤n2:=qO
 have c7:(wd).ownsRow n1 9 1 (.slice (some ⟨bs,0,none⟩) 1 1) 1 ([first].map WY).flatten:=KN (base:=n1) Bs qO;refine Am (fun nn_ σ W2=>∃(i:Nat) (ab:List (List Int)) (ks:List ByteArray) (ac:List Int) (vs:List Value) (sa ea ag:Option Addr) (ae sn ec af:Nat),(∃jj_,σ=BQ jj_ [(1,(I6 (c:Int))),(2,sv),(3,av),(4,(I6 (most:Int))),(10,(P6 br 0)),(13,(.map (some bm))),(14,(P6 bd 0)),(15,(I6 (i:Int))),(12,(.slice sa sn ae))])∧Chg AZ w0 W2∧Az W2 br #[(I6 0),(.slice none 0 0),(.slice none 0 0)] 52∧BZ W2 bm G9 DJ (BD ks 0)∧Az W2 bd (#[Value.int .i64 0,.slice ea i ec,.slice ag i af]) 52∧(ExpP c stp first ks ab [])∧(ab.length=i)∧(ks.length≤most)∧(sn=ks.length)∧(i≤sn)∧(ac=(ks.take i).map acc)∧(W2.ownsRow n1 9 1 (.slice sa sn ae) sn (ks.map WY).flatten)∧(OutSt W2 n2 (.slice ea i ec) (.slice ag i af) vs ac ab)∧(∀b,(Value.slice sa sn ae).ownBlock=some b→¬Ek (.slice ea i ec) (.slice ag i af) vs b∧b≠bm∧b≠bd)∧(n2≤W2.heap.size)∧nn_=most - i) (n:=most - 0) ?_ ?_
 ·exact ⟨0,[],[first],[],[],some ⟨bs,0,none⟩,none,none,1,1,0,0,Af.out ⟨rfl,rfl,rfl,rfl,rfl,rfl,rfl,rfl,rfl,trivial⟩,E,Br,Mm,Bd,ExpP.start _ _ _,rfl,hm.1,rfl,qO,rfl,c7,OutSt.start _ _,(fun b hb=>⟨(fun h=>by rcases h with h|h|⟨i,v,h,_⟩;cases h;cases h;simp at h),(by have dh:bs=b:=Option.some.inj hb;omega),(by have dh:bs=b:=Option.some.inj hb;omega)⟩),qO,rfl⟩
 ·clear E Br Mm Bd;rintro _ _ W2 ⟨i,ab,ks,ac,vs,sa,ea,ag,ae,sn,ec,af,⟨j2,rfl⟩,E,Br,Mm,Bd,hC,bt,ba,a2,dz,az,hS,hO,ah,ak,rfl⟩;refine AE (Y (qM (I6 (i:Int)) rfl (qM (.slice sa sn ae) rfl (qV (AH (ad:=sa) (n:=sn) (cap:=ae) underlying236 rfl) (qV (Av (k:=.i64) (a:=(i:Int)) (b:=(sn:Int)) rfl rfl) (AA (qC rfl (fun d3=>?_) (fun d3=>?_))))))))
  ·obtain ⟨k,al⟩:=AL (l:=ks) (i:=i) qO;have cv:=hC.rch k (List.mem_of_getElem? al);obtain ⟨sb,rfl,d8,hsc⟩:=Bj hS qO;obtain ⟨z0,hz0⟩:∃z0,z0=(W2).heap.size:=⟨_,rfl⟩;have dj:n2≤z0:=qO
   have bn:∀b,Ek (.slice ea i ec) (.slice ag i af) vs b→b<z0:=fun b hb=>by have:=(hO.lt hb).2;omega
   have c6:∀b,(Value.slice (some ⟨sb,0,none⟩) sn ae).ownBlock=some b→b<z0:=fun b hb=>by have:=(hS.lt b hb).2;omega
   refine AK (AB (AE (AM (Y (qM (I6 (c:Int)) rfl (E8 (n:=c) (z:=(I6 0)) (bytes:=8) qD underlying22 Ab GO CW rfl rfl rfl qO qO ?_))))));intro bq wq Nq;have Fq:=Nq.ge E;have Oq_br:=Nq.lt Br;have Oq_bm:=Nq.ltM Mm;have Oq_bd:=Nq.lt Bd;replace Br:=Nq.keep Br;replace Mm:=Nq.keepM Mm;replace Bd:=Nq.keep Bd;replace hS:=Aj hS Nq.ext;replace hO:=hO.ext Nq.ext;replace ak:=Nat.le_trans ak Nq.ext.size;replace E:=E.ext Nq.ext;have Bq:=Nq.blk;refine qA (.slice (some ⟨bq,0,none⟩) c c) rfl (AA (AE (Y (qM (I6 (c:Int)) rfl (qM (I6 0) rfl (AA (AM ?_)))))));have hqz:z0≤bq:=by have:=Nq.eq;omega
   rw[show List.replicate c (Value.int .i64 0)=(List.replicate c (0:Int)).map (Value.int .i64) by simp] at Bq;refine Am (fun nn_ σ W4=>∃(x:Nat) (R:List Int) (ks:List ByteArray) (sa:Option Addr) (ae sn:Nat),(∃jj_,σ=BQ jj_ [(1,(I6 (c:Int))),(2,sv),(3,av),(4,(I6 (most:Int))),(10,(P6 br 0)),(13,(.map (some bm))),(14,(P6 bd 0)),(15,(I6 (i:Int))),(16,(.slice (some ⟨bq,0,none⟩) c c)),(35,(I6 (c:Int))),(36,(I6 (x:Int))),(12,(.slice sa sn ae))])∧Chg AZ w0 W4∧Az W4 br #[(I6 0),(.slice none 0 0),(.slice none 0 0)] 52∧BZ W4 bm G9 DJ (BD ks 0)∧Az W4 bd (#[Value.int .i64 0,.slice ea i ec,.slice ag i af]) 52∧Az W4 bq ((R.map (Value.int .i64)).toArray) 3∧(x≤c)∧(R.length=c)∧(ExpP c stp first ks ab (R.take x))∧(ks.length≤most)∧(ks[i]?=some k)∧(sn=ks.length)∧((ks.take i).map acc=ac)∧(W4.ownsRow n1 9 1 (.slice sa sn ae) sn (ks.map WY).flatten)∧(OutSt W4 n2 (.slice ea i ec) (.slice ag i af) vs ac ab)∧(∀b,(Value.slice sa sn ae).ownBlock=some b→¬Ek (.slice ea i ec) (.slice ag i af) vs b∧b≠bm∧b≠bd∧b≠bq)∧(n2≤W4.heap.size)∧nn_=c - x) (n:=c - 0) ?_ ?_
   ·exact ⟨0,List.replicate c 0,ks,some ⟨sb,0,none⟩,ae,sn,Af.out ⟨rfl,rfl,rfl,rfl,rfl,rfl,rfl,rfl,rfl,rfl,rfl,rfl,trivial⟩,E,Br,Mm,Bd,Bq,Nat.zero_le _,qP,(by simpa using hC),ba,al,a2,az.symm,hS,hO,(fun b hb=>⟨(ah b hb).1,(ah b hb).2.1,(ah b hb).2.2,fun e=>by have:=c6 b hb;omega⟩),ak,rfl⟩
   ·clear E Br Mm Bd Bq;rintro _ _ W4 ⟨x,R,ks,sa,ae,sn,⟨j4,rfl⟩,E,Br,Mm,Bd,Bq,hx,bf,hC,ba,al,a2,bi,hS,hO,ah,ak,rfl⟩;refine Y (qV (Av (k:=.i64) (a:=(x:Int)) (b:=(c:Int)) rfl rfl) (AA (AE (qC rfl (fun cj=>?_) (fun cj=>?_)))))
    ·obtain ⟨aj,rfl,_,a9⟩:=Bj hS (by have:=AI al;omega);have ee:i<sn:=by have:=AI al;omega
     have cn:(W4).cell? ⟨aj,0+i,none⟩=some (.string k):=by have h9:=EF cx a9 al 0 _ rfl;rwa [Nat.mul_one,Nat.add_zero] at h9
     refine AK (AB (AE (AM (Y (qM (I6 (x:Int)) rfl (qA (I6 (x:Int)) rfl (AA (Y (qM sv rfl (qM (.slice (some ⟨aj,0,none⟩) sn ae) rfl (qM (I6 (i:Int)) rfl (qV (AC (b:=aj) (o:=0) (len:=sn) (cap:=ae) (i:=i) (o':=0+i) rfl rfl rfl underlying236 Qi qO qO) (qV (AD (v:=(.string k)) rfl Oc (cn)) (qM (I6 (x:Int)) rfl (De (fv:=sv) (vs:=[(.string k),(I6 (x:Int))]) qD rfl rfl (hs _ k x E cv qO) ?_)))))))))))))));rintro _ w9 ⟨⟨q,rfl,hq⟩,X9⟩;replace Br:=X9.keep Br;replace Mm:=X9.keepM Mm;replace Bd:=X9.keep Bd;replace Bq:=X9.keep Bq;replace E:=E.ext X9;have hS:=Aj hS X9;have hO:=hO.ext X9;have ak:=Nat.le_trans ak X9.size;have a8:(R.take x).length=x:=by simp;omega
     have a5:ks[ab.length]?=some k:=by rw[bt];exact al
     have da:=CX (L:=R) (s:=x) (x:=-1) qO;refine qM (.tuple #[(.string q),(.bool ((stp k x).isSome))]) rfl (qV (Ai (vs:=#[(.string q),(.bool ((stp k x).isSome))]) (v:=(.string q)) rfl rfl) (qV (Ai (vs:=#[(.string q),(.bool ((stp k x).isSome))]) (v:=(.bool ((stp k x).isSome))) rfl rfl) (qA (.string q) rfl (qA (.bool ((stp k x).isSome)) rfl (AA (AE (Y (qM (.slice (some ⟨bq,0,none⟩) c c) rfl (qM (I6 (x:Int)) rfl (qV (AC (b:=bq) (o:=0) (len:=c) (cap:=c) (i:=x) (o':=0+x) rfl rfl rfl underlying22 Ab qO qO) (BB (b:=bq) (o:=0+x) (c':=((R.set x (-1)).map (Value.int .i64)).toArray) (v:=(I6 (-1))) rfl rfl rfl Ab Bq (by simp;omega) (C7 _) ?_)))))))))));intro w6 S6;replace hS:=Ax hS S6.chg fun b hb h=>(ah b hb).2.2.2 h;replace hO:=hO.chg S6.chg fun b hb h=>by have:=bn b hb;have h':b=bq:=h;omega
     replace ak:=Nat.le_trans ak S6.chg.size;replace Br:=S6.keep qO Br;replace Mm:=S6.keepM qO Mm;replace Bd:=S6.keep qO Bd;replace E:=S6.step E qQ;replace Bq:=S6.blk;refine AA (Y (qM (.bool ((stp k x).isSome)) rfl (qV (Cj (b:=(stp k x).isSome) rfl) (AA (A3 (b:=!((stp k x).isSome)) rfl (fun aw=>?_) (fun aw=>?_))))))
     ·have ce:=aw;replace aw:=by simpa using aw
      have cf:stp k x=none:=by simpa using aw
      have dr:GT stp ks k (R.take x).length (-1):=by unfold GT;rw[a8,cf]
      refine Ak (AR (Ae (AB (AG (qV (Aq (k:=.i64) (a:=(x:Int)) (b:=1) (c:=(x:Int)+1) rfl rfl (A2 qO)) (qM (I6 ((x:Int)+1)) rfl (AA (AB ?_))))))));exact ⟨c - (x+1),qO,x+1,R.set x (-1),ks,some ⟨aj,0,none⟩,ae,sn,Af.out ⟨rfl,rfl,rfl,rfl,rfl,rfl,rfl,rfl,rfl,rfl,rfl,rfl,trivial⟩,E,Br,Mm,Bd,Bq,qO,(by simp[bf]),(by rw[da];exact hC.add a5 dr),ba,al,a2,bi,hS,hO,ah,ak,rfl⟩
     ·have ce:=aw;replace aw:=by simpa using aw
      obtain ⟨q',ci⟩:=Option.isSome_iff_exists.1 (show (stp k x).isSome=true by simpa using aw);have eb:=hq q' ci;subst eb;refine AK (AB (Y (qM (.map (some bm)) rfl (qM (.string q) rfl (B_ (v:=(.tuple #[(I6 ((A_ (BD ks 0) q).getD 0)),(.bool ((A_ (BD ks 0) q).isSome))])) rfl rfl qD (FL (k:=q) (z:=0) underlying161 (HE underlying9) CW Mm rfl rfl) (qM (.tuple #[(I6 ((A_ (BD ks 0) q).getD 0)),(.bool ((A_ (BD ks 0) q).isSome))]) rfl (qV (Ai (vs:=#[(I6 ((A_ (BD ks 0) q).getD 0)),(.bool ((A_ (BD ks 0) q).isSome))]) (v:=(I6 ((A_ (BD ks 0) q).getD 0))) rfl rfl) (qV (Ai (vs:=#[(I6 ((A_ (BD ks 0) q).getD 0)),(.bool ((A_ (BD ks 0) q).isSome))]) (v:=(.bool ((A_ (BD ks 0) q).isSome))) rfl rfl) (qA (I6 ((A_ (BD ks 0) q).getD 0)) rfl (qA (.bool ((A_ (BD ks 0) q).isSome)) rfl (AA (GR (fun σ W8=>∃(au:List ByteArray) (j:Nat) (bj:Option Addr) (bk a6:Nat),(∃jj_,σ=BQ jj_ [(1,(I6 (c:Int))),(2,sv),(3,av),(4,(I6 (most:Int))),(10,(P6 br 0)),(13,(.map (some bm))),(14,(P6 bd 0)),(15,(I6 (i:Int))),(16,(.slice (some ⟨bq,0,none⟩) c c)),(17,(I6 (x:Int))),(35,(I6 (c:Int))),(36,(I6 (x:Int))),(12,(.slice bj a6 bk)),(20,(I6 (j:Int)))])∧Chg AZ w0 W8∧Az W8 br #[(I6 0),(.slice none 0 0),(.slice none 0 0)] 52∧BZ W8 bm G9 DJ (BD au 0)∧Az W8 bd (#[Value.int .i64 0,.slice ea i ec,.slice ag i af]) 52∧Az W8 bq (((R.set x (-1)).map (Value.int .i64)).toArray) 3∧(ExpP c stp first au ab (R.take x++[(j:Int)]))∧(au.length≤most)∧(au[i]?=some k)∧(a6=au.length)∧((au.take i).map acc=ac)∧(W8.ownsRow n1 9 1 (.slice bj a6 bk) a6 (au.map WY).flatten)∧(OutSt W8 n2 (.slice ea i ec) (.slice ag i af) vs ac ab)∧(∀b,(Value.slice bj a6 bk).ownBlock=some b→¬Ek (.slice ea i ec) (.slice ag i af) vs b∧b≠bm∧b≠bd∧b≠bq)∧(n2≤W8.heap.size)) ?_ ?_))))))))))))
      ·skip
       refine Y (qM (.bool ((A_ (BD ks 0) q).isSome)) rfl (qV (Cj (b:=(A_ (BD ks 0) q).isSome) rfl) (AA (A3 (b:=!((A_ (BD ks 0) q).isSome)) rfl (fun ai=>?_) (fun ai=>?_)))))
       ·have bu:=ai;replace ai:=by simpa using ai
        have db:A_ (BD ks 0) q=none:=by simpa using ai
        obtain ⟨b8,b2⟩:=IC db;have b1:=hC.new a5 qO (by rw[a8];exact ci) b8;refine Y (qM (.slice (some ⟨aj,0,none⟩) sn ae) rfl (qV (AH (ad:=some ⟨aj,0,none⟩) (n:=sn) (cap:=ae) underlying236 rfl) (qA (I6 (sn:Int)) rfl (AA (AE (Y (qM (I6 (sn:Int)) rfl (qM (I6 (most:Int)) rfl (qV (As (k:=.i64) (a:=(sn:Int)) (b:=(most:Int)) rfl rfl) (AA (qC rfl (fun bo=>?_) (fun bo=>?_))))))))))))
        ·refine Y (qV (BU (ps:=[]) (v:=(.agg #[(I6 0),(.slice none 0 0),(.slice none 0 0)])) rfl qK) (Al (b:=br) (o:=0) (c':=#[(I6 0),(.slice none 0 0),(.slice none 0 0)]) rfl rfl qS Ap rfl Br qL rfl ?_));intro w11 bz;replace Mm:=bz.keepM qO Mm;replace Bd:=bz.keep qO Bd;replace Bq:=bz.keep qO Bq;replace E:=bz.step E qQ;replace Br:=bz.blk;refine qA (.bool false) rfl (AA (AS (AO (AO (Ag (AO (AO (Ag (AO (Ag (AO (AO (Ag (AO (BJ results190 (vs:=[(.int .i64 0),(.slice none 0 0),(.slice none 0 0)]) (b:=br) (v':=(.bool false)) rfl BC Ap rfl (Br.cells rfl) rfl ?_)))))))))))))));exact ⟨.inr ⟨fun hF=>by have h9:=hF _ b1.nd b1.rch;rw[List.length_append,List.length_singleton] at h9;omega,rfl⟩,E⟩
        ·refine AK (AB (Y (qM (.map (some bm)) rfl (qM (.string q) rfl (qM (I6 (sn:Int)) rfl (DM (k:=q) (v:=(sn:Int)) underlying161 (HE underlying9) Mm rfl rfl rfl ?_))))));intro w12 bb dk;replace hS:=Ax hS bb.chg fun b hb h=>(ah b hb).2.1 h;replace hO:=hO.chg bb.chg fun b hb h=>by have:=(hO.lt hb).1;have h':b=bm:=h;omega
         replace ak:=Nat.le_trans ak bb.chg.size;replace Br:=bb.keep qO Br;replace Bd:=bb.keep qO Bd;replace Bq:=bb.keep qO Bq;replace E:=bb.step E qQ;replace Mm:=dk;refine AA (AG (qM (.slice (some ⟨aj,0,none⟩) sn ae) rfl (qM (.string q) rfl (Ad (ps:=[(0,(.string q))]) (c:=#[(.string q)]) qD rfl underlying236 Qi T2 qD qD qK ?_))));intro b13 dp am;have F13:=am.ge E;have O13_br:=am.lt Br;have O13_bm:=am.ltM Mm;have O13_bd:=am.lt Bd;have O13_bq:=am.lt Bq;replace Br:=am.keep Br;replace Mm:=am.keepM Mm;replace Bd:=am.keep Bd;replace Bq:=am.keep Bq;replace hS:=Aj hS am.ext;replace hO:=hO.ext am.ext;replace ak:=Nat.le_trans ak am.ext.size;replace E:=E.ext am.ext;have dm:=am.blk;have du:bq<(dp).heap.size:=Bq.lt;refine BT (base:=n1) (n:=sn) (m:=1) (xs:=(ks.map WY).flatten) (news:=[(.string q)]) (size:=1) (bytes:=16) (v:=(.slice (some ⟨aj,0,none⟩) sn ae)) qD underlying236 Qi Xo T2 rfl qD rfl hS rfl (rfl) (dm.cells rfl) qS (by unfold maxLen;omega) qO (qO) ?_;intro v7 w59 cq a3 d0;replace Br:=a3.keep (fun h=>by have:=(hS.lt _ h).1;omega) Br;replace Mm:=a3.keepM (fun h=>(ah _ h).2.1 rfl) Mm;replace Bd:=a3.keep (fun h=>(ah _ h).2.2.1 rfl) Bd;replace Bq:=a3.keep (fun h=>(ah _ h).2.2.2 rfl) Bq;replace E:=E.step a3 (fun x hx h=>absurd (hS.lt x h).1 qO);obtain ⟨cs,cp,rfl⟩:=A9 cq;rw[a2,b2] at Mm;refine qA (.slice cs (sn+1) cp) rfl (AA (AB ?_));exact ⟨ks++[q],sn,cs,cp,sn+1,Af.out ⟨rfl,rfl,rfl,rfl,rfl,rfl,rfl,rfl,rfl,rfl,rfl,rfl,rfl,rfl,trivial⟩,E,Br,Mm,Bd,Bq,(by rw[a2];exact b1),(by rw[List.length_append,List.length_singleton];omega),(by rw[List.getElem?_append_left (AI al)];exact al),(by simp;omega),(by rw[List.take_append_of_le_length (by have:=AI al;omega)];exact bi),(by rw[List.map_append,List.flatten_append];exact cq),hO.chg a3 (fun b hb h=>(ah b h).1 hb),(fun b hb=>by rcases d0 b hb with h9|h9;exact ah b h9;exact ⟨fun ho=>by have:=(hO.lt ho).2;omega,qO,qO,qO⟩),Nat.le_trans ak a3.size⟩
       ·have bu:=ai;replace ai:=by simpa using ai
        have c3:(A_ (BD ks 0) q).isSome=true:=by simpa using ai
        obtain ⟨v9,cr⟩:=Option.isSome_iff_exists.1 c3;obtain ⟨j9,rfl,d5⟩:=JJ cr;rw[show (A_ (BD ks 0) q).getD 0=((j9:Nat):Int) from by rw[cr];rfl];refine AK (AB ?_);exact ⟨ks,j9,some ⟨aj,0,none⟩,ae,sn,Af.out ⟨rfl,rfl,rfl,rfl,rfl,rfl,rfl,rfl,rfl,rfl,rfl,rfl,rfl,rfl,trivial⟩,E,Br,Mm,Bd,Bq,hC.add a5 (by unfold GT;rw[a8,ci];exact ⟨j9,rfl,d5⟩),ba,al,a2,bi,hS,hO,ah,ak⟩
      ·clear E Br Mm Bd Bq;rintro _ W8 ⟨au,j,bj,bk,a6,⟨j8,rfl⟩,E,Br,Mm,Bd,Bq,d7,b5,b4,b9,cd,ck,cg,bx,a4⟩;have ca:=CX (L:=R.set x (-1)) (s:=x) (x:=((j:Nat):Int)) (by simp;omega);refine AG (qM (.slice (some ⟨bq,0,none⟩) c c) rfl (qM (I6 (x:Int)) rfl (qM (I6 (j:Int)) rfl (qV (AC (b:=bq) (o:=0) (len:=c) (cap:=c) (i:=x) (o':=0+x) rfl rfl rfl underlying22 Ab qO qO) (BB (b:=bq) (o:=0+x) (c':=(((R.set x (-1)).set x (j:Int)).map (Value.int .i64)).toArray) (v:=(I6 (j:Int))) rfl rfl rfl Ab Bq (by simp;omega) (C7 _) ?_)))));intro w14 a0;replace ck:=Ax ck a0.chg fun b hb h=>(bx b hb).2.2.2 h;replace cg:=cg.chg a0.chg fun b hb h=>by have:=bn b hb;have h':b=bq:=h;omega
       replace a4:=Nat.le_trans a4 a0.chg.size;replace Br:=a0.keep qO Br;replace Mm:=a0.keepM qO Mm;replace Bd:=a0.keep qO Bd;replace E:=a0.step E qQ;replace Bq:=a0.blk;refine AA (AP (AB (AG (qV (Aq (k:=.i64) (a:=(x:Int)) (b:=1) (c:=(x:Int)+1) rfl rfl (A2 qO)) (qM (I6 ((x:Int)+1)) rfl (AA (AB ?_)))))));exact ⟨c - (x+1),qO,x+1,(R.set x (-1)).set x ((j:Nat):Int),au,bj,bk,a6,Af.out ⟨rfl,rfl,rfl,rfl,rfl,rfl,rfl,rfl,rfl,rfl,rfl,rfl,trivial⟩,E,Br,Mm,Bd,Bq,qO,(by simp[bf]),(by rw[ca,List.take_set_of_le (Nat.le_refl x)];exact d7),b5,b4,b9,cd,ck,cg,bx,a4,rfl⟩
    ·have c1:x=c:=qO
     rw[c1,show R.take c=R by rw[←bf,List.take_length]] at hC;obtain ⟨n4,cy⟩:∃n4,n4=(W4).heap.size:=⟨_,rfl⟩;have ee:=AI al;obtain ⟨aj,rfl,_,a9⟩:=Bj hS qO;have cn:(W4).cell? ⟨aj,0+i,none⟩=some (.string k):=by have h9:=EF cx a9 al 0 _ rfl;rwa [Nat.mul_one,Nat.add_zero] at h9
     have b0:ac.length=i:=by rw[←bi,List.length_map,List.length_take];omega
     have an:(W4).ownsRow n2 DP 1 (.slice ea i ec) i (ac.map (Value.int .i64)):=by have h9:=hO.e;rwa [b0] at h9
     have ap:(W4).ownsRow n2 Co 1 (.slice ag i af) i vs:=hO.n.on (by rw[List.length_map];omega);have dg:=ba;have dy:=Bq.lt;have di:=GZ (base:=bq) Bq (Nat.le_refl _) bf;refine Ak (AR (AR (Ae (AB ?_))));obtain ⟨cc,aa⟩:∃Fs:List C1,Fs=[(fun _ v _=>v=(P6 bd 2)),(fun _ v _=>v=(.slice ag i af)),(fun _ v _=>v=(.slice (some ⟨bq,0,none⟩) c c)),(fun _=>C0 Co #[.slice (some ⟨bq,0,none⟩) c c] n4),(fun _=>Cd n2 Co 1 (i+1) (vs++[Value.slice (some ⟨bq,0,none⟩) c c]) (.slice ag i af) n4),(fun _ v _=>v=(P6 bd 1)),(fun _ v _=>v=(.slice ea i ec)),(fun _ v _=>v=av),(fun _ v _=>v=(.slice (some ⟨aj,0,none⟩) sn ae)),(fun _ v _=>v=(I6 (i:Int))),(fun _ v _=>v=(.pointer (some ⟨aj,0+i,none⟩))),(fun _ v _=>v=(.string k)),(fun _ v _=>v=(I6 (acc k))),(fun _=>C0 DP #[.int .i64 (acc k)] n4),(fun s v w=>Cd n2 DP 1 (i+1) (ac.map (Value.int .i64)++[Value.int .i64 (acc k)]) (.slice ea i ec) n4 v w∧∀b,(s 84).ownBlock=some b→v.ownBlock≠some b),(fun _ v _=>v=(P6 bd 2))]:=⟨_,rfl⟩;refine Hq (two 4 14 (fun b=>(Value.slice ag i af).ownBlock=some b) (fun b=>(Value.slice ea i ec).ownBlock=some b)) 16 [80,81,82,83,84,85,86,87,88,89,90,91,92,93,94,95] [[],[0],[],[2],[1,3],[],[5],[],[],[],[8,9],[10],[4,7,11],[12],[6,12,13],[0,1,2,3,4,5,6]] [[],[0],[],[2],[1,0,3,2],[],[5],[],[],[],[8,9],[10,8,9],[4,1,0,3,2,7,11,10,8,9],[12,4,1,0,3,2,7,11,10,8,9],[6,5,12,4,1,0,3,2,7,11,10,8,9,13],[0,1,2,3,4,5,6]] cc aa qK mixed qK qK qK ?_ ?_
     ·intro wd X0;refine DagStepsX.cons (A8.eq) (fun _ _ _ _ _ h=>h) (fun s' w' X U H=>?_) ?_
      ·exact AY (AN (b:=bd) (o:=0) (o':=2) (U 14 rfl) underlying52 rfl CB rfl) (Chg.refl _ _) rfl
      refine DagStepsX.cons (A8.eq) (fun _ _ _ _ _ h=>h) (fun s' w' X U H=>?_) ?_
      ·have c9:=H 0 rfl 80 _ rfl (by rw[aa];rfl);exact AY (AD (v:=(.slice ag i af)) c9 B0 ((Chg.keep X (fun h=>(fun h=>h.elim (fun h=>by have:=(ap.lt _ h).1;omega) (fun h=>by have:=(an.lt _ h).1;omega)) (C5.or h)) (X0.keep Bd)).cell rfl)) (Chg.refl _ _) rfl
      refine DagStepsX.cons (A8.eq) (fun _ _ _ _ _ h=>h) (fun s' w' X U H=>?_) ?_
      ·exact AY (Ah (v:=(.slice (some ⟨bq,0,none⟩) c c)) (U 16 rfl)) (Chg.refl _ _) rfl
      refine DagStepsX.cons (C6 (fun y h=>by have:=(ap.lt y h).2;omega) (fun y h=>by have:=(an.lt y h).2;omega)) (F_.const) (fun s' w' X U H=>?_) ?_
      ·have c2:=H 2 rfl 82 _ rfl (by rw[aa];rfl);exact Cq (hs:=n4) underlying50 BG EG c2 qD qD qK (by have:=X0.size;have:=X.size;omega)
      refine DagStepsX.cons (HQ (fun k hk hm=>hk.elim (fun h=>hO.en k hm h) (fun h=>by have:=(an.lt k hm).2;omega))) (F_.const) (fun s' w' X U H=>?_) ?_
      ·have c8:=H 1 rfl 81 _ rfl (by rw[aa];rfl);obtain ⟨b83,dt,d9,g83⟩:=(show ((fun _=>C0 Co #[.slice (some ⟨bq,0,none⟩) c c] n4):C1) s' (s' 83) w' from H 3 rfl 83 ((fun _=>C0 Co #[.slice (some ⟨bq,0,none⟩) c c] n4)) rfl (by rw[aa];rfl));exact CL (hs:=n4) underlying50 BG K6 EG rfl qD c8 (Aj (Aj ap X0) (X.mono (fun y _ h=>C5.none rfl rfl h))) dt rfl (d9.cells rfl) qS (by unfold maxLen;omega) qO (by have:=X0.size;have:=X.size;omega) (fun y h=>h) (by have:=X0.size;have:=X.size;omega)
      refine DagStepsX.cons (A8.eq) (fun _ _ _ _ _ h=>h) (fun s' w' X U H=>?_) ?_
      ·exact AY (AN (b:=bd) (o:=0) (o':=1) (U 14 rfl) underlying52 rfl BG rfl) (Chg.refl _ _) rfl
      refine DagStepsX.cons (A8.eq) (fun _ _ _ _ _ h=>h) (fun s' w' X U H=>?_) ?_
      ·have dn:=H 5 rfl 85 _ rfl (by rw[aa];rfl);exact AY (AD (v:=(.slice ea i ec)) dn BX ((Chg.keep X (fun h=>(fun h=>h.elim (fun h=>by have:=(ap.lt _ h).1;omega) (fun h=>by have:=(an.lt _ h).1;omega)) (C5.or h)) (X0.keep Bd)).cell rfl)) (Chg.refl _ _) rfl
      refine DagStepsX.cons (A8.eq) (fun _ _ _ _ _ h=>h) (fun s' w' X U H=>?_) ?_
      ·exact AY (Ah (v:=av) (U 3 rfl)) (Chg.refl _ _) rfl
      refine DagStepsX.cons (A8.eq) (fun _ _ _ _ _ h=>h) (fun s' w' X U H=>?_) ?_
      ·exact AY (Ah (v:=(.slice (some ⟨aj,0,none⟩) sn ae)) (U 12 rfl)) (Chg.refl _ _) rfl
      refine DagStepsX.cons (A8.eq) (fun _ _ _ _ _ h=>h) (fun s' w' X U H=>?_) ?_
      ·exact AY (Ah (v:=(I6 (i:Int))) (U 15 rfl)) (Chg.refl _ _) rfl
      refine DagStepsX.cons (A8.eq) (fun _ _ _ _ _ h=>h) (fun s' w' X U H=>?_) ?_
      ·have d1:=H 8 rfl 88 _ rfl (by rw[aa];rfl);have d4:=H 9 rfl 89 _ rfl (by rw[aa];rfl);exact AY (AC (b:=aj) (o:=0) (len:=sn) (cap:=ae) (i:=i) (o':=0+i) d1 d4 rfl underlying236 Qi qO qO) (Chg.refl _ _) rfl
      refine DagStepsX.cons (A8.eq) (fun _ _ _ _ _ h=>h) (fun s' w' X U H=>?_) ?_
      ·have dv:=H 10 rfl 90 _ rfl (by rw[aa];rfl);exact AY (AD (v:=(.string k)) dv Oc (Chg.cell X (fun h=>(C5.or h).elim (fun h=>(ah _ rfl).1 (.inr (.inl h))) (fun h=>(ah _ rfl).1 (.inl h))) (X0.cell cn))) (Chg.refl _ _) rfl
      refine DagStepsX.cons (A8.eq) (fun _ _ _ _ _ h=>h) (fun s' w' X U H=>?_) ?_
      ·have c4:=H 7 rfl 87 _ rfl (by rw[aa];rfl);have dw:=H 11 rfl 91 _ rfl (by rw[aa];rfl);exact HV (fv:=av) (vs:=[.string k]) c4 (LL dw) ((ha w' k ((E.ext X0).step X (fun y hy h=>(C5.or h).elim (fun h=>by have:=(ap.lt y h).1;omega) (fun h=>by have:=(an.lt y h).1;omega))) cv).mono (fun v w h=>⟨h.1,Ao.chg h.2⟩))
      refine DagStepsX.cons (C6 (fun y h=>by have:=(ap.lt y h).2;omega) (fun y h=>by have:=(an.lt y h).2;omega)) (F_.const) (fun s' w' X U H=>?_) ?_
      ·have df:=H 12 rfl 92 _ rfl (by rw[aa];rfl);exact Cq (hs:=n4) underlying22 Ab CW df qD qD qK (by have:=X0.size;have:=X.size;omega)
      refine DagStepsX.cons (HP rfl) (fun s1 s2 h v w h2=>⟨h2.1,by have:=h 4 84 rfl rfl;rw[this];exact h2.2⟩) (fun s' w' X U H=>?_) ?_
      ·have d6:=H 6 rfl 86 _ rfl (by rw[aa];rfl);obtain ⟨b93,dx,de,g93⟩:=(show ((fun _=>C0 DP #[.int .i64 (acc k)] n4):C1) s' (s' 93) w' from H 13 rfl 93 ((fun _=>C0 DP #[.int .i64 (acc k)] n4)) rfl (by rw[aa];rfl));exact Hp (H 4 rfl 84 _ rfl (by rw[aa];rfl)) (CL (hs:=w'.heap.size) underlying22 Ab GO CW rfl qD d6 (Ax (Aj an X0) (X.mono (fun y _ h=>C5.fst rfl h)) (fun k hk hm=>hO.en k hk hm)) dx rfl (de.cells rfl) qS (by unfold maxLen;omega) qO (by have:=X0.size;have:=X.size;omega) (fun y h=>h) (Nat.le_refl _)) (by have:=X0.size;have:=X.size;omega) (fun k h1 h2=>h1.elim (fun h=>hO.en k h2 h) (fun h=>by have:=(an.lt k h2).2;omega))
      refine DagStepsX.cons (A8.eq) (fun _ _ _ _ _ h=>h) (fun s' w' X U H=>?_) ?_
      ·exact AY (AN (b:=bd) (o:=0) (o':=2) (U 14 rfl) underlying52 rfl CB rfl) (Chg.refl _ _) rfl
      exact DagStepsX.nil
     ·intro s' dc cu X0 ax U H;replace ax:=ax.mono (M':=fun y=>(fun b=>(Value.slice ag i af).ownBlock=some b) y∨(fun b=>(Value.slice ea i ec).ownBlock=some b) y) (fun y _ h=>by obtain ⟨j,h⟩:=h;rcases E5 h with h|h;exact .inl h.2;exact .inr h.2);obtain ⟨⟨a7,be,cw⟩,cz,b6⟩:=(show ((fun _=>Cd n2 Co 1 (i+1) (vs++[Value.slice (some ⟨bq,0,none⟩) c c]) (.slice ag i af) n4):C1) s' (s' 84) cu from H 4 84 ((fun _=>Cd n2 Co 1 (i+1) (vs++[Value.slice (some ⟨bq,0,none⟩) c c]) (.slice ag i af) n4)) rfl (by rw[aa];rfl));obtain ⟨⟨⟨bh,bg,ct⟩,c0,cm⟩,b7⟩:=(show ((fun s v w=>Cd n2 DP 1 (i+1) (ac.map (Value.int .i64)++[Value.int .i64 (acc k)]) (.slice ea i ec) n4 v w∧∀b,(s 84).ownBlock=some b→v.ownBlock≠some b):C1) s' (s' 94) cu from H 14 94 ((fun s v w=>Cd n2 DP 1 (i+1) (ac.map (Value.int .i64)++[Value.int .i64 (acc k)]) (.slice ea i ec) n4 v w∧∀b,(s 84).ownBlock=some b→v.ownBlock≠some b)) rfl (by rw[aa];rfl));have dl:s' 95=(.pointer (some ⟨bd,2,none⟩)):=H 15 95 ((fun _ v _=>v=(.pointer (some ⟨bd,2,none⟩)))) rfl (by rw[aa];rfl);obtain ⟨j15,rfl⟩:=Af.out (σ:=s') (l:=[(1,(.int .i64 ((c:Nat):Int))),(2,sv),(3,av),(4,(.int .i64 ((most:Nat):Int))),(10,(.pointer (some ⟨br,0,none⟩))),(12,(.slice (some ⟨aj,0,none⟩) sn ae)),(13,(.map (some bm))),(14,(.pointer (some ⟨bd,0,none⟩))),(15,(.int .i64 ((i:Nat):Int))),(84,(.slice a7 (i+1) be)),(94,(.slice bh (i+1) bg)),(95,(.pointer (some ⟨bd,2,none⟩)))]) ⟨U 1 rfl,U 2 rfl,U 3 rfl,U 4 rfl,U 10 rfl,U 12 rfl,U 13 rfl,U 14 rfl,U 15 rfl,cw,ct,dl,trivial⟩;clear U H;replace Br:=Chg.keep ax (fun h=>h.elim (fun h=>by have:=(ap.lt _ h).1;omega) (fun h=>by have:=(an.lt _ h).1;omega)) (X0.keep Br);replace Mm:=Chg.keepM ax (fun h=>h.elim (fun h=>by have:=(ap.lt _ h).1;omega) (fun h=>by have:=(an.lt _ h).1;omega)) (X0.keepM Mm);replace Bd:=Chg.keep ax (fun h=>h.elim (fun h=>by have:=(ap.lt _ h).1;omega) (fun h=>by have:=(an.lt _ h).1;omega)) (X0.keep Bd);replace Bq:=Chg.keep ax (fun h=>h.elim (fun h=>by have:=bn _ (.inr (.inl h));omega) (fun h=>by have:=bn _ (.inl h);omega)) (X0.keep Bq);have co:=Chg.trans (Ao.chg X0) ax;replace E:=(E.ext X0).step ax (fun y hy h=>h.elim (fun h=>by have:=(ap.lt y h).1;omega) (fun h=>by have:=(an.lt y h).1;omega));rw[cw] at cz b6 b7;rw[ct] at c0 cm b7;have bc:=hO.push (y:=acc k) (N':=.slice a7 (i+1) be) (E':=.slice bh (i+1) bg) di bf.symm qO (fun b hb=>by have:=bn b hb;omega) co (by rw[bt];exact cz) (fun k hk=>by rw[←cy];exact b6 k hk) (by rw[b0,List.map_append];exact c0) (fun k hk=>by rw[←cy];exact cm k hk) b7;have bv:=Ax hS co (fun b hb h=>h.elim (fun h=>(ah b hb).1 (.inr (.inl h))) (fun h=>(ah b hb).1 (.inl h)));have ao:=Nat.le_trans ak co.size;have cl:∀b,(Value.slice (some ⟨aj,0,none⟩) sn ae).ownBlock=some b→¬Ek (.slice bh (i+1) bg) (.slice a7 (i+1) be) (vs++[.slice (some ⟨bq,0,none⟩) c c]) b∧b≠bm∧b≠bd:=fun b hb=>⟨fun ho=>IY ⟨(ah b hb).1,(ah b hb).2.2.2⟩ (by have:=(hS.lt b hb).2;omega) b6 cm ho,(ah b hb).2.1,(ah b hb).2.2.1⟩;refine BB (b:=bd) (o:=2) (c':=#[(I6 0),(.slice ea i ec),(.slice a7 (i+1) be)]) (v:=(.slice a7 (i+1) be)) rfl rfl rfl CB Bd qP rfl ?_;intro w16 a1;replace bc:=bc.chg a1.chg fun b hb h=>by have:=(bc.lt hb).1;have h':b=bd:=h;omega
      replace bv:=Ax bv a1.chg fun b hb h=>(ah b hb).2.2.1 h;replace ao:=Nat.le_trans ao a1.chg.size;replace Br:=a1.keep qO Br;replace Mm:=a1.keepM qO Mm;replace Bq:=a1.keep qO Bq;replace E:=a1.step E qQ;replace Bd:=a1.blk;refine qF bd 0 1 rfl underlying52 rfl BG rfl (BB (b:=bd) (o:=1) (c':=#[(I6 0),(.slice bh (i+1) bg),(.slice a7 (i+1) be)]) (v:=(.slice bh (i+1) bg)) rfl rfl rfl BG Bd qP rfl ?_);intro w17 ay;replace bc:=bc.chg ay.chg fun b hb h=>by have:=(bc.lt hb).1;have h':b=bd:=h;omega
      replace bv:=Ax bv ay.chg fun b hb h=>(ah b hb).2.2.1 h;replace ao:=Nat.le_trans ao ay.chg.size;replace Br:=ay.keep qO Br;replace Mm:=ay.keepM qO Mm;replace Bq:=ay.keep qO Bq;replace E:=ay.step E qQ;replace Bd:=ay.blk;refine AA (AP (AB (AG (qM (I6 (i:Int)) rfl (qV (Aq (k:=.i64) (a:=(i:Int)) (b:=1) (c:=(i:Int)+1) rfl rfl (A2 qO)) (qA (I6 ((i:Int)+1)) rfl (AA (AB ?_))))))));exact ⟨most - (i+1),qO,i+1,ab++[R],ks,ac++[acc k],vs++[.slice (some ⟨bq,0,none⟩) c c],some ⟨aj,0,none⟩,bh,a7,ae,sn,bg,be,Af.out ⟨rfl,rfl,rfl,rfl,rfl,rfl,rfl,rfl,rfl,trivial⟩,E,Br,Mm,Bd,hC.rowed bf,(by simp[bt]),ba,a2,qO,(by rw[Ed al,List.map_append,bi];rfl),bv,bc,cl,ao,rfl⟩
  ·have dq:i=ks.length:=qO
   have ch:ab.length=ks.length:=qO
   obtain ⟨b3,ed⟩:=hC.done (acc:=acc) ch (fun k hk=>(hac k (hC.rch k hk)).1);have aq:ac=ks.map acc:=by rw[az,dq,List.take_length]
   refine Ak (AR (AR (Ae (AB (Y (qV (AU (vs:=[(I6 0),(.slice ea i ec),(.slice ag i af)]) rfl BC Ap rfl (Bd.cells rfl)) (Al (b:=br) (o:=0) (c':=#[(I6 0),(.slice ea i ec),(.slice ag i af)]) rfl rfl qS Ap rfl Br qL rfl ?_)))))));intro w18 bw;replace hO:=hO.chg bw.chg fun b hb h=>by have:=(hO.lt hb).1;have h':b=br:=h;omega
   replace Mm:=bw.keepM qO Mm;replace Bd:=bw.keep qO Bd;replace E:=bw.step E qQ;replace Br:=bw.blk;refine qA (.bool true) rfl (AA (AS (BJ results190 (vs:=[(.int .i64 0),(.slice ea i ec),(.slice ag i af)]) (b:=br) (v':=(.bool true)) rfl BC Ap rfl (Br.cells rfl) rfl (⟨.inl ⟨(hC.all ch).mono ba,⟨0,ac,ab⟩,_,fun mx dd=>⟨?_,?_,rfl,?_,?_⟩,rfl,?_⟩,E⟩))))
   ·rw[aq];show OkD ab.length c _;rw[ch];exact b3
   ·show ab.length≤mx;have:=dd ks hC.nd hC.rch;omega
   ·rw[aq];exact ed
   ·intro x hx;have hx:x∈ac:=hx;rw[aq] at hx;obtain ⟨u,hu,rfl⟩:=List.mem_map.1 hx;exact (hac u (hC.rch u hu)).2
   ·have bp:ac.length=i:=by rw[aq,List.length_map];omega
    exact ⟨ea,ec,ag,af,vs,by show Value.agg #[_,_,_]=.agg #[_,.slice ea ac.length ec,.slice ag ab.length af];rw[bp,bt],by show OutSt _ _ (.slice ea ac.length ec) (.slice ag ab.length af) vs ac ab;rw[bp,bt];exact hO.low cb.2⟩
end Go.Proofs
namespace Go.Proofs
open Go Go.Eng
set_option maxRecDepth 100000
theorem Rc {S:Type} (F:S→Re→Bool×S) (Inv:S→World→Prop) (M:Nat→Prop) (bd:Nat) (fv:Value) (wb:World)
    (hM:∀b,M b→wb.heap.size≤b∧b<bd) (hst:∀s w w',Inv s w→Ao w w'→Inv s w')
    (hf:∀s w t vs,bd≤w.heap.size→Ao wb w→Inv s w→BR wb t vs→CV prog fv #[.agg vs.toArray] w fun v w'=>v=.bool (F s t).1∧Chg M w w'∧Inv (F s t).2 w') :
    ∀n t,t.size≤n→∀s w0 vs,bd≤w0.heap.size→Ao wb w0→Inv s w0→BR wb t vs→
      CJ prog 93 #[.agg vs.toArray,fv] w0 fun v w'=>v=.bool (C' F t s).1∧Chg M w0 w'∧Inv (C' F t s).2 w':=by
  have ae:∀{w w':World},Ao wb w→Chg M w w'→Ao wb w':=fun e c=>Chg.step e c fun x hx hm=>by have:=(hM x hm).1;omega
  intro n
  induction n with
  | zero=>intro t ht;have:=t.size_pos;omega
  | succ n ih=>
  intro t hn s w0 vs hbd hE hI ht;obtain ⟨sa,sc,aa,ac,rfl,an,ap,ag⟩:=ht.form;rw[FQ];refine F9 func93 rfl ntmps93 (Jo rfl) ?_;have E:Chg M w0 w0:=Chg.refl _ _;refine Y (BM (v:=(.agg (R6 t sa sc aa ac))) (c:=(R6 t sa sc aa ac)) qD rfl rfl ?_);intro b1 w1 N1;have F1:=N1.ge E;replace hI:=hst _ _ _ hI N1.ext;replace E:=E.ext N1.ext;have B1:=N1.blk;refine qA (.bool false) rfl (AA (AE (Y (qM fv rfl (qV (AU (vs:=[(I6 t.kind),(.slice sa t.set.length sc),(.slice aa t.args.length ac),(I6 t.mn),(I6 t.mx),(.bool t.neg)]) rfl CI BE rfl (B1.cells rfl)) (De (fv:=fv) (vs:=[(.agg (R6 t sa sc aa ac))]) qD rfl rfl (hf s _ t _ (by have:=N1.size;omega) (hE.trans N1.ext) hI ht) ?_))))));rintro _ w2 ⟨rfl,C2,hI⟩;replace B1:=C2.keep (fun h=>by have:=(hM _ h).2;omega) B1;replace E:=E.trans C2;have hE2:Ao wb w2:=ae hE E;have z2:bd≤w2.heap.size:=by have:=C2.size;have:=N1.size;omega
  refine qV (Cj (b:=(F s t).1) rfl) (AA (A3 (b:=!((F s t).1)) rfl (fun h=>?_) (fun h=>?_)))
  · have kh:=h;replace h:=by simpa using h
    refine Y (qA (.bool false) rfl (AA (AS (AO (AV results93 (v:=(.bool false)) rfl ?_)))));exact ⟨by rw[if_neg (by simp[h])],E,by rw[if_neg (by simp[h])];exact hI⟩
  · have kh:=h;replace h:=by simpa using h
    rw[if_pos (by simpa using h)];generalize (F s t).2=s1 at hI⊢;refine AK (AB (AE (Y (qF b1 0 2 rfl underlying48 rfl G5 rfl (qV (AD (v:=(.slice aa t.args.length ac)) rfl FB (B1.cell rfl)) (qV (AH (ad:=aa) (n:=t.args.length) (cap:=ac) underlying46 rfl) (qM (I6 0) rfl (AA (AM (Am (fun nn_ σ W3=>∃(k:Nat) (s':S),(∃jj_,σ=BQ jj_ [(1,fv),(12,(.slice aa t.args.length ac)),(13,(I6 (t.args.length:Int))),(14,(I6 (k:Int)))])∧Chg M w0 W3∧Az W3 b1 (R6 t sa sc aa ac) 48∧(k≤t.args.length)∧(bd≤W3.heap.size)∧(Inv s' W3)∧(Cy F t.args s1=Cy F (t.args.drop k) s')∧nn_=t.args.length - k) (n:=t.args.length - 0) ?_ ?_))))))))))
    · exact ⟨0,s1,Af.out ⟨rfl,rfl,rfl,rfl,trivial⟩,E,B1,Nat.zero_le _,z2,hI,rfl,rfl⟩
    · clear E B1;rintro _ _ W3 ⟨k,s',⟨j3,rfl⟩,E,B1,hk,hz,hI,ab,rfl⟩;refine Y (qV (Av (k:=.i64) (a:=(k:Int)) (b:=(t.args.length:Int)) rfl rfl) (AA (AE (qC rfl (fun ak=>?_) (fun ak=>?_)))))
      · have af:k<t.args.length:=qO
        obtain ⟨x,hx⟩:∃x,t.args[k]?=some x:=⟨_,List.getElem?_eq_getElem af⟩;obtain ⟨b,o,rfl,ai⟩:∃b o,aa=some ⟨b,o,none⟩∧C4 wb b o t.args:=by
          rcases ag with h|h
          · rw[h] at af;simp at af
          · exact h
        obtain ⟨us,aj,ah⟩:=ai.get hx;have aq:Ao wb _:=ae hE E;refine AK (AB (AE (AM (Y (qV (AC (b:=b) (o:=o) (len:=t.args.length) (cap:=ac) (i:=k) (o':=o+k*6) rfl rfl rfl underlying46 BE qO qO) (qV (AU (vs:=us) rfl CI BE ah.len (aj.ext aq)) ?_))))));have hsz:=Re.size_arg hx;refine Au (v:=(.agg us.toArray)) (c:=us.toArray) (n:=6) qD FP rfl BE rfl rfl (by simpa using ah.len) (by simpa using BR.one ah) ?_;intro b5 w5 N5;have F5:=N5.ge E;have O5_b1:=N5.lt B1;replace B1:=N5.keep B1;replace hI:=hst _ _ _ hI N5.ext;replace E:=E.ext N5.ext;have B5:=N5.blk;refine AA (Y (qV (AU (vs:=us) rfl CI BE ah.len (B5.cells qP)) (qM fv rfl (qE rfl (AT (vs:=[(.agg us.toArray),fv]) func93 kQ kQ rfl) (ih x qO s' _ us (by have:=N5.size;omega) (ae hE E) hI ah) ?_))));rintro _ w9 ⟨rfl,C9,hI⟩;replace B1:=C9.keep (fun h=>by have:=(hM _ h).2;omega) B1;replace B5:=C9.keep (fun h=>by have:=(hM _ h).2;omega) B5;replace E:=E.trans C9;have al:t.args.drop k=x::t.args.drop (k+1):=by rw[List.drop_eq_getElem_cons af];rw[List.getElem?_eq_getElem af] at hx;cases hx;rfl
        rw[al,Dk] at ab;refine qV (Cj (b:=(C' F x s').1) rfl) (AA (A3 (b:=!((C' F x s').1)) rfl (fun h2=>?_) (fun h2=>?_)))
        · have ao:=h2;replace h2:=by simpa using h2
          refine Y (qA (.bool false) rfl (AA (AS (Ag (AO (AO (Ag (AO (AV results93 (v:=(.bool false)) rfl ?_)))))))));exact ⟨by rw[ab,if_neg (by simp[h2])],E,by rw[ab,if_neg (by simp[h2])];exact hI⟩
        · have ao:=h2;replace h2:=by simpa using h2
          rw[if_pos (by simpa using h2)] at ab;refine AK (AP (AB (AG (qV (Aq (k:=.i64) (a:=(k:Int)) (b:=1) (c:=(k:Int)+1) rfl rfl (A2 qO)) (qM (I6 ((k:Int)+1)) rfl (AA (AB ?_)))))));exact ⟨t.args.length - (k+1),qO,k+1,(C' F x s').2,Af.out ⟨rfl,rfl,rfl,rfl,trivial⟩,E,B1,qO,(by have:=C9.size;have:=N5.size;omega),hI,ab,rfl⟩
      · have am:k=t.args.length:=qO
        rw[am,List.drop_length] at ab;refine Ak (AR (AR (Ae (AB (Y (qA (.bool true) rfl (AA (AS (AV results93 (v:=(.bool true)) rfl ?_)))))))));exact ⟨by rw[ab];rfl,E,by rw[ab];exact hI⟩
end Go.Proofs
namespace Go.Proofs
open Go Go.Eng
set_option maxRecDepth 100000
def Cu (t:Re):Int:=if t.kind<0∨10<t.kind then 1 else if Ea t=false then 3 else if t.kind=2 then (if A7 t.set≠0 then A7 t.set else if (t.set.length:Int)=0 then 3 else 0)
 else if t.kind=6 then (if t.mn<0∨t.mx<t.mn∨8<t.mx then 1 else 0) else if t.kind=9 then (if t.mn<0∨9<t.mn then 1 else 0) else 0
theorem Vy (U w0:World) (t:Re) (vs:List Value) (ht:BR U t vs) (hE:Ao U w0) :
 CJ prog 127 #[.agg vs.toArray] w0 λv w=>v=.int .i64 (Cu t)∧Ao w0 w:=by
 have ab:=ht;obtain ⟨y,A,N,P,rfl,L,hlen,hargs⟩:=ht.form;refine qR func127 O ntmps127 O (λE=>(Y (BM (v:=(.agg (R6 t y A N P))) (c:=(R6 t y A N P)) qD O O ?_)));intro h w1 N1;replace E:=E.ext N1.ext;have i:=N1.blk;refine qA (I6 0) O (AA (AE (Y (qF h 0 0 O underlying48 O Ab O (qV (AD (v:=(I6 t.kind)) O Aa (i.cell O)) ?_)))));obtain ⟨j,H⟩:∃e,(decide ((t.kind:Int)<0))=e:=⟨_,O⟩;refine qV ((Av (k:=.i64) (a:=t.kind) (b:=0) O O).trans (by rw[H];try rfl)) (qM (.bool j) O (qG (.bool j) (nU j (P6 h 0)) (by cases j<;>first|exact gA|exact gB|exact .inl ⟨O,AN (b:=h) (o:=0) (o':=0) O underlying48 O Ab O⟩) (qG (.bool j) (nU j (I6 t.kind)) (by cases j<;>first|exact gA|exact gB|exact .inl ⟨O,AD (v:=(I6 t.kind)) O Aa (i.cell O)⟩) ?_)));obtain ⟨e3,F⟩:∃e,(decide ((10:Int)<t.kind))=e:=⟨_,O⟩;refine qG (.bool j) (nU j (.bool e3)) (by cases j<;>first|exact gA|exact gB|exact .inl ⟨O,(CH (k:=.i64) (a:=t.kind) (b:=10) O O).trans (by rw[F];try rfl)⟩) ?_;obtain ⟨e4,K⟩:∃e,(j || e3)=e:=⟨_,O⟩;refine qV (Ac (b:=j) (v:=.bool e4) O (by rw[<-K];cases j<;>rfl)) (AA ?_);subst K;subst F;subst H;refine A3 (b:=((decide ((t.kind:Int)<0)) || (decide ((10:Int)<t.kind)))) O (λJ=>?_) (λJ=>?_)
 .have R:=J;simp at J;refine Y (qA (I6 1) O (AA (AS (AO (AV results127 (v:=(.int .i64 1)) O ?_)))));exact ⟨A5 (by unfold Cu;rw[if_pos qO]),E⟩
 .have R:=J;simp at J;refine AK (AB (AE (Y (qV (AU (vs:=[(I6 t.kind),(.slice y t.set.length A),(.slice N t.args.length P),(I6 t.mn),(I6 t.mx),(.bool t.neg)]) O CI BE O (i.cells O)) (qE O (AT (vs:=[(.agg (R6 t y A N P))]) func150 kQ kQ O) (V_ U _ t _ ab) ?_)))));rintro _ w9 ⟨rfl,X9⟩;replace i:=X9.keep i;replace E:=E.ext X9;refine qV (Cj (b:=Ea t) O) (AA (A3 (b:=!(Ea t)) O (λl=>?_) (λl=>?_)))
  .have Q:=l;replace l:=by simpa using l
   refine Y (qA (I6 3) O (AA (AS (AO (AV results127 (v:=(.int .i64 3)) O ?_)))));exact ⟨A5 (by unfold Cu;rw[if_neg qO,if_pos l]),E⟩
  .have Q:=l;replace l:=by simpa using l
   have hN:Cu t=if t.kind=2 then (if A7 t.set≠0 then A7 t.set else if (t.set.length:Int)=0 then 3 else 0) else if t.kind=6 then (if t.mn<0∨t.mx<t.mn∨8<t.mx then 1 else 0) else if t.kind=9 then (if t.mn<0∨9<t.mn then 1 else 0) else 0:=by unfold Cu;rw[if_neg qO,if_neg (by simp[l])]
   rw[hN];refine AK (AB (AE (Y (qF h 0 0 O underlying48 O Ab O (qV (AD (v:=(I6 t.kind)) O Aa (i.cell O)) (AA (AM (Y (qV (As (k:=.i64) (a:=t.kind) (b:=2) O O) (qA (.bool (decide ((t.kind:Int)=2))) O (AA (qC O (λV=>?_) (λV=>?_)))))))))))))
   .rw[if_pos V];refine AE (Y (qF h 0 1 O underlying48 O BW O (qV (AD (v:=(.slice y t.set.length A)) O CC (i.cell O)) (qE O (AT (vs:=[(.slice y t.set.length A)]) func44 kQ kQ O) (KD _ _ t.set ((L.ext hE).ext E)) ?_))));rintro _ w10 ⟨rfl,I⟩;replace i:=I.keep i;replace E:=E.ext I;refine qA (I6 (A7 t.set)) O (AA (Y (qM (I6 (A7 t.set)) O (qV (CO (k:=.i64) (a:=A7 t.set) (b:=0) O O) (AA (qC O (λS=>?_) (λS=>?_)))))))
    .refine Y (qM (I6 (A7 t.set)) O (qA (I6 (A7 t.set)) O (AA (AS (AO (Ag (AO (AV results127 (v:=(.int .i64 (A7 t.set))) O ?_))))))));exact ⟨A5 (by rw[if_pos S]),E⟩
    .rw[if_neg S];refine AK (AB (Y (qF h 0 1 O underlying48 O BW O (qV (AD (v:=(.slice y t.set.length A)) O CC (i.cell O)) (qV (AH (ad:=y) (n:=t.set.length) (cap:=A) underlying37 O) (qV (As (k:=.i64) (a:=(t.set.length:Int)) (b:=0) O O) (AA (qC O (λh4=>?_) (λh4=>?_)))))))))
     .refine Y (qA (I6 3) O (AA (AS (Ag (AO (AV results127 (v:=(.int .i64 3)) O ?_))))));exact ⟨A5 (by rw[if_pos h4]),E⟩
     .refine AK (AP (AB (Y (qA (I6 0) O (AA (AS (AV results127 (v:=(.int .i64 0)) O ?_)))))));exact ⟨A5 (by rw[if_neg h4]),E⟩
   .rw[if_neg V];refine Y (qV (As (k:=.i64) (a:=t.kind) (b:=6) O O) (qA (.bool (decide ((t.kind:Int)=6))) O (AA (qC O (λh6=>?_) (λh6=>?_)))))
    .rw[if_pos h6];refine Y (qF h 0 3 O underlying48 O Ab O (qV (AD (v:=(I6 t.mn)) O Aa (i.cell O)) ?_));obtain ⟨d,s⟩:∃e,(decide ((t.mn:Int)<0))=e:=⟨_,O⟩;refine qV ((Av (k:=.i64) (a:=t.mn) (b:=0) O O).trans (by rw[s];try rfl)) (qM (.bool d) O (qG (.bool d) (nU d (P6 h 3)) (by cases d<;>first|exact gA|exact gB|exact .inl ⟨O,AN (b:=h) (o:=0) (o':=3) O underlying48 O Ab O⟩) (qG (.bool d) (nU d (I6 t.mn)) (by cases d<;>first|exact gA|exact gB|exact .inl ⟨O,AD (v:=(I6 t.mn)) O Aa (i.cell O)⟩) (qG (.bool d) (nU d (P6 h 4)) (by cases d<;>first|exact gA|exact gB|exact .inl ⟨O,AN (b:=h) (o:=0) (o':=4) O underlying48 O Ab O⟩) (qG (.bool d) (nU d (I6 t.mx)) (by cases d<;>first|exact gA|exact gB|exact .inl ⟨O,AD (v:=(I6 t.mx)) O Aa (i.cell O)⟩) ?_)))));obtain ⟨B,r⟩:∃e,(decide ((t.mx:Int)<t.mn))=e:=⟨_,O⟩;refine qG (.bool d) (nU d (.bool B)) (by cases d<;>first|exact gA|exact gB|exact .inl ⟨O,(CH (k:=.i64) (a:=t.mn) (b:=t.mx) O O).trans (by rw[r];try rfl)⟩) ?_;obtain ⟨f,q⟩:∃e,(d || B)=e:=⟨_,O⟩;refine qV (Ac (b:=d) (v:=.bool f) O (by rw[<-q];cases d<;>rfl)) (qM (.bool f) O (qG (.bool f) (nU f (P6 h 4)) (by cases f<;>first|exact gA|exact gB|exact .inl ⟨O,AN (b:=h) (o:=0) (o':=4) O underlying48 O Ab O⟩) (qG (.bool f) (nU f (I6 t.mx)) (by cases f<;>first|exact gA|exact gB|exact .inl ⟨O,AD (v:=(I6 t.mx)) O Aa (i.cell O)⟩) ?_)));obtain ⟨D,p⟩:∃e,(decide ((8:Int)<t.mx))=e:=⟨_,O⟩;refine qG (.bool f) (nU f (.bool D)) (by cases f<;>first|exact gA|exact gB|exact .inl ⟨O,(CH (k:=.i64) (a:=t.mx) (b:=8) O O).trans (by rw[p];try rfl)⟩) ?_;obtain ⟨Z,u⟩:∃e,(f || D)=e:=⟨_,O⟩;refine qV (Ac (b:=f) (v:=.bool Z) O (by rw[<-u];cases f<;>rfl)) (AA ?_);subst u;subst p;subst q;subst r;subst s;refine A3 (b:=(((decide ((t.mn:Int)<0)) || (decide ((t.mx:Int)<t.mn))) || (decide ((8:Int)<t.mx)))) O (λC=>?_) (λC=>?_)
     .have W:=C;simp at C;refine Y (qA (I6 1) O (AA (AS (Ag (AO (AV results127 (v:=(.int .i64 1)) O ?_))))));exact ⟨A5 (by rw[if_pos qO]),E⟩
     .have W:=C;simp at C;refine AK (AP (AB (Y (qA (I6 0) O (AA (AS (AV results127 (v:=(.int .i64 0)) O ?_)))))));exact ⟨A5 (by rw[if_neg qO]),E⟩
    .rw[if_neg h6];refine Y (qV (As (k:=.i64) (a:=t.kind) (b:=9) O O) (qA (.bool (decide ((t.kind:Int)=9))) O (AA (qC O (λX=>?_) (λX=>?_)))))
     .rw[if_pos X];refine Y (qF h 0 3 O underlying48 O Ab O (qV (AD (v:=(I6 t.mn)) O Aa (i.cell O)) ?_));obtain ⟨g,z⟩:∃e,(decide ((t.mn:Int)<0))=e:=⟨_,O⟩;refine qV ((Av (k:=.i64) (a:=t.mn) (b:=0) O O).trans (by rw[z];try rfl)) (qM (.bool g) O (qG (.bool g) (nU g (P6 h 3)) (by cases g<;>first|exact gA|exact gB|exact .inl ⟨O,AN (b:=h) (o:=0) (o':=3) O underlying48 O Ab O⟩) (qG (.bool g) (nU g (I6 t.mn)) (by cases g<;>first|exact gA|exact gB|exact .inl ⟨O,AD (v:=(I6 t.mn)) O Aa (i.cell O)⟩) ?_)));obtain ⟨G,x⟩:∃e,(decide ((9:Int)<t.mn))=e:=⟨_,O⟩;refine qG (.bool g) (nU g (.bool G)) (by cases g<;>first|exact gA|exact gB|exact .inl ⟨O,(CH (k:=.i64) (a:=t.mn) (b:=9) O O).trans (by rw[x];try rfl)⟩) ?_;obtain ⟨T,m⟩:∃e,(g || G)=e:=⟨_,O⟩;refine qV (Ac (b:=g) (v:=.bool T) O (by rw[<-m];cases g<;>rfl)) (AA ?_);subst m;subst x;subst z;refine A3 (b:=((decide ((t.mn:Int)<0)) || (decide ((9:Int)<t.mn)))) O (λM=>?_) (λM=>?_)
      .have ae:=M;simp at M;refine Y (qA (I6 1) O (AA (AS (Ag (AO (AV results127 (v:=(.int .i64 1)) O ?_))))));exact ⟨A5 (by rw[if_pos qO]),E⟩
      .have ae:=M;simp at M;refine AK (AP (AB (Y (qA (I6 0) O (AA (AS (AV results127 (v:=(.int .i64 0)) O ?_)))))));exact ⟨A5 (by rw[if_neg qO]),E⟩
     .rw[if_neg X];refine AK (AP (AB (Y (qA (I6 0) O (AA (AS (AV results127 (v:=(.int .i64 0)) O ?_)))))));exact ⟨O,E⟩
end Go.Proofs
namespace Go.Proofs
open Go Go.Eng
set_option maxRecDepth 100000
def Dn (most:Int):Int×Int->Re->Bool×(Int×Int):=λs t=>
 let n:=IntKind.i64.wrap (s.1+1)
 let e:=if most<n then 2 else Cu t
 (decide (e=0),(n,e))
def Cb (t:Re) (most:Int):Int:=(C' (Dn most) t (0,0)).2.2
theorem Uk (r l:World) (t:Re) (vs:List Value) (D:BR r t vs) (F:Ao r l) (f i g:Nat) (s:Int×Int) (most:Int) (h0:r.heap.size<=i) (h12:i<f) (h13:f<g)
 (a:Az l f #[.int .i64 s.1] 3) (e:Az l i #[.int .i64 most] 3) (d:Az l g #[.int .i64 s.2] 27) :
 CJ prog 126 #[.agg vs.toArray,.pointer (some ⟨f,0,none⟩),.pointer (some ⟨i,0,none⟩),.pointer (some ⟨g,0,none⟩)] l
  λv w=>v=.bool (Dn most s t).1∧Chg (λx=>x=f∨x=g) l w∧Az w f #[.int .i64 (Dn most s t).2.1] 3∧Az w i #[.int .i64 most] 3∧Az w g #[.int .i64 (Dn most s t).2.2] 27:=by
 have z:=D;obtain ⟨B,C,u,y,rfl,hset,hlen,hargs⟩:=D.form;refine F9 func126 O ntmps126 (Jo O) ?_;have E:Chg (λx=>x=f∨x=g) l l:=Chg.refl _ _;refine Y (BM (v:=(.agg (R6 t B C u y))) (c:=(R6 t B C u y)) qD O O ?_);intro b1 w1 k;have O1_b1':=k.lt a;have O1_b2':=k.lt e;have O1_b3':=k.lt d;replace a:=k.keep a;replace e:=k.keep e;replace d:=k.keep d;replace E:=E.ext k.ext;have j:=k.blk;refine qA _ O (AA (AE (Y (qV (AD O Aa (a.cell O)) (qV (Aq (c:=IntKind.i64.wrap (s.1+1)) O O (O)) (BB (b:=f) (o:=0) (c':=#[(I6 (IntKind.i64.wrap (s.1+1)))]) (v:=(I6 (IntKind.i64.wrap (s.1+1)))) O O O Ab a qP O ?_))))));intro w2 n;replace e:=n.keep qO e;replace d:=n.keep qO d;replace j:=n.keep qO j;replace E:=n.step E qQ;replace a:=n.blk;refine AA (Y (qV (AD O Aa (a.cell O)) (qV (AD O Aa (e.cell O)) (qV (CH O O) (AA (qC O (λh=>?_) (λh=>?_)))))))
 .refine AG (BB (b:=g) (o:=0) (c':=#[(I6 2)]) (v:=(I6 2)) O O O NN d qP O ?_);intro w4 p;replace a:=p.keep qO a;replace e:=p.keep qO e;replace j:=p.keep qO j;replace E:=p.step E qQ;replace d:=p.blk;refine AA (AB (Y (qV (AD O Kt (d.cell O)) (qV (As O O) (qA _ O (AA (AS (AV results126 (v:=(.bool false)) O ?_))))))));exact ⟨by simp[Dn,h],E,by simpa[Dn] using a,e,by simpa[Dn,h] using d⟩
 .refine AG (qV (AU (vs:=[(I6 t.kind),(.slice B t.set.length C),(.slice u t.args.length y),(I6 t.mn),(I6 t.mx),(.bool t.neg)]) O CI BE O (j.cells O)) (qE O (AT func127 kQ kQ O) (Vy r _ t _ z (Chg.step F E λx hx A=>by rcases A with A|A<;>omega)) ?_));rintro _ w9 ⟨rfl,m⟩;replace a:=m.keep a;replace e:=m.keep e;replace d:=m.keep d;replace j:=m.keep j;replace E:=E.ext m;refine BB (b:=g) (o:=0) (c':=#[(I6 (Cu t))]) (v:=(I6 (Cu t))) O O O NN d qP O ?_;intro w5 q;replace a:=q.keep qO a;replace e:=q.keep qO e;replace j:=q.keep qO j;replace E:=q.step E qQ;replace d:=q.blk;refine AA (AB (Y (qV (AD O Kt (d.cell O)) (qV (As O O) (qA _ O (AA (AS (AV results126 (v:=(.bool (decide ((Cu t:Int)=0)))) O ?_))))))));exact ⟨by simp[Dn,h],E,by simpa[Dn] using a,e,by simpa[Dn,h] using d⟩
theorem WA (w0:World) (t:Re) (vs:List Value) (ht:BR w0 t vs) (most:Int) :
  CJ prog 90 #[.agg vs.toArray,.int .i64 most] w0 fun v w=>v=.int .i64 (Cb t most)∧Ao w0 w:=by
 have ad:=ht;obtain ⟨sa,sc,aa,ac,rfl,ae,af,ab⟩:=ht.form;refine qR func90 rfl ntmps90 rfl (fun E=>(Y (BM (v:=(.agg (R6 t sa sc aa ac))) (c:=(R6 t sa sc aa ac)) qD rfl rfl ?_)));intro b1 w1 N1;have F1:=N1.ge E;replace E:=E.ext N1.ext;have B1:=N1.blk;refine BM (v:=(I6 most)) (c:=#[(I6 most)]) qD rfl rfl ?_;intro b2 w2 N2;have F2:=N2.ge E;have O2_b1:=N2.lt B1;replace B1:=N2.keep B1;replace E:=E.ext N2.ext;have B2:=N2.blk;refine qA _ rfl (AA (Y (BO (c:=#[(I6 0)]) qD CW rfl ?_)));intro b3 w3 N3;have F3:=N3.ge E;have O3_b1:=N3.lt B1;have O3_b2:=N3.lt B2;replace B1:=N3.keep B1;replace B2:=N3.keep B2;replace E:=E.ext N3.ext;have B3:=N3.blk;refine BO (c:=#[(I6 0)]) qD VG rfl ?_;intro b4 w4 N4;have F4:=N4.ge E;have O4_b1:=N4.lt B1;have O4_b2:=N4.lt B2;have O4_b3:=N4.lt B3;replace B1:=N4.keep B1;replace B2:=N4.keep B2;replace B3:=N4.keep B3;replace E:=E.ext N4.ext;have B4:=N4.blk;refine BB (b:=b3) (o:=0) (c':=#[(I6 0)]) (v:=(I6 0)) rfl rfl rfl Ab B3 qP rfl ?_;intro w5 S5;replace B1:=S5.keep qO B1;replace B2:=S5.keep qO B2;replace B4:=S5.keep qO B4;replace E:=S5.step E qQ;replace B3:=S5.blk;refine BB (b:=b4) (o:=0) (c':=#[(I6 0)]) (v:=(I6 0)) rfl rfl rfl NN B4 qP rfl ?_;intro w6 S6;replace B1:=S6.keep qO B1;replace B2:=S6.keep qO B2;replace B3:=S6.keep qO B3;replace E:=S6.step E qQ;replace B4:=S6.blk;refine AA (Y (qV (AU (vs:=[(I6 t.kind),(.slice sa t.set.length sc),(.slice aa t.args.length ac),(I6 t.mn),(I6 t.mx),(.bool t.neg)]) rfl CI BE rfl (B1.cells rfl)) (qV (CA rfl rfl) ?_)));have hf:∀(s:Int×Int) (w:World) (t:Re) (vs:List Value),b4+1≤w.heap.size→Ao w0 w→(Az w b3 #[.int .i64 s.1] 3∧Az w b2 #[.int .i64 most] 3∧Az w b4 #[.int .i64 s.2] 27)→BR w0 t vs→CV prog (.func (.func 126) #[] #[.pointer (some ⟨b3,0,none⟩),.pointer (some ⟨b2,0,none⟩),.pointer (some ⟨b4,0,none⟩)]) #[.agg vs.toArray] w fun v w'=>v=.bool (Dn most s t).1∧Chg (fun x=>x=b3∨x=b4) w w'∧(Az w' b3 #[.int .i64 (Dn most s t).2.1] 3∧Az w' b2 #[.int .i64 most] 3∧Az w' b4 #[.int .i64 (Dn most s t).2.2] 27):=fun s w t vs _ hE hI ht=>CV.mk (first:=#[]) (cap:=#[.pointer (some ⟨b3,0,none⟩),.pointer (some ⟨b2,0,none⟩),.pointer (some ⟨b4,0,none⟩)]) (args:=#[.agg vs.toArray]) func126 kQ kQ rfl (Uk w0 w t vs ht hE b3 b2 b4 s most qO qO qO hI.1 hI.2.1 hI.2.2);refine qE rfl (AT func93 kQ kQ rfl) (Rc (Dn most) (fun s w=>Az w b3 #[.int .i64 s.1] 3∧Az w b2 #[.int .i64 most] 3∧Az w b4 #[.int .i64 s.2] 27) (fun x=>x=b3∨x=b4) (b4+1) _ w0 (fun b hb=>qO) (fun s w w' hI e=>⟨e.keep hI.1,e.keep hI.2.1,e.keep hI.2.2⟩) hf t.size t (Nat.le_refl _) (0,0) _ _ (by have:=B4.lt;omega) E ⟨B3,B2,B4⟩ ad) ?_;rintro _ w9 ⟨rfl,C9,B3',B2',B4'⟩;replace B1:=C9.keep qO B1;replace E:=E.step C9 (by intro x hx hm;omega);refine AA (Y (qV (AD rfl Kt (B4'.cell rfl)) (qA _ rfl (AA (AS (AV results90 (v:=(.int .i64 ((C' (Dn most) t (0,0)).2.2))) rfl ?_))))));exact ⟨rfl,E⟩
theorem QT (f:World) (t:Re) (vs:List Value) (i:BR f t vs) :
 CJ prog 50 #[.agg vs.toArray] f λv w=>v=.int .i64 (Cb t 40)∧Ao f w:=by
 have b:=i;obtain ⟨e,d,a,h,rfl,hset,hlen,hargs⟩:=i.form;refine qR func50 O ntmps50 O (λE=>(Y (BM (v:=(.agg (R6 t e d a h))) (c:=(R6 t e d a h)) qD O O ?_)));intro b1 w1 k;replace E:=E.ext k.ext;have g:=k.blk;refine qA _ O (AA (Y (qV (AU (vs:=[(I6 t.kind),(.slice e t.set.length d),(.slice a t.args.length h),(I6 t.mn),(I6 t.mx),(.bool t.neg)]) O CI BE O (g.cells O)) (qE O (AT func90 kQ kQ O) (WA _ t _ (BR.ext E t b) 40) ?_))));rintro _ w9 ⟨rfl,j⟩;replace g:=j.keep g;replace E:=E.ext j;refine qA _ O (AA (AS (AV results50 (v:=(.int .i64 (Cb t 40))) O ?_)));exact ⟨O,E⟩
end Go.Proofs
namespace Go.Proofs
open Go Go.Eng
set_option maxRecDepth 100000
mutual
def Hr:Re->Prop
  | .mk k set args mn mx ng=>Cu (.mk k set args mn mx ng)=0∧Ga args
def Ga:List Re->Prop
  | []=>True
  | t::ts=>Hr t∧Ga ts
end
theorem Qu {ts:List Re} (h:Ga ts) {i:Nat} {x:Re} (a:ts[i]?=some x):Hr x:=by
 induction ts generalizing i with
 | nil=>simp at a
 | cons t ts ih=>
  simp only[Ga] at h;cases i with
  | zero=>simp at a;subst a;exact h.1
  | succ i=>exact ih h.2 (by simpa using a)
theorem He {t:Re} (h:Hr t):Cu t=0:=by cases t;simp only[Hr] at h;exact h.1
theorem JA {t:Re} (h:Hr t):Ga t.args:=by cases t;simp only[Hr] at h;exact h.2
theorem Qv {t:Re} (h:Hr t):0<=t.kind∧t.kind<=10∧Ea t=true:=by
 have:=He h;unfold Cu at this;split at this
 .omega
 .rename_i hk
  split at this
  .omega
  .rename_i a;exact ⟨qO,qO,by simpa using a⟩
theorem OQ (t:Re):t.args.length<t.size:=by
 rw[Re.size_eq];have:∀ts:List Re,ts.length<=Re.sizes ts:=by
  intro ts
  induction ts with
  | nil=>simp
  | cons x r ih=>have:=x.size_pos;simp[Re.sizes];omega
 have:=this t.args;omega
theorem Is {d:World} {c:Option Addr} {ts:List Re} (h:ts=[]∨∃b o,c=some ⟨b,o,none⟩∧C4 d b o ts) (a:0<ts.length):∃b o,c=some ⟨b,o,none⟩∧C4 d b o ts:=by
 rcases h with h|h
 .rw[h] at a;simp at a
 .exact h
end Go.Proofs
namespace Go.Proofs
open Go Go.Eng
set_option maxRecDepth 100000
theorem Mr {most:Int} {n e:Int} (t:Re) (h0:0<=n) (h1:n<=1000000):Dn most (n,e) t=(decide ((if most<n+1 then 2 else Cu t)=0),(n+1,if most<n+1 then 2 else Cu t)):=by
 simp only[Dn];rw[A2 qO]
mutual
theorem Od {most:Int} (c:most<=1000000):∀(t:Re) (n e:Int),0<=n->n+t.size<=most->Hr t->C' (Dn most) t (n,e)=(true,(n+t.size,0))
 | .mk k set args mn mx ng,n,e,h0,h1,hok=>by
  simp only[Re.size] at h1⊢;rw[FQ,Mr _ h0 qO];have d:=He hok;have a:¬most<n+1:=qO
  simp only[if_neg a,d,decide_true,if_true,Re.args];have b:=JA hok;simp only[Re.args] at b;rw[L_ c args (n+1) 0 qO qO b rfl];simp;omega
theorem L_ {most:Int} (a:most<=1000000):∀(ts:List Re) (n e:Int),0<=n->n+Re.sizes ts<=most->Ga ts->e=0->Cy (Dn most) ts (n,e)=(true,(n+Re.sizes ts,0))
 | [],n,e,_,_,_,he=>by simp[Cy,Re.sizes,he]
 | t::ts,n,e,h0,h1,hok,he=>by
  simp only[Re.sizes] at h1⊢;simp only[Ga] at hok;rw[Dk,Od a t n e h0 qO hok.1];simp only[if_true];rw[L_ a ts _ _ qO qO hok.2 rfl];simp;omega
end
mutual
theorem QK {most:Int} (g:most<=1000000):∀(t:Re) (n e:Int),0<=n->n<=most->(C' (Dn most) t (n,e)).1=true->Hr t∧n+t.size<=most∧(C' (Dn most) t (n,e)).2=(n+t.size,0)
 | .mk k set args mn mx ng,n,e,h0,h1,h=>by
  rw[FQ,Mr _ h0 qO] at h⊢;by_cases f:(if most<n+1 then 2 else Cu (.mk k set args mn mx ng))=0
  .have d:¬most<n+1:=by intro i;rw[if_pos i] at f;omega
   rw[if_neg d] at f;simp only[if_neg d,f,decide_true,if_true,Re.args] at h⊢;obtain ⟨a,b,c⟩:=Oe g args (n+1) 0 qO qO h O;refine ⟨by simp only[Hr];exact ⟨f,a⟩,by simp only[Re.size];omega,by rw[c];simp only[Re.size];simp;omega⟩
  .simp[f] at h
theorem Oe {most:Int} (f:most<=1000000):∀(ts:List Re) (n e:Int),0<=n->n<=most->(Cy (Dn most) ts (n,e)).1=true->e=0->Ga ts∧n+Re.sizes ts<=most∧(Cy (Dn most) ts (n,e)).2=(n+Re.sizes ts,0)
 | [],n,e,_,h1,_,he=>by simp[Cy,Re.sizes,Ga,he];omega
 | t::ts,n,e,h0,h1,h,he=>by
  rw[Dk] at h⊢;by_cases d:(C' (Dn most) t (n,e)).1=true
  .rw[if_pos d] at h⊢;obtain ⟨a,b,c⟩:=QK f t n e h0 h1 d;rw[c] at h⊢;obtain ⟨a',b',c'⟩:=Oe f ts _ _ qO b h O;exact ⟨by simp only[Ga];exact ⟨a,a'⟩,by simp only[Re.sizes];omega,by rw[c'];simp only[Re.sizes];simp;omega⟩
  .rw[if_neg d] at h;simp at h
end
mutual
theorem MA {most:Int}:∀(t:Re) (s:Int×Int),(C' (Dn most) t s).1=decide ((C' (Dn most) t s).2.2=0)
 | .mk k set args mn mx ng,s=>by
  rw[FQ];by_cases a:(Dn most s (.mk k set args mn mx ng)).1=true
  .rw[if_pos a];exact Ku args _ (by simpa[Dn] using a)
  .rw[if_neg a];have b:(Dn most s (.mk k set args mn mx ng)).1=false:=by simpa using a
   simp only[Dn] at b⊢;exact b.symm
theorem Ku {most:Int}:∀(ts:List Re) (s:Int×Int),s.2=0->(Cy (Dn most) ts s).1=decide ((Cy (Dn most) ts s).2.2=0)
 | [],s,h=>by simp[Cy,h]
 | t::ts,s,h=>by
  rw[Dk];have:=MA (most:=most) t s;by_cases a:(C' (Dn most) t s).1=true
  .rw[if_pos a];rw[a] at this;exact Ku ts _ (by simpa using this.symm)
  .rw[if_neg a];have b:(C' (Dn most) t s).1=false:=by simpa using a
   rw[b] at this;exact this
end
theorem FY {t:Re} {most:Int} (e:0<=most) (c:most<=1000000):Cb t most=0↔Hr t∧(t.size:Int)<=most:=by
 unfold Cb;constructor
 .intro h;have d:=MA (most:=most) t (0,0);rw[h] at d;obtain ⟨a,b,_⟩:=QK c t 0 0 (Int.le_refl 0) e (by simpa using d);exact ⟨a,qO⟩
 .rintro ⟨a,b⟩;rw[Od c t 0 0 (Int.le_refl 0) qO a]
end Go.Proofs
namespace Go.Proofs
open Go Go.Eng
abbrev Wl (s:Re):Re:=.mk 5 [] [s] 0 0 false
abbrev Fl:Re:=.mk 1 [] [] 0 0 false
abbrev Dl:Re:=.mk 0 [] [] 0 0 false
def Txt (text:List Int):Prop:=text.length<=24∧∀x∈text,R5 x=true
end Go.Proofs
namespace Go.Proofs
open Go Go.Eng
mutual
def R4:Re->Re->Bool
  | .mk k s a m x g,.mk k' s' a' m' x' g'=>decide (k=k') && decide (s=s') && decide (m=m') && decide (x=x') && decide (g=g') && R3 a a'
def R3:List Re->List Re->Bool
  | [],[]=>true
  | t::ts,u::us=>R4 t u && R3 ts us
  | _,_=>false
end
def QG (k:Int) (l:List Re):List Re:=l.flatMap λx=>if x.kind=k then x.args else [x]
def SS:List Re->List Re->List Re
  | out,[]=>out
  | out,x::l=>if (out.any λy=>R4 x y)=true then SS out l else SS (out++[x]) l
def W_ (k:Int) (l:List Re):Re:=
  let l1:=QG k l
  let l2:=if k=3 then l1.filter λx=>!decide (x.kind=1) else if k=4 then l1.filter λx=>!decide (x.kind=0) else l1
  if k≠4∧(l2.any λx=>decide (x.kind=0))=true then Dl
  else
    match (if k=3 then l2 else SS [] l2) with
    | [x]=>x
    | []=>if k=3 then Fl else Dl
    | out=>.mk k [] out 0 0 false
def Wy (k:Int) (set:List (Int×Int)) (a:List Re) (mn mx:Int) (ng:Bool):Re:=
  if k=3∨k=4∨k=7 then W_ k a
  else if k=5∨k=6 then
    match a with
    | x::_=>
      if x.kind=1∨(k=6∧mx=0) then Fl
      else if x.kind=0∧(k=5∨mn=0) then Fl
      else if x.kind=0 then Dl
      else if x.kind=5∨(k=6∧mn=1∧mx=1) then x
      else .mk k set a mn mx ng
    | []=>.mk k set a mn mx ng
  else if k=8 then
    match a with
    | x::_=>if x.kind=8 then x.args.headD Dl else .mk k set a mn mx ng
    | []=>.mk k set a mn mx ng
  else if k=10 then
    match a with
    | x::_=>
      if (x.kind=1∧ng=true)∨(x.kind=0∧ng=false) then Dl
      else if x.kind=1∨x.kind=0 then Fl
      else .mk k set a mn mx ng
    | []=>.mk k set a mn mx ng
  else .mk k set a mn mx ng
def Xr (k:Int):Prop:=k=3∨k=4∨k=7
mutual
def Nf:Re->Prop
  | .mk k set args mn mx ng=>Xv args∧(Xr k->set=[]∧mn=0∧mx=0∧ng=false∧2<=args.length∧(∀x∈args,x.kind≠k)∧(k=3->∀x∈args,x.kind≠1)∧(∀x∈args,x.kind≠0)∧(k≠3->args.Nodup))∧
      (¬Xr k->Wy k set args mn mx ng=.mk k set args mn mx ng)
def Xv:List Re->Prop
  | []=>True
  | t::ts=>Nf t∧Xv ts
end
end Go.Proofs
namespace Go.Proofs
open Go Go.Eng
set_option maxRecDepth 100000
mutual
def Dh (ks:List Int):Re->Bool
  | .mk k _ args _ _ _=>ks.contains k || H4 ks args
def H4 (ks:List Int):List Re->Bool
  | []=>false
  | t::ts=>Dh ks t || H4 ks ts
end
def J4 (ks:List Int):Unit->Re->Bool×Unit:=λ_ t=>(!ks.contains t.kind,())
mutual
theorem NF (a:List Int):∀(t:Re),(C' (J4 a) t ()).1 = !Dh a t
 | .mk k set args mn mx ng=>by
  have h:=LW a args;rw[FQ];split
  .rename_i b
   have b:a.contains k=false:=by simpa only[J4,Re.kind,Bool.not_eq_true'] using b
   show (Cy (J4 a) args ()).1=_;rw[h];simp only[Dh,b,Bool.false_or]
  .rename_i b
   have b:a.contains k=true:=by
    cases hc:a.contains k with
    | true=>rfl
    | false=>exact absurd (show (J4 a () (.mk k set args mn mx ng)).1=true by simp only[J4,Re.kind,hc,Bool.not_false]) b
   simp only[Dh,b,Bool.true_or,Bool.not_true]
theorem LW (a:List Int):∀(ts:List Re),(Cy (J4 a) ts ()).1 = !H4 a ts
 | []=>rfl
 | t::ts=>by
  have b:=NF a t;have h:=LW a ts;rw[Dk];split
  .rename_i c
   rw[c] at b;have d:Dh a t=false:=by simpa using b.symm
   show (Cy (J4 a) ts ()).1=_;rw[h];simp only[H4,d,Bool.false_or]
  .rename_i c
   have d:Dh a t=true:=by
    cases hc:Dh a t with
    | true=>rfl
    | false=>rw[hc] at b;exact absurd b c
   simp only[H4,d,Bool.true_or,Bool.not_true]
end
theorem T5 (w0:World) (t:Re) (vs:List Value) (ks:List Int) (v:Value) (b:Nat) (ht:BR w0 t vs) (hB:Az w0 b #[v] 22) (hks:CF w0 v ks) :
 CJ prog 94 #[.agg vs.toArray,.pointer (some ⟨b,0,none⟩)] w0 λr w=>r=.bool (!ks.contains t.kind)∧Ao w0 w:=by
 obtain ⟨sa,sc,aa,ac,rfl,_,_,_⟩:=ht.form;refine qR func94 O ntmps94 O (λE=>(Y (BM (v:=(.agg (R6 t sa sc aa ac))) (c:=(R6 t sa sc aa ac)) qD O O ?_)));intro b1 w1 N1;replace hB:=N1.keep hB;replace E:=E.ext N1.ext;have B1:=N1.blk;refine qA _ O (AA (Y (qV (AD O BX (hB.cell O)) (qF b1 0 0 O underlying48 O Ab O (qV (AD O Aa (B1.cell O)) (qE O (AT func95 kQ kQ O) (V7 _ v t.kind ks (hks.ext E)) ?_))))));rintro _ w9 ⟨rfl,X9⟩;replace hB:=X9.keep hB;replace B1:=X9.keep B1;replace E:=E.ext X9;refine qV (Cj O) (qA _ O (AA (AS (AV results94 (v:=(.bool (!(ks.contains t.kind)))) O ?_))));exact ⟨O,E⟩
theorem Rh (n:World) (t:Re) (vs:List Value) (a:List Int) (v:Value) (l:BR n t vs) (f:CF n v a) :
 CJ prog 52 #[.agg vs.toArray,v] n λr w=>r=.bool (Dh a t)∧Ao n w:=by
 have x:=l;obtain ⟨z,A,p,u,rfl,_,_,_⟩:=l.form;obtain ⟨g,i,rfl⟩:=BL.form f;simp only[List.length_map] at f⊢;refine qR func52 O ntmps52 O (λE=>(Y (BM (v:=(.agg (R6 t z A p u))) (c:=(R6 t z A p u)) qD O O ?_)));intro br wr C;replace E:=E.ext C.ext;have j:=C.blk;refine BM (v:=(.slice g a.length i)) (c:=#[(.slice g a.length i)]) qD O O ?_;intro d o q;replace j:=q.keep j;replace E:=E.ext q.ext;have k:=q.blk;refine qA _ O (AA (Y (qV (AU (vs:=[(I6 t.kind),(.slice z t.set.length A),(.slice p t.args.length u),(I6 t.mn),(I6 t.mx),(.bool t.neg)]) O CI BE O (j.cells O)) (qV (CA O O) ?_))));have D:∀(s:Unit) (w:World) (t:Re) (vs:List Value),d+1<=w.heap.size->Ao o w->Az w d #[.slice g a.length i] 22->BR o t vs->CV prog (.func (.func 94) #[] #[.pointer (some ⟨d,0,none⟩)]) #[.agg vs.toArray] w λr w'=>r=.bool (J4 a s t).1∧Chg AZ w w'∧Az w' d #[.slice g a.length i] 22:=λs w t vs _ B m l=>CV.mk (first:=#[]) (cap:=#[.pointer (some ⟨d,0,none⟩)]) func94 kQ kQ O ((T5 w t vs a (.slice g a.length i) d (BR.ext B t l) m ((f.ext E).ext B)).mono λr w' h=>⟨h.1,h.2,Ao.keep h.2 m⟩);refine qE O (AT func93 kQ kQ O) ((Rc (J4 a) (λ_ w=>Az w d #[.slice g a.length i] 22) AZ (d+1) _ o (λb hb=>hb.elim) (λs w w' m e=>e.keep m) D t.size t (Nat.le_refl _) () _ _ (by have:=k.lt;omega) (Ao.refl _) k (BR.ext E t x)).mono (R':=λr w=>r=.bool (C' (J4 a) t ()).1∧Ao o w) (λr w h=>⟨h.1,h.2.1⟩)) ?_;rintro _ w9 ⟨rfl,y⟩;replace j:=y.keep j;replace k:=y.keep k;replace E:=E.ext y;refine qV (Cj O) (qA _ O (AA (AS (AV results52 (v:=(.bool (!((C' (J4 a) t ()).1)))) O ?_))));exact ⟨CG (by rw[NF];simp),E⟩
structure NodeI (t:Re):Prop where
 k:0<=t.kind∧t.kind<=10
 two:t.kind=3∨t.kind=4∨t.kind=7->2<=t.args.length
 one:t.kind=5∨t.kind=6∨t.kind=8∨t.kind=9∨t.kind=10->t.args.length=1
 rep:t.kind=6->0<=t.mn∧t.mn<=t.mx∧t.mx<=8
 grp:t.kind=9->0<=t.mn∧t.mn<=9
 sett:t.kind=2->t.set≠[]
theorem OJ {t:Re} (h:Cu t=0):NodeI t:=by
 unfold Cu at h;split at h
 .cases h
 rename_i h1
 split at h
 .cases h
 rename_i d
 have c:Ea t=true:=by simpa using d
 unfold Ea at c;simp only[Bool.and_eq_true] at c;have b:=c.1.1.1.1;unfold Md at b;refine ⟨qO,λa=>?_,λa=>?_,λa=>?_,λa=>?_,λa=>?_⟩
 .rw[if_pos a] at b;have:=of_decide_eq_true b;omega
 .rw[if_neg qO,if_pos a] at b;have:=of_decide_eq_true b;omega
 .rw[if_neg qO,if_pos a] at h;split at h
  .cases h
  .omega
 .rw[if_neg qO,if_neg qO,if_pos a] at h;split at h
  .cases h
  .omega
 .rw[if_pos a] at h;intro e;rw[e] at h;simp[A7,Df] at h
end Go.Proofs
namespace Go.Proofs
open Go Go.Eng
set_option maxRecDepth 100000
abbrev Lg:=List Int->Prop
end Go.Proofs
namespace Go.Proofs
open Go Go.Eng
set_option maxRecDepth 100000
def IR (d:Dfa):Int->List Nat->Int
  | s,[]=>s
  | s,x::w=>IR d (BN d s x) w
theorem Di (d:Dfa):∀(w:List Nat) (s:Int),beh d s w=EX d (IR d s w)
 | [],_=>rfl
 | x::w,s=>by simp only[beh,IR];exact Di d w _
theorem Pv (d:Dfa):∀(u v:List Nat) (s:Int),IR d s (u++v)=IR d (IR d s u) v
 | [],_,_=>rfl
 | x::u,v,s=>by simp only[List.cons_append,IR];exact Pv d u v _
theorem EP (d:Dfa) (u:List Nat) (x:Nat) (s:Int):IR d s (u++[x])=BN d (IR d s u) x:=by rw[Pv];rfl
theorem FF {n c:Nat} {d:Dfa} (ok:OkD n c d):∀(w:List Nat) {s:Int},-1<=s∧s<n->-1<=IR d s w∧IR d s w<n
 | [],_,h=>h
 | _::w,_,_=>FF ok w ok.to
def DF (M:Nat->Bool) (i:Nat):Nat:=(M (8*i)).toNat+2*(M (8*i+1)).toNat+4*(M (8*i+2)).toNat+8*(M (8*i+3)).toNat+16*(M (8*i+4)).toNat+32*(M (8*i+5)).toNat+64*(M (8*i+6)).toNat+128*(M (8*i+7)).toNat
def GC (n:Nat) (M:Nat->Bool):Nat->Bool:=λs=>decide (s<n) && M s
def GN (n:Nat) (M:Nat->Bool):List Int:=(List.range ((n+7) / 8)).map λi=>((DF (GC n M) i:Nat):Int)
theorem ET (n:Nat) (M:Nat->Bool):(GN n M).length=(n+7) / 8:=by simp[GN]
theorem Pf {n:Nat} {M M':Nat->Bool} (h:∀s,s<n->M s=M' s):GN n M=GN n M':=by
 have:GC n M=GC n M':=funext λs=>by
  unfold GC;by_cases hs:s<n
  .rw[h s hs]
  .simp[hs]
 unfold GN;rw[this]
theorem M5 (M:Nat->Bool) (i:Nat):DF M i<256:=by
 unfold DF;have h:∀b:Bool,b.toNat<=1:=λb=>by cases b<;>decide
 have:=h (M (8*i));have:=h (M (8*i+1));have:=h (M (8*i+2));have:=h (M (8*i+3));have:=h (M (8*i+4));have:=h (M (8*i+5));have:=h (M (8*i+6));have:=h (M (8*i+7));omega
theorem RI:∀(d a i g f e j c:Bool),(∀v,v=d.toNat+2*a.toNat+4*i.toNat+8*g.toNat+16*f.toNat+32*e.toNat+64*j.toNat+128*c.toNat->
 v / 1 % 2=d.toNat∧v / 2 % 2=a.toNat∧v / 4 % 2=i.toNat∧v / 8 % 2=g.toNat∧v / 16 % 2=f.toNat∧v / 32 % 2=e.toNat∧v / 64 % 2=j.toNat∧v / 128 % 2=c.toNat):=by
 intro d a i g f e j c v hv;have h:∀b:Bool,b.toNat<=1:=λb=>by cases b<;>decide
 have:=h d;have:=h a;have:=h i;have:=h g;have:=h f;have:=h e;have:=h j;have:=h c;generalize d.toNat=c0 at *;generalize a.toNat=c1 at *;generalize i.toNat=c2 at *;generalize g.toNat=c3 at *;generalize f.toNat=c4 at *;generalize e.toNat=c5 at *;generalize j.toNat=c6 at *;generalize c.toNat=c7 at *;omega
theorem Ol (M:Nat->Bool) (i j:Nat) (hj:j<8):DF M i / 2 ^ j % 2=(M (8*i+j)).toNat:=by
 obtain ⟨h0,h1,h2,h3,h4,h5,h6,h7⟩:=RI _ _ _ _ _ _ _ _ (DF M i) O;have:j=0∨j=1∨j=2∨j=3∨j=4∨j=5∨j=6∨j=7:=qO
 rcases this with rfl|rfl|rfl|rfl|rfl|rfl|rfl|rfl<;>assumption
theorem Td (M:Nat->Bool) (i j:Nat) (hj:j<8):DF (λs=>M s || decide (s=8*i+j)) i=DF M i+(if M (8*i+j)=true then 0 else 2 ^ j):=by
 have:j=0∨j=1∨j=2∨j=3∨j=4∨j=5∨j=6∨j=7:=qO
 unfold DF;rcases this with rfl|rfl|rfl|rfl|rfl|rfl|rfl|rfl
 .rw[Nat.add_zero];simp;cases M (8*i)<;>simp<;>omega
 .simp;cases M (8*i+1)<;>simp<;>omega
 .simp;cases M (8*i+2)<;>simp<;>omega
 .simp;cases M (8*i+3)<;>simp<;>omega
 .simp;cases M (8*i+4)<;>simp<;>omega
 .simp;cases M (8*i+5)<;>simp<;>omega
 .simp;cases M (8*i+6)<;>simp<;>omega
 .simp;cases M (8*i+7)<;>simp<;>omega
theorem Pe {M:Nat->Bool} {i k j:Nat} (hj:j<8) (hk:k≠i):DF (λs=>M s || decide (s=8*i+j)) k=DF M k:=by
 unfold DF;have h:∀d,d<8->(M (8*k+d) || decide (8*k+d=8*i+j))=M (8*k+d):=λd hd=>by
  rw[decide_eq_false (show ¬8*k+d=8*i+j by omega),Bool.or_false]
 dsimp only;have a:=h 0 qD;rw[Nat.add_zero] at a;rw[a,h 1 qD,h 2 qD,h 3 qD,h 4 qD,h 5 qD,h 6 qD,h 7 qD]
def Cn (n:Nat) (M:Nat->Bool):ByteArray:=strOfNums (GN n M)
def Eh (k:ByteArray) (s:Nat):Bool:=decide ((k.data.toList.getD (s / 8) 0).toNat / 2 ^ (s % 8) % 2=1)
theorem FW {n:Nat} (M:Nat->Bool) {s:Nat} (hs:s<n):Eh (Cn n M) s=M s:=by
 have c:=M5 (GC n M) (s / 8);have b:(UInt8.ofNat (DF (GC n M) (s / 8))).toNat=DF (GC n M) (s / 8):=by
  rw[UInt8.toNat_ofNat'];exact Nat.mod_eq_of_lt c
 have e:(Cn n M).data.toList.getD (s / 8) 0=UInt8.ofNat (DF (GC n M) (s / 8)):=by
  unfold Cn;rw[strOfNums_data,List.getD_eq_getElem?_getD,List.getElem?_map];unfold GN;rw[List.getElem?_map,List.getElem?_range qO];simp
 have a:((Cn n M).data.toList.getD (s / 8) 0).toNat / 2 ^ (s % 8) % 2=(M s).toNat:=by
  rw[e,b,Ol _ _ _ (Nat.mod_lt _ qD),Nat.div_add_mod];unfold GC;rw[decide_eq_true hs,Bool.true_and]
 unfold Eh;cases hM:M s
 .exact decide_eq_false (by rw[a,hM];decide)
 .exact decide_eq_true (by rw[a,hM];decide)
theorem Dc (n:Nat) (M:Nat->Bool):(Cn n M).size=(n+7) / 8:=by unfold Cn;rw[strOfNums_size,ET]
theorem Kg {n:Nat} {M M':Nat->Bool} (h:∀s,s<n->M s=M' s):Cn n M=Cn n M':=by unfold Cn;rw[Pf h]
theorem Kf {n:Nat} (M:Nat->Bool):Cn n (Eh (Cn n M))=Cn n M:=Kg λ_ hs=>FW M hs
def GB (b:Dfa) (m:Nat) (k:ByteArray) (x:Nat):Nat->Bool:=λq=>(List.range m).any λp=>Eh k p && decide (BN b ((p:Nat):Int) x=((q:Nat):Int))
def D0 (b:Dfa) (m:Nat) (k:ByteArray) (x:Nat):Bool:=(List.range m).any λp=>Eh k p && decide (0<=BN b ((p:Nat):Int) x)
def HS (b:Dfa) (m:Nat) (k:ByteArray):Bool:=(List.range m).any λp=>decide (0<=EX b ((p:Nat):Int)) && Eh k p
def Il (b:Bool):Int:=if b=true then 0 else -1
theorem Ie {b:Dfa} {m:Nat} {k:ByteArray} {x q:Nat}:GB b m k x q=true↔∃p,p<m∧Eh k p=true∧BN b ((p:Nat):Int) x=((q:Nat):Int):=by
 unfold GB;simp only[List.any_eq_true,List.mem_range,Bool.and_eq_true,decide_eq_true_eq]
theorem Qg {b:Dfa} {m:Nat} {k:ByteArray} {x:Nat}:D0 b m k x=true↔∃p,p<m∧Eh k p=true∧0<=BN b ((p:Nat):Int) x:=by
 unfold D0;simp only[List.any_eq_true,List.mem_range,Bool.and_eq_true,decide_eq_true_eq]
theorem Iy {b:Dfa} {m:Nat} {k:ByteArray}:HS b m k=true↔∃p,p<m∧0<=EX b ((p:Nat):Int)∧Eh k p=true:=by
 unfold HS;simp only[List.any_eq_true,List.mem_range,Bool.and_eq_true,decide_eq_true_eq]
theorem Lc {b:Dfa} {n c m:Nat} (ok:OkD m c b) {k:ByteArray} {x:Nat} (e:n=m):D0 b m k x=true↔∃q,q<n∧GB b m k x q=true:=by
 subst e;rw[Qg];constructor
 .rintro ⟨p,f,a,d⟩;have:=ok.to (s:=((p:Nat):Int)) (x:=x);exact ⟨(BN b ((p:Nat):Int) x).toNat,qO,Ie.2 ⟨p,f,a,qO⟩⟩
 .rintro ⟨q,_,a⟩;obtain ⟨p,d,g,h5⟩:=Ie.1 a;exact ⟨p,d,g,qO⟩
section
variable (a b : Dfa) (m : Nat)
def Fi (s:Int) (M:Nat->Bool):Nat->Bool:=λq=>M q || (decide (0<=EX a s) && decide (((q:Nat):Int)=b.start))
def FU:Int×ByteArray:=(a.start,Cn m (Fi a b a.start λ_=>false))
def Ee (p:Int×ByteArray) (x:Nat):Option (Int×ByteArray):=if 0<=BN a p.1 x∨D0 b m p.2 x=true then some (BN a p.1 x,Cn m (Fi a b (BN a p.1 x) (GB b m p.2 x))) else none
def G' (p:Int×ByteArray):Int:=Il (HS b m p.2)
end
def VE (f g:List Nat->Int) (w:List Nat):Prop:=∃u v,w=u++v∧0<=f u∧0<=g v
section
variable {a b : Dfa} {n m c : Nat}
def Xq (a b:Dfa) (m:Nat) (w:List Nat) (k:ByteArray):Prop:=∀q:Nat,q<m->(Eh k q=true↔∃u v,w=u++v∧0<=beh a a.start u∧IR b b.start v=((q:Nat):Int))
theorem Pz (i:OkD m c b) (w:List Nat):match FH (Ee a b m) (FU a b m) w with
 | some p=>p.1=IR a a.start w∧Xq a b m w p.2∧p.2=Cn m (Eh p.2)
 | none=>IR a a.start w<0∧∀u v,w=u++v->0<=beh a a.start u->IR b b.start v<0:=by
 obtain ⟨j,D⟩:∃j,j=w.length:=⟨_,O⟩
 induction j generalizing w with
 | zero=>
  have:w=[]:=List.eq_nil_of_length_eq_zero D.symm;subst this;refine ⟨O,λq z=>?_,(Kf _).symm⟩;show Eh (Cn m _) q=true↔_;rw[FW _ z];simp only[Fi,Bool.false_or,Bool.and_eq_true,decide_eq_true_eq];constructor
  .rintro ⟨o,l⟩;exact ⟨[],[],O,by simpa[beh] using o,l.symm⟩
  .rintro ⟨u,v,o,l,t⟩;obtain ⟨rfl,rfl⟩:=List.append_eq_nil_iff.1 o.symm;exact ⟨by simpa[beh] using l,t.symm⟩
 | succ j ih=>
  rcases List.eq_nil_or_concat w with rfl|⟨w,x,rfl⟩
  .simp at D
  rw[List.concat_eq_append] at D⊢;have o:=ih w (by simpa using D);rw[HZ];cases hr:FH (Ee a b m) (FU a b m) w with
  | none=>
   rw[hr] at o;obtain ⟨l,t⟩:=o;simp only[Option.bind_none];refine ⟨by rw[EP,En l];decide,λu v e n=>?_⟩;rcases List.eq_nil_or_concat v with rfl|⟨v,y,rfl⟩
   .rw[List.append_nil] at e;subst e;rw[Di,EP,En l] at n;simp[EX] at n
   .rw[List.concat_eq_append] at e⊢;rw[<-List.append_assoc] at e;obtain ⟨B,E⟩:=List.append_inj' e O;rw[EP,En (t u v B n)];decide
  | some p=>
   rw[hr] at o;obtain ⟨l,t,h4⟩:=o;simp only[Option.bind_some];have r:∀q:Nat,q<m->(GB b m p.2 x q=true↔∃u v,w=u++v∧0<=beh a a.start u∧IR b b.start (v++[x])=((q:Nat):Int)):=λq z=>by
    rw[Ie];constructor
    .rintro ⟨s,C,A,I⟩;obtain ⟨u,v,f,g,d⟩:=(t s C).1 A;exact ⟨u,v,f,g,by rw[EP,d,I]⟩
    .rintro ⟨u,v,f,g,d⟩;rw[EP] at d;have G:=FF i v (s:=b.start) (by have:=i.st;omega);have F:0<=IR b b.start v:=by
      apply Classical.byContradiction;intro h;rw[En qO] at d;omega
     obtain ⟨s,hs⟩:=Int.eq_ofNat_of_zero_le F;exact ⟨s,qO,(t s qO).2 ⟨u,v,f,g,hs⟩,by rw[<-hs];exact d⟩
   have H:D0 b m p.2 x=true↔∃u v,w=u++v∧0<=beh a a.start u∧0<=IR b b.start (v++[x]):=by
    rw[Lc i rfl];constructor
    .rintro ⟨q,C,A⟩;obtain ⟨u,v,f,g,d⟩:=(r q C).1 A;exact ⟨u,v,f,g,qO⟩
    .rintro ⟨u,v,f,g,d⟩;have G:=FF i (v++[x]) (s:=b.start) (by have:=i.st;omega);obtain ⟨s,hs⟩:=Int.eq_ofNat_of_zero_le d;exact ⟨s,qO,(r s qO).2 ⟨u,v,f,g,hs⟩⟩
   unfold Ee;rw[l,<-EP];by_cases k:0<=IR a a.start (w++[x])∨D0 b m p.2 x=true
   .rw[if_pos k];refine ⟨O,λq z=>?_,(Kf _).symm⟩;simp only;rw[FW _ z];simp only[Fi,Bool.or_eq_true,Bool.and_eq_true,decide_eq_true_eq];rw[r q z];constructor
    .rintro (⟨u,v,f,g,d⟩|⟨f,g⟩)
     .exact ⟨u,v++[x],by rw[f,List.append_assoc],g,d⟩
     .exact ⟨w++[x],[],qP,by rw[Di];exact f,g.symm⟩
    .rintro ⟨u,v,f,g,d⟩;rcases List.eq_nil_or_concat v with rfl|⟨v,y,rfl⟩
     .rw[List.append_nil] at f;right;rw[<-f,Di] at g;exact ⟨g,d.symm⟩
     .left;rw[List.concat_eq_append] at f d;rw[<-List.append_assoc] at f;obtain ⟨B,E⟩:=List.append_inj' f O;cases E;exact ⟨u,v,B,g,d⟩
   .rw[if_neg k];have C:¬0<=IR a a.start (w++[x]):=λh=>k (.inl h);have A:¬D0 b m p.2 x=true:=λh=>k (.inr h);refine ⟨qO,λu v e n=>?_⟩;rcases List.eq_nil_or_concat v with rfl|⟨v,y,rfl⟩
    .rw[List.append_nil] at e;subst e;rw[Di] at n;unfold EX at n;rw[if_pos qO] at n;omega
    .rw[List.concat_eq_append] at e⊢;rw[<-List.append_assoc] at e;obtain ⟨B,E⟩:=List.append_inj' e O;cases E;apply Classical.byContradiction;intro h;exact A (H.2 ⟨u,v,B,n,qO⟩)
open Classical in
theorem Tj (e:OkD m c b) (w:List Nat):K8 (Ee a b m) (G' b m) (FU a b m) w=if VE (beh a a.start) (beh b b.start) w then 0 else -1:=by
 have h:=Pz (a:=a) e w;unfold K8;cases hr:FH (Ee a b m) (FU a b m) w with
 | none=>
  rw[hr] at h;obtain ⟨r,g⟩:=h;rw[if_neg];rintro ⟨u,v,n,l,f⟩;have:=g u v n l;rw[Di] at f;unfold EX at f;rw[if_pos this] at f;omega
 | some p=>
  rw[hr] at h;obtain ⟨r,g,_⟩:=h;simp only[G',Il];have:HS b m p.2=true↔VE (beh a a.start) (beh b b.start) w:=by
   rw[Iy];constructor
   .rintro ⟨q,n,l,f⟩;obtain ⟨u,v,o,k,d⟩:=(g q n).1 f;exact ⟨u,v,o,k,by rw[Di,d];exact l⟩
   .rintro ⟨u,v,o,k,d⟩;rw[Di] at d;have h11:=FF e v (s:=b.start) (by have:=e.st;omega);have j:0<=IR b b.start v:=by
     apply Classical.byContradiction;intro h;unfold EX at d;rw[if_pos qO] at d;omega
    obtain ⟨s,hs⟩:=Int.eq_ofNat_of_zero_le j;exact ⟨s,qO,by rw[hs] at d;exact d,(g s qO).2 ⟨u,v,o,k,hs⟩⟩
  by_cases i:VE (beh a a.start) (beh b b.start) w
  .rw[if_pos i,if_pos (this.2 i)]
  .rw[if_neg i,if_neg λh=>i (this.1 h)]
theorem Ma {c':Nat} (d:OkD n c' a) (e:OkD m c b) {p:Int×ByteArray} (h:RZ c (Ee a b m) (FU a b m) p):(-1<=p.1∧p.1<n)∧p.2=Cn m (Eh p.2):=by
 obtain ⟨w,_,i⟩:=h;have f:=Pz (a:=a) e w;rw[i] at f;obtain ⟨g,_,j⟩:=f;refine ⟨?_,j⟩;rw[g];exact FF d w (by have:=d.st;omega)
theorem Tu (b:Dfa) (m:Nat) (p:Int×ByteArray) : -1<=G' b m p∧G' b m p<2147483648:=by unfold G' Il;split<;>decide
end
inductive StarW (f:List Nat->Int):List Nat->Prop where
  | nil:StarW f []
  | cons {u v:List Nat}:0<=f u->StarW f v->StarW f (u++v)
theorem StarW.app {f:List Nat->Int} {u v:List Nat} (h:StarW f u) (k:StarW f v):StarW f (u++v):=by
 induction h with
 | nil=>exact k
 | cons a _ ih=>rw[List.append_assoc];exact .cons a ih
theorem StarW.one {f:List Nat->Int} {u:List Nat} (h:0<=f u):StarW f u:=by
 have:=StarW.cons h .nil
 rwa [List.append_nil] at this
theorem StarW.last {f:List Nat->Int} {w:List Nat} (h:StarW f w) (b:w≠[]):∃u v,w=u++v∧v≠[]∧StarW f u∧0<=f v:=by
 induction h with
 | nil=>exact absurd O b
 | @cons u v hu hv ih=>
  by_cases a:v=[]
  .subst a;rw[List.append_nil] at b⊢;exact ⟨[],u,O,b,.nil,hu⟩
  .obtain ⟨p,q,e,d,c,g⟩:=ih a;exact ⟨u++p,q,by rw[e,List.append_assoc],d,.cons hu c,g⟩
section
variable (a : Dfa) (n : Nat)
def FX:ByteArray:=Cn n λq=>decide (((q:Nat):Int)=a.start)
def HI (M:Nat->Bool):Nat->Bool:=λq=>M q || (HS a n (Cn n M) && decide (((q:Nat):Int)=a.start))
def EZ (bg:ByteArray) (k:ByteArray) (x:Nat):Option ByteArray:=let k':=if k=bg then FX a n else k;if D0 a n k' x=true then some (Cn n (HI a n (GB a n k' x))) else none
def GQ (bg:ByteArray) (k:ByteArray):Int:=Il (decide (k=bg) || HS a n k)
end
section
variable {a : Dfa} {n c : Nat} {bg : ByteArray}
def RQ (a:Dfa) (n:Nat) (w:List Nat) (k:ByteArray):Prop:=∀q:Nat,q<n->(Eh k q=true↔∃u v,w=u++v∧StarW (beh a a.start) u∧IR a a.start v=((q:Nat):Int))
theorem RN (d:OkD n c a) {w:List Nat} {k:ByteArray} (l:w≠[]) (h:RQ a n w k):HS a n k=true↔StarW (beh a a.start) w:=by
 rw[Iy];constructor
 .rintro ⟨q,i,e,g⟩;obtain ⟨u,v,rfl,b,j⟩:=(h q i).1 g;exact b.app (.one (by rw[Di,j];exact e))
 .intro i;obtain ⟨u,v,e,_,g,b⟩:=i.last l;rw[Di] at b;have h11:=FF d v (s:=a.start) (by have:=d.st;omega);have f:0<=IR a a.start v:=by
   apply Classical.byContradiction;intro h;unfold EX at b;rw[if_pos qO] at b;omega
  obtain ⟨s,hs⟩:=Int.eq_ofNat_of_zero_le f;exact ⟨s,qO,by rw[hs] at b;exact b,(h s qO).2 ⟨u,v,e,g,hs⟩⟩
theorem Qb (e:OkD n c a) {w:List Nat} {k:ByteArray} (x:Nat) (h:RQ a n w k):(D0 a n k x=true->RQ a n (w++[x]) (Cn n (HI a n (GB a n k x))))∧(¬D0 a n k x=true->∀u v,w=u++v->StarW (beh a a.start) u->IR a a.start (v++[x])<0):=by
 have g:∀q:Nat,q<n->(GB a n k x q=true↔∃u v,w=u++v∧StarW (beh a a.start) u∧IR a a.start (v++[x])=((q:Nat):Int)):=λq r=>by
  rw[Ie];constructor
  .rintro ⟨s,t,F,E⟩;obtain ⟨u,v,d,f,b⟩:=(h s t).1 F;exact ⟨u,v,d,f,by rw[EP,b,E]⟩
  .rintro ⟨u,v,d,f,b⟩;rw[EP] at b;have m:=FF e v (s:=a.start) (by have:=e.st;omega);have j:0<=IR a a.start v:=by
    apply Classical.byContradiction;intro h;rw[En qO] at b;omega
   obtain ⟨s,hs⟩:=Int.eq_ofNat_of_zero_le j;exact ⟨s,qO,(h s qO).2 ⟨u,v,d,f,hs⟩,by rw[<-hs];exact b⟩
 refine ⟨λ_=>?_,λhs u v d f=>?_⟩
 .have C:HS a n (Cn n (GB a n k x))=true↔StarW (beh a a.start) (w++[x]):=by
   rw[Iy];constructor
   .rintro ⟨q,p,l,o⟩;rw[FW _ p] at o;obtain ⟨u,v,rfl,i,t⟩:=(g q p).1 o;rw[List.append_assoc];exact i.app (.one (by rw[Di,t];exact l))
   .intro p;obtain ⟨u,v,l,z,o,i⟩:=p.last qP;rcases List.eq_nil_or_concat v with rfl|⟨v,y,rfl⟩
    .exact absurd O z
    rw[List.concat_eq_append] at l i;rw[<-List.append_assoc] at l;obtain ⟨B,A⟩:=List.append_inj' l O;cases A;rw[Di] at i;have m:=FF e (v++[x]) (s:=a.start) (by have:=e.st;omega);have j:0<=IR a a.start (v++[x]):=by
     apply Classical.byContradiction;intro h;unfold EX at i;rw[if_pos qO] at i;omega
    obtain ⟨s,hs⟩:=Int.eq_ofNat_of_zero_le j;exact ⟨s,qO,by rw[hs] at i;exact i,by rw[FW _ qO];exact (g s qO).2 ⟨u,v,B,o,hs⟩⟩
  intro q r;rw[FW _ r];simp only[HI,Bool.or_eq_true,Bool.and_eq_true,decide_eq_true_eq];rw[g q r,C];constructor
  .rintro (⟨u,v,d,f,b⟩|⟨d,f⟩)
   .exact ⟨u,v++[x],by rw[d,List.append_assoc],f,b⟩
   .exact ⟨w++[x],[],qP,d,f.symm⟩
  .rintro ⟨u,v,d,f,b⟩;rcases List.eq_nil_or_concat v with rfl|⟨v,y,rfl⟩
   .rw[List.append_nil] at d;right;rw[<-d] at f;exact ⟨f,b.symm⟩
   .left;rw[List.concat_eq_append] at d b;rw[<-List.append_assoc] at d;obtain ⟨B,A⟩:=List.append_inj' d O;cases A;exact ⟨u,v,B,f,b⟩
 .apply Classical.byContradiction;intro b;have m:=FF e (v++[x]) (s:=a.start) (by have:=e.st;omega);obtain ⟨s,D⟩:=Int.eq_ofNat_of_zero_le (show 0<=IR a a.start (v++[x]) by omega);exact hs ((Lc e O).2 ⟨s,qO,(g s qO).2 ⟨u,v,d,f,D⟩⟩)
theorem Su (oka:OkD n c a):RQ a n [] (FX a n):=λq d=>by
 unfold FX;rw[FW _ d];simp only[decide_eq_true_eq];constructor
 .intro h;exact ⟨[],[],O,.nil,h.symm⟩
 .rintro ⟨u,v,e,_,b⟩;obtain ⟨rfl,rfl⟩:=List.append_eq_nil_iff.1 e.symm;exact b.symm
theorem NQ (g:OkD n c a) (f:bg.size≠(n+7) / 8) (w:List Nat):match FH (EZ a n bg) bg w with
 | some k=>(w=[]∧k=bg)∨(w≠[]∧RQ a n w k∧k=Cn n (Eh k))
 | none=>w≠[]∧∀u v,w=u++v->StarW (beh a a.start) u->IR a a.start v<0∨v=[]:=by
 obtain ⟨j,o⟩:∃j,j=w.length:=⟨_,O⟩
 induction j generalizing w with
 | zero=>
  have:w=[]:=List.eq_nil_of_length_eq_zero o.symm;subst this;exact .inl ⟨O,O⟩
 | succ j ih=>
  rcases List.eq_nil_or_concat w with rfl|⟨w,x,rfl⟩
  .simp at o
  rw[List.concat_eq_append] at o⊢;have r:=ih w (by simpa using o);rw[HZ];have b:∀{p q:List Nat},w++[x]=p++q->q=[]∨∃B,q=B++[x]∧w=p++B:=fun {p q} e=>by
   rcases List.eq_nil_or_concat q with rfl|⟨q,y,rfl⟩
   .exact .inl O
   .rw[List.concat_eq_append] at e⊢;rw[<-List.append_assoc] at e;obtain ⟨d,D⟩:=List.append_inj' e O;cases D;exact .inr ⟨q,O,d⟩
  cases hr:FH (EZ a n bg) bg w with
  | none=>
   rw[hr] at r;obtain ⟨A,m⟩:=r;simp only[Option.bind_none];refine ⟨qP,λu v e i=>?_⟩;rcases b e with h|⟨q,rfl,d⟩
   .exact .inr h
   .left;rw[EP];rcases m u q d i with h|h
    .rw[En h];decide
    .subst h;rw[List.append_nil] at d;subst d;obtain ⟨p,q,l,s,z,t⟩:=i.last A;rcases m p q l z with h|h
     .rw[Di] at t;unfold EX at t;rw[if_pos h] at t;omega
     .exact absurd h s
  | some k=>
   rw[hr] at r;simp only[Option.bind_some,EZ];have C:RQ a n w (if k=bg then FX a n else k):=by
    rcases r with ⟨rfl,rfl⟩|⟨A,m,l⟩
    .rw[if_pos rfl];exact Su g
    .rw[if_neg]
     .exact m
     .intro e;rw[e] at l;rw[l,Dc] at f;exact f O
   obtain ⟨s,z⟩:=Qb g x C;by_cases hs:D0 a n (if k=bg then FX a n else k) x=true
   .rw[if_pos hs];exact .inr ⟨qP,s hs,(Kf _).symm⟩
   .rw[if_neg hs];refine ⟨qP,λu v e i=>?_⟩;rcases b e with h|⟨q,rfl,d⟩
    .exact .inr h
    .exact .inl (z hs u q d i)
open Classical in
theorem RK (d:OkD n c a) (b:bg.size≠(n+7) / 8) (w:List Nat):K8 (EZ a n bg) (GQ a n bg) bg w=if StarW (beh a a.start) w then 0 else -1:=by
 have h:=NQ d b w;unfold K8;cases hr:FH (EZ a n bg) bg w with
 | none=>
  rw[hr] at h;obtain ⟨p,j⟩:=h;rw[if_neg];intro i;obtain ⟨u,v,g,q,o,m⟩:=i.last p;rcases j u v g o with h|h
  .rw[Di] at m;unfold EX at m;rw[if_pos h] at m;omega
  .exact absurd h q
 | some k=>
  rw[hr] at h;rcases h with ⟨rfl,rfl⟩|⟨j,i,g⟩
  .rw[if_pos StarW.nil];simp[GQ,Il]
  .have l:k≠bg:=λe=>by
    rw[e] at g;rw[g,Dc] at b;exact b O
   simp only[GQ,Il,decide_eq_false l,Bool.false_or];have:=RN d j i;by_cases f:StarW (beh a a.start) w
   .rw[if_pos f,if_pos (this.2 f)]
   .rw[if_neg f,if_neg λh=>f (this.1 h)]
theorem KE (d:OkD n c a) (b:bg.size≠(n+7) / 8) {k:ByteArray} (h:RZ c (EZ a n bg) bg k):k=bg∨k=Cn n (Eh k):=by
 obtain ⟨w,_,f⟩:=h;have e:=NQ d b w;rw[f] at e;exact e.imp (λh=>h.2) λh=>h.2.2
theorem Ts (a:Dfa) (n:Nat) (bg k:ByteArray) : -1<=GQ a n bg k∧GQ a n bg k<2147483648:=by unfold GQ Il;split<;>decide
end
end Go.Proofs
namespace Go.Proofs
open Go Go.Eng Go.Sort
set_option maxRecDepth 100000
theorem TW (b:Bool) (w:World) (k:Int×Int):(Instr.checkKey b 10000 36 (HF k)).run prog w=.ok () w:=by kernel_rfl
theorem So:∃i,prog.info? 3=some i:=info_of_underlying underlying3
theorem RF:prog.cellsOf 3=1:=by kernel_rfl
theorem Sk:KeyOk prog 36 HF:=QB (by rw[underlying36]) TW (λw a b=>by obtain ⟨i,hi⟩:=So;exact WD underlying36 underlying3 hi RF w a b) Qn
theorem OA {w:World} {b e base:Nat} {u v:Value} (h:Az w b #[u,v] e) (hb:base<=b):w.ownsRow base e 2 (.slice (some ⟨b,0,none⟩) 1 1) 1 [u,v]:=
 ⟨O,.inr ⟨b,1,#[u,v],O,hb,h,Nat.le_refl _,qD,O,O⟩⟩
theorem Un (w0:World) (first:Int×Int) (c most:Nat) (sv av:Value) (stp:Int×Int→Nat→Option (Int×Int)) (acc:Int×Int→Int) (hc:1≤c∧c≤16) (hm:1≤most∧most≤20000) (hac:∀k,RZ c stp first k→-1≤acc k∧acc k<2147483648)
  (hs:∀w k x,Ao w0 w→RZ c stp first k→x<c→CV prog sv #[.agg #[.int .i64 k.1,.int .i64 k.2],.int .i64 ((x:Nat):Int)] w fun r w'=>(∃q,r=.tuple #[.agg #[.int .i64 q.1,.int .i64 q.2],.bool (stp k x).isSome]∧∀b,stp k x=some b→q=b)∧Ao w w')
  (ha:∀w k,Ao w0 w→RZ c stp first k→CV prog av #[.agg #[.int .i64 k.1,.int .i64 k.2]] w fun r w'=>r=.int .i64 (acc k)∧Ao w w') :
  CJ prog 186 #[.agg #[.int .i64 first.1,.int .i64 first.2],.int .i64 ((c:Nat):Int),sv,av,.int .i64 ((most:Nat):Int)] w0 fun r w=>JW c most stp acc first w0.heap.size r w∧Ao w0 w:=by
 have c0:∀k,(WZ k).length=2:=fun _=>rfl;refine qR func186 rfl ntmps186 rfl (fun E=>(Y (BM (v:=(.agg #[(I6 first.1),(I6 first.2)])) (c:=#[(I6 first.1),(I6 first.2)]) qD rfl rfl ?_)));intro bf wf Nf;have Ff:=Nf.ge E;replace E:=E.ext Nf.ext;have Bf:=Nf.blk;refine BO (c:=#[(I6 0),(.slice none 0 0),(.slice none 0 0)]) qD CU rfl ?_;intro br wr Nr;have Fr:=Nr.ge E;have Or_bf:=Nr.lt Bf;replace Bf:=Nr.keep Bf;replace E:=E.ext Nr.ext;have Br:=Nr.blk;refine qA (.bool false) rfl (AA (Y (qV (AU (vs:=[(I6 first.1),(I6 first.2)]) rfl F7 DL rfl (Bf.cells rfl)) (Ad (ps:=[(0,(.agg #[(I6 first.1),(I6 first.2)]))]) (c:=#[(I6 first.1),(I6 first.2)]) qD rfl underlying23 DL LT qD qD qK ?_))));intro bs ws Ns;have Fs:=Ns.ge E;have Os_bf:=Ns.lt Bf;have Os_br:=Ns.lt Br;replace Bf:=Ns.keep Bf;replace Br:=Ns.keep Br;replace E:=E.ext Ns.ext;have Bs:=Ns.blk;refine qA (.slice (some ⟨bs,0,none⟩) 1 1) rfl (AA (Y (Eg HF DJ qD ?_)));intro bm wm Nm;have Fm:=Nm.ge E;have Om_bf:=Nm.lt Bf;have Om_br:=Nm.lt Br;have Om_bs:=Nm.lt Bs;replace Bf:=Nm.keep Bf;replace Br:=Nm.keep Br;replace Bs:=Nm.keep Bs;replace E:=E.ext Nm.ext;intro Mm;refine qV (AU (vs:=[(I6 first.1),(I6 first.2)]) rfl F7 DL rfl (Bf.cells rfl)) (HB (k:=(first.1,first.2)) (v:=0) underlying234 (Sk) Mm rfl rfl rfl ?_);intro w1 S1 H1;replace Bf:=S1.keep qO Bf;replace Br:=S1.keep qO Br;replace Bs:=S1.keep qO Bs;replace E:=S1.step E qQ;replace Mm:=H1;refine qM (.map (some bm)) rfl (qA (.map (some bm)) rfl (AA (Y (BO (c:=#[(I6 0),(.slice none 0 0),(.slice none 0 0)]) qD CU rfl ?_))));intro bd wd Nd;have Fd:=Nd.ge E;have Od_bf:=Nd.lt Bf;have Od_br:=Nd.lt Br;have Od_bs:=Nd.lt Bs;have Od_bm:=Nd.ltM Mm;replace Bf:=Nd.keep Bf;replace Br:=Nd.keep Br;replace Bs:=Nd.keep Bs;replace Mm:=Nd.keepM Mm;replace E:=E.ext Nd.ext;have Bd:=Nd.blk;refine AA (AE (Y (qA (I6 0) rfl (AA (AM ?_)))));obtain ⟨n1,dv⟩:∃n1,n1=bs:=⟨_,rfl⟩;obtain ⟨n2,ar⟩:∃n2,n2=(wd).heap.size:=⟨_,rfl⟩;have c8:br<n2∧bs<n2∧bm<n2∧bd<n2:=⟨by rw[ar];exact Br.lt,by rw[ar];exact Bs.lt,by rw[ar];exact Mm.lt,by rw[ar];exact Bd.lt⟩;have cd:w0.heap.size≤n1∧w0.heap.size≤n2:=qO
 have da:(wd).ownsRow n1 36 2 (.slice (some ⟨bs,0,none⟩) 1 1) 1 ([first].map WZ).flatten:=OA (base:=n1) Bs qO;refine Am (fun nn_ σ W2=>∃(i:Nat) (ab:List (List Int)) (ks:List (Int×Int)) (ac:List Int) (vs:List Value) (sa ea ag:Option Addr) (ae sn ec af:Nat),(∃jj_,σ=BQ jj_ [(1,(I6 (c:Int))),(2,sv),(3,av),(4,(I6 (most:Int))),(10,(P6 br 0)),(13,(.map (some bm))),(14,(P6 bd 0)),(15,(I6 (i:Int))),(12,(.slice sa sn ae))])∧Chg AZ w0 W2∧Az W2 br #[(I6 0),(.slice none 0 0),(.slice none 0 0)] 52∧BZ W2 bm HF DJ (BD ks 0)∧Az W2 bd (#[Value.int .i64 0,.slice ea i ec,.slice ag i af]) 52∧(ExpP c stp first ks ab [])∧(ab.length=i)∧(ks.length≤most)∧(sn=ks.length)∧(i≤sn)∧(ac=(ks.take i).map acc)∧(W2.ownsRow n1 36 2 (.slice sa sn ae) sn (ks.map WZ).flatten)∧(OutSt W2 n2 (.slice ea i ec) (.slice ag i af) vs ac ab)∧(∀b,(Value.slice sa sn ae).ownBlock=some b→¬Ek (.slice ea i ec) (.slice ag i af) vs b∧b≠bm∧b≠bd)∧(n2≤W2.heap.size)∧nn_=most - i) (n:=most - 0) ?_ ?_
 ·exact ⟨0,[],[first],[],[],some ⟨bs,0,none⟩,none,none,1,1,0,0,Af.out ⟨rfl,rfl,rfl,rfl,rfl,rfl,rfl,rfl,rfl,trivial⟩,E,Br,Mm,Bd,ExpP.start _ _ _,rfl,hm.1,rfl,qO,rfl,da,OutSt.start _ _,(fun b hb=>⟨(fun h=>by rcases h with h|h|⟨i,v,h,_⟩;cases h;cases h;simp at h),(by have dk:bs=b:=Option.some.inj hb;omega),(by have dk:bs=b:=Option.some.inj hb;omega)⟩),qO,rfl⟩
 ·clear E Br Mm Bd;rintro _ _ W2 ⟨i,ab,ks,ac,vs,sa,ea,ag,ae,sn,ec,af,⟨j2,rfl⟩,E,Br,Mm,Bd,hC,bv,bb,a4,d3,a1,hS,hO,ah,ak,rfl⟩;refine AE (Y (qM (I6 (i:Int)) rfl (qM (.slice sa sn ae) rfl (qV (AH (ad:=sa) (n:=sn) (cap:=ae) underlying23 rfl) (qV (Av (k:=.i64) (a:=(i:Int)) (b:=(sn:Int)) rfl rfl) (AA (qC rfl (fun d6=>?_) (fun d6=>?_))))))))
  ·obtain ⟨k,am⟩:=AL (l:=ks) (i:=i) qO;have cy:=hC.rch k (List.mem_of_getElem? am);obtain ⟨sb,rfl,ee,hsc⟩:=Bj hS qO;obtain ⟨z0,hz0⟩:∃z0,z0=(W2).heap.size:=⟨_,rfl⟩;have dm:n2≤z0:=qO
   have bp:∀b,Ek (.slice ea i ec) (.slice ag i af) vs b→b<z0:=fun b hb=>by have:=(hO.lt hb).2;omega
   have c9:∀b,(Value.slice (some ⟨sb,0,none⟩) sn ae).ownBlock=some b→b<z0:=fun b hb=>by have:=(hS.lt b hb).2;omega
   refine AK (AB (AE (AM (Y (qM (I6 (c:Int)) rfl (E8 (n:=c) (z:=(I6 0)) (bytes:=8) qD underlying22 Ab GO CW rfl rfl rfl qO qO ?_))))));intro bq wq Nq;have Fq:=Nq.ge E;have Oq_br:=Nq.lt Br;have Oq_bm:=Nq.ltM Mm;have Oq_bd:=Nq.lt Bd;replace Br:=Nq.keep Br;replace Mm:=Nq.keepM Mm;replace Bd:=Nq.keep Bd;replace hS:=Aj hS Nq.ext;replace hO:=hO.ext Nq.ext;replace ak:=Nat.le_trans ak Nq.ext.size;replace E:=E.ext Nq.ext;have Bq:=Nq.blk;refine qA (.slice (some ⟨bq,0,none⟩) c c) rfl (AA (AE (Y (qM (I6 (c:Int)) rfl (qM (I6 0) rfl (AA (AM ?_)))))));have hqz:z0≤bq:=by have:=Nq.eq;omega
   rw[show List.replicate c (Value.int .i64 0)=(List.replicate c (0:Int)).map (Value.int .i64) by simp] at Bq;refine Am (fun nn_ σ W4=>∃(x:Nat) (R:List Int) (ks:List (Int×Int)) (sa:Option Addr) (ae sn:Nat),(∃jj_,σ=BQ jj_ [(1,(I6 (c:Int))),(2,sv),(3,av),(4,(I6 (most:Int))),(10,(P6 br 0)),(13,(.map (some bm))),(14,(P6 bd 0)),(15,(I6 (i:Int))),(16,(.slice (some ⟨bq,0,none⟩) c c)),(35,(I6 (c:Int))),(36,(I6 (x:Int))),(12,(.slice sa sn ae))])∧Chg AZ w0 W4∧Az W4 br #[(I6 0),(.slice none 0 0),(.slice none 0 0)] 52∧BZ W4 bm HF DJ (BD ks 0)∧Az W4 bd (#[Value.int .i64 0,.slice ea i ec,.slice ag i af]) 52∧Az W4 bq ((R.map (Value.int .i64)).toArray) 3∧(x≤c)∧(R.length=c)∧(ExpP c stp first ks ab (R.take x))∧(ks.length≤most)∧(ks[i]?=some k)∧(sn=ks.length)∧((ks.take i).map acc=ac)∧(W4.ownsRow n1 36 2 (.slice sa sn ae) sn (ks.map WZ).flatten)∧(OutSt W4 n2 (.slice ea i ec) (.slice ag i af) vs ac ab)∧(∀b,(Value.slice sa sn ae).ownBlock=some b→¬Ek (.slice ea i ec) (.slice ag i af) vs b∧b≠bm∧b≠bd∧b≠bq)∧(n2≤W4.heap.size)∧nn_=c - x) (n:=c - 0) ?_ ?_
   ·exact ⟨0,List.replicate c 0,ks,some ⟨sb,0,none⟩,ae,sn,Af.out ⟨rfl,rfl,rfl,rfl,rfl,rfl,rfl,rfl,rfl,rfl,rfl,rfl,trivial⟩,E,Br,Mm,Bd,Bq,Nat.zero_le _,qP,(by simpa using hC),bb,am,a4,a1.symm,hS,hO,(fun b hb=>⟨(ah b hb).1,(ah b hb).2.1,(ah b hb).2.2,fun e=>by have:=c9 b hb;omega⟩),ak,rfl⟩
   ·clear E Br Mm Bd Bq;rintro _ _ W4 ⟨x,R,ks,sa,ae,sn,⟨j4,rfl⟩,E,Br,Mm,Bd,Bq,hx,bg,hC,bb,am,a4,bk,hS,hO,ah,ak,rfl⟩;refine Y (qV (Av (k:=.i64) (a:=(x:Int)) (b:=(c:Int)) rfl rfl) (AA (AE (qC rfl (fun cm=>?_) (fun cm=>?_)))))
    ·obtain ⟨aj,rfl,_,ba⟩:=Bj hS (by have:=AI am;omega);have ei:i<sn:=by have:=AI am;omega
     have cq:A' (W4) aj (0+i*2) [.int .i64 k.1,.int .i64 k.2]:=EF c0 ba am;refine AK (AB (AE (AM (Y (qM (I6 (x:Int)) rfl (qA (I6 (x:Int)) rfl (AA (Y (qM sv rfl (qM (.slice (some ⟨aj,0,none⟩) sn ae) rfl (qM (I6 (i:Int)) rfl (qV (AC (b:=aj) (o:=0) (len:=sn) (cap:=ae) (i:=i) (o':=0+i*2) rfl rfl rfl underlying23 DL qO qO) (qV (AU (vs:=[(I6 k.1),(I6 k.2)]) rfl F7 DL rfl (cq)) (qM (I6 (x:Int)) rfl (De (fv:=sv) (vs:=[(.agg #[(I6 k.1),(I6 k.2)]),(I6 (x:Int))]) qD rfl rfl (hs _ k x E cy qO) ?_)))))))))))))));rintro _ w9 ⟨⟨q,rfl,hq⟩,X9⟩;replace Br:=X9.keep Br;replace Mm:=X9.keepM Mm;replace Bd:=X9.keep Bd;replace Bq:=X9.keep Bq;replace E:=E.ext X9;have hS:=Aj hS X9;have hO:=hO.ext X9;have ak:=Nat.le_trans ak X9.size;obtain ⟨zz,hzz⟩:∃zz,zz=(w9).heap.size:=⟨_,rfl⟩;have ck:∀b,(Value.slice (some ⟨aj,0,none⟩) sn ae).ownBlock=some b→b<zz:=fun b hb=>by have:=(hS.lt b hb).2;omega
     have a9:(R.take x).length=x:=by simp;omega
     have a6:ks[ab.length]?=some k:=by rw[bv];exact am
     have dd:=CX (L:=R) (s:=x) (x:=-1) qO;refine qM (.tuple #[(.agg #[(I6 q.1),(I6 q.2)]),(.bool ((stp k x).isSome))]) rfl (qV (Ai (vs:=#[(.agg #[(I6 q.1),(I6 q.2)]),(.bool ((stp k x).isSome))]) (v:=(.agg #[(I6 q.1),(I6 q.2)])) rfl rfl) (qV (Ai (vs:=#[(.agg #[(I6 q.1),(I6 q.2)]),(.bool ((stp k x).isSome))]) (v:=(.bool ((stp k x).isSome))) rfl rfl) (Au (v:=(.agg #[(I6 q.1),(I6 q.2)])) (c:=#[(I6 q.1),(I6 q.2)]) (n:=2) qD LT rfl DL rfl rfl rfl qS ?_)));intro bz wz Nz;have Fz:=Nz.ge E;have Oz_br:=Nz.lt Br;have Oz_bm:=Nz.ltM Mm;have Oz_bd:=Nz.lt Bd;have Oz_bq:=Nz.lt Bq;replace Br:=Nz.keep Br;replace Mm:=Nz.keepM Mm;replace Bd:=Nz.keep Bd;replace Bq:=Nz.keep Bq;replace hS:=Aj hS Nz.ext;replace hO:=hO.ext Nz.ext;replace ak:=Nat.le_trans ak Nz.ext.size;replace E:=E.ext Nz.ext;have Bz:=Nz.blk;refine qA (.bool ((stp k x).isSome)) rfl (AA (AE (Y (qM (.slice (some ⟨bq,0,none⟩) c c) rfl (qM (I6 (x:Int)) rfl (qV (AC (b:=bq) (o:=0) (len:=c) (cap:=c) (i:=x) (o':=0+x) rfl rfl rfl underlying22 Ab qO qO) (BB (b:=bq) (o:=0+x) (c':=((R.set x (-1)).map (Value.int .i64)).toArray) (v:=(I6 (-1))) rfl rfl rfl Ab Bq (by simp;omega) (C7 _) ?_)))))));intro w6 S6;replace hS:=Ax hS S6.chg fun b hb h=>(ah b hb).2.2.2 h;replace hO:=hO.chg S6.chg fun b hb h=>by have:=bp b hb;have h':b=bq:=h;omega
     replace ak:=Nat.le_trans ak S6.chg.size;replace Br:=S6.keep qO Br;replace Mm:=S6.keepM qO Mm;replace Bd:=S6.keep qO Bd;replace Bz:=S6.keep qO Bz;replace E:=S6.step E qQ;replace Bq:=S6.blk;refine AA (Y (qM (.bool ((stp k x).isSome)) rfl (qV (Cj (b:=(stp k x).isSome) rfl) (AA (A3 (b:=!((stp k x).isSome)) rfl (fun ax=>?_) (fun ax=>?_))))))
     ·have cg:=ax;replace ax:=by simpa using ax
      have ch:stp k x=none:=by simpa using ax
      have du:GT stp ks k (R.take x).length (-1):=by unfold GT;rw[a9,ch]
      refine Ak (AR (Ae (AB (AG (qV (Aq (k:=.i64) (a:=(x:Int)) (b:=1) (c:=(x:Int)+1) rfl rfl (A2 qO)) (qM (I6 ((x:Int)+1)) rfl (AA (AB ?_))))))));exact ⟨c - (x+1),qO,x+1,R.set x (-1),ks,some ⟨aj,0,none⟩,ae,sn,Af.out ⟨rfl,rfl,rfl,rfl,rfl,rfl,rfl,rfl,rfl,rfl,rfl,rfl,trivial⟩,E,Br,Mm,Bd,Bq,qO,(by simp[bg]),(by rw[dd];exact hC.add a6 du),bb,am,a4,bk,hS,hO,ah,ak,rfl⟩
     ·have cg:=ax;replace ax:=by simpa using ax
      obtain ⟨q',cl⟩:=Option.isSome_iff_exists.1 (show (stp k x).isSome=true by simpa using ax);have eg:=hq q' cl;subst eg;refine AK (AB (Y (qM (.map (some bm)) rfl (qV (AU (vs:=[(I6 q.1),(I6 q.2)]) rfl F7 DL rfl (Bz.cells rfl)) (B_ (v:=(.tuple #[(I6 ((A_ (BD ks 0) (q.1,q.2)).getD 0)),(.bool ((A_ (BD ks 0) (q.1,q.2)).isSome))])) rfl rfl qD (FL (k:=(q.1,q.2)) (z:=0) underlying234 (Sk) CW Mm rfl rfl) (qM (.tuple #[(I6 ((A_ (BD ks 0) (q.1,q.2)).getD 0)),(.bool ((A_ (BD ks 0) (q.1,q.2)).isSome))]) rfl (qV (Ai (vs:=#[(I6 ((A_ (BD ks 0) (q.1,q.2)).getD 0)),(.bool ((A_ (BD ks 0) (q.1,q.2)).isSome))]) (v:=(I6 ((A_ (BD ks 0) (q.1,q.2)).getD 0))) rfl rfl) (qV (Ai (vs:=#[(I6 ((A_ (BD ks 0) (q.1,q.2)).getD 0)),(.bool ((A_ (BD ks 0) (q.1,q.2)).isSome))]) (v:=(.bool ((A_ (BD ks 0) (q.1,q.2)).isSome))) rfl rfl) (qA (I6 ((A_ (BD ks 0) (q.1,q.2)).getD 0)) rfl (qA (.bool ((A_ (BD ks 0) (q.1,q.2)).isSome)) rfl (AA (GR (fun σ W8=>∃(aw:List (Int×Int)) (j:Nat) (bn:Option Addr) (bo a7:Nat),(∃jj_,σ=BQ jj_ [(1,(I6 (c:Int))),(2,sv),(3,av),(4,(I6 (most:Int))),(10,(P6 br 0)),(13,(.map (some bm))),(14,(P6 bd 0)),(15,(I6 (i:Int))),(16,(.slice (some ⟨bq,0,none⟩) c c)),(17,(I6 (x:Int))),(35,(I6 (c:Int))),(36,(I6 (x:Int))),(12,(.slice bn a7 bo)),(20,(I6 (j:Int)))])∧Chg AZ w0 W8∧Az W8 br #[(I6 0),(.slice none 0 0),(.slice none 0 0)] 52∧BZ W8 bm HF DJ (BD aw 0)∧Az W8 bd (#[Value.int .i64 0,.slice ea i ec,.slice ag i af]) 52∧Az W8 bq (((R.set x (-1)).map (Value.int .i64)).toArray) 3∧Az W8 bz #[(I6 q.1),(I6 q.2)] 36∧(ExpP c stp first aw ab (R.take x++[(j:Int)]))∧(aw.length≤most)∧(aw[i]?=some k)∧(a7=aw.length)∧((aw.take i).map acc=ac)∧(W8.ownsRow n1 36 2 (.slice bn a7 bo) a7 (aw.map WZ).flatten)∧(OutSt W8 n2 (.slice ea i ec) (.slice ag i af) vs ac ab)∧(∀b,(Value.slice bn a7 bo).ownBlock=some b→¬Ek (.slice ea i ec) (.slice ag i af) vs b∧b≠bm∧b≠bd∧b≠bq)∧(n2≤W8.heap.size)) ?_ ?_))))))))))))
      ·skip
       refine Y (qM (.bool ((A_ (BD ks 0) (q.1,q.2)).isSome)) rfl (qV (Cj (b:=(A_ (BD ks 0) (q.1,q.2)).isSome) rfl) (AA (A3 (b:=!((A_ (BD ks 0) (q.1,q.2)).isSome)) rfl (fun ai=>?_) (fun ai=>?_)))))
       ·have bw:=ai;replace ai:=by simpa using ai
        have de:A_ (BD ks 0) q=none:=by simpa using ai
        obtain ⟨ca,b4⟩:=IC de;have b3:=hC.new a6 qO (by rw[a9];exact cl) ca;refine Y (qM (.slice (some ⟨aj,0,none⟩) sn ae) rfl (qV (AH (ad:=some ⟨aj,0,none⟩) (n:=sn) (cap:=ae) underlying23 rfl) (qA (I6 (sn:Int)) rfl (AA (AE (Y (qM (I6 (sn:Int)) rfl (qM (I6 (most:Int)) rfl (qV (As (k:=.i64) (a:=(sn:Int)) (b:=(most:Int)) rfl rfl) (AA (qC rfl (fun bt=>?_) (fun bt=>?_))))))))))))
        ·refine Y (qV (BU (ps:=[]) (v:=(.agg #[(I6 0),(.slice none 0 0),(.slice none 0 0)])) rfl qK) (Al (b:=br) (o:=0) (c':=#[(I6 0),(.slice none 0 0),(.slice none 0 0)]) rfl rfl qS Ap rfl Br qL rfl ?_));intro w11 bi;replace Mm:=bi.keepM qO Mm;replace Bd:=bi.keep qO Bd;replace Bq:=bi.keep qO Bq;replace Bz:=bi.keep qO Bz;replace E:=bi.step E qQ;replace Br:=bi.blk;refine qA (.bool false) rfl (AA (AS (AO (AO (Ag (AO (AO (Ag (AO (Ag (AO (AO (Ag (AO (BJ results186 (vs:=[(.int .i64 0),(.slice none 0 0),(.slice none 0 0)]) (b:=br) (v':=(.bool false)) rfl BC Ap rfl (Br.cells rfl) rfl ?_)))))))))))))));exact ⟨.inr ⟨fun hF=>by have h9:=hF _ b3.nd b3.rch;rw[List.length_append,List.length_singleton] at h9;omega,rfl⟩,E⟩
        ·refine AK (AB (Y (qM (.map (some bm)) rfl (qV (AU (vs:=[(I6 q.1),(I6 q.2)]) rfl F7 DL rfl (Bz.cells rfl)) (qM (I6 (sn:Int)) rfl (DM (k:=(q.1,q.2)) (v:=(sn:Int)) underlying234 (Sk) Mm rfl rfl rfl ?_))))));intro w12 a2 dn;replace hS:=Ax hS a2.chg fun b hb h=>(ah b hb).2.1 h;replace hO:=hO.chg a2.chg fun b hb h=>by have:=(hO.lt hb).1;have h':b=bm:=h;omega
         replace ak:=Nat.le_trans ak a2.chg.size;replace Br:=a2.keep qO Br;replace Bd:=a2.keep qO Bd;replace Bq:=a2.keep qO Bq;replace Bz:=a2.keep qO Bz;replace E:=a2.step E qQ;replace Mm:=dn;refine AA (AG (qM (.slice (some ⟨aj,0,none⟩) sn ae) rfl (qV (AU (vs:=[(I6 q.1),(I6 q.2)]) rfl F7 DL rfl (Bz.cells rfl)) (Ad (ps:=[(0,(.agg #[(I6 q.1),(I6 q.2)]))]) (c:=#[(I6 q.1),(I6 q.2)]) qD rfl underlying23 DL LT qD qD qK ?_))));intro b13 ds al;have F13:=al.ge E;have O13_br:=al.lt Br;have O13_bm:=al.ltM Mm;have O13_bd:=al.lt Bd;have O13_bq:=al.lt Bq;have O13_bz:=al.lt Bz;replace Br:=al.keep Br;replace Mm:=al.keepM Mm;replace Bd:=al.keep Bd;replace Bq:=al.keep Bq;replace Bz:=al.keep Bz;replace hS:=Aj hS al.ext;replace hO:=hO.ext al.ext;replace ak:=Nat.le_trans ak al.ext.size;replace E:=E.ext al.ext;have dq:=al.blk;have dx:bq<(ds).heap.size:=Bq.lt;refine BT (base:=n1) (n:=sn) (m:=1) (xs:=(ks.map WZ).flatten) (news:=[(I6 q.1),(I6 q.2)]) (size:=2) (bytes:=16) (v:=(.slice (some ⟨aj,0,none⟩) sn ae)) qD underlying23 DL XV LT rfl qD rfl hS rfl (rfl) (dq.cells rfl) qS (by unfold maxLen;omega) qO (qO) ?_;intro v7 d9 ct ay d4;replace Br:=ay.keep (fun h=>by have:=(hS.lt _ h).1;omega) Br;replace Mm:=ay.keepM (fun h=>(ah _ h).2.1 rfl) Mm;replace Bd:=ay.keep (fun h=>(ah _ h).2.2.1 rfl) Bd;replace Bq:=ay.keep (fun h=>(ah _ h).2.2.2 rfl) Bq;replace Bz:=ay.keep (fun h=>(by have:=ck _ h;have:=Nz.eq;omega)) Bz;replace E:=E.step ay (fun x hx h=>absurd (hS.lt x h).1 qO);obtain ⟨cv,cs,rfl⟩:=A9 ct;replace Mm:BZ (d9) bm HF DJ (DA (BD ks 0) q ((sn:Nat):Int)):=Mm;rw[a4,b4] at Mm;refine qA (.slice cv (sn+1) cs) rfl (AA (AB ?_));exact ⟨ks++[q],sn,cv,cs,sn+1,Af.out ⟨rfl,rfl,rfl,rfl,rfl,rfl,rfl,rfl,rfl,rfl,rfl,rfl,rfl,rfl,trivial⟩,E,Br,Mm,Bd,Bq,Bz,(by rw[a4];exact b3),(by rw[List.length_append,List.length_singleton];omega),(by rw[List.getElem?_append_left (AI am)];exact am),(by simp;omega),(by rw[List.take_append_of_le_length (by have:=AI am;omega)];exact bk),(by rw[List.map_append,List.flatten_append];exact ct),hO.chg ay (fun b hb h=>(ah b h).1 hb),(fun b hb=>by rcases d4 b hb with h9|h9;exact ah b h9;exact ⟨fun ho=>by have:=(hO.lt ho).2;omega,qO,qO,qO⟩),Nat.le_trans ak ay.size⟩
       ·have bw:=ai;replace ai:=by simpa using ai
        have c6:(A_ (BD ks 0) q).isSome=true:=by simpa using ai
        obtain ⟨v9,cu⟩:=Option.isSome_iff_exists.1 c6;obtain ⟨j9,rfl,d8⟩:=JJ cu;rw[show (A_ (BD ks 0) (q.1,q.2)).getD 0=((j9:Nat):Int) from by show (A_ (BD ks 0) q).getD 0=_;rw[cu];rfl];refine AK (AB ?_);exact ⟨ks,j9,some ⟨aj,0,none⟩,ae,sn,Af.out ⟨rfl,rfl,rfl,rfl,rfl,rfl,rfl,rfl,rfl,rfl,rfl,rfl,rfl,rfl,trivial⟩,E,Br,Mm,Bd,Bq,Bz,hC.add a6 (by unfold GT;rw[a9,cl];exact ⟨j9,rfl,d8⟩),bb,am,a4,bk,hS,hO,ah,ak⟩
      ·clear E Br Mm Bd Bq Bz;rintro _ W8 ⟨aw,j,bn,bo,a7,⟨j8,rfl⟩,E,Br,Mm,Bd,Bq,Bz,ed,b7,b6,cb,cf,cn,ci,b1,a5⟩;have cc:=CX (L:=R.set x (-1)) (s:=x) (x:=((j:Nat):Int)) (by simp;omega);refine AG (qM (.slice (some ⟨bq,0,none⟩) c c) rfl (qM (I6 (x:Int)) rfl (qM (I6 (j:Int)) rfl (qV (AC (b:=bq) (o:=0) (len:=c) (cap:=c) (i:=x) (o':=0+x) rfl rfl rfl underlying22 Ab qO qO) (BB (b:=bq) (o:=0+x) (c':=(((R.set x (-1)).set x (j:Int)).map (Value.int .i64)).toArray) (v:=(I6 (j:Int))) rfl rfl rfl Ab Bq (by simp;omega) (C7 _) ?_)))));intro w14 au;replace cn:=Ax cn au.chg fun b hb h=>(b1 b hb).2.2.2 h;replace ci:=ci.chg au.chg fun b hb h=>by have:=bp b hb;have h':b=bq:=h;omega
       replace a5:=Nat.le_trans a5 au.chg.size;replace Br:=au.keep qO Br;replace Mm:=au.keepM qO Mm;replace Bd:=au.keep qO Bd;replace Bz:=au.keep qO Bz;replace E:=au.step E qQ;replace Bq:=au.blk;refine AA (AP (AB (AG (qV (Aq (k:=.i64) (a:=(x:Int)) (b:=1) (c:=(x:Int)+1) rfl rfl (A2 qO)) (qM (I6 ((x:Int)+1)) rfl (AA (AB ?_)))))));exact ⟨c - (x+1),qO,x+1,(R.set x (-1)).set x ((j:Nat):Int),aw,bn,bo,a7,Af.out ⟨rfl,rfl,rfl,rfl,rfl,rfl,rfl,rfl,rfl,rfl,rfl,rfl,trivial⟩,E,Br,Mm,Bd,Bq,qO,(by simp[bg]),(by rw[cc,List.take_set_of_le (Nat.le_refl x)];exact ed),b7,b6,cb,cf,cn,ci,b1,a5,rfl⟩
    ·have c4:x=c:=qO
     rw[c4,show R.take c=R by rw[←bg,List.take_length]] at hC;obtain ⟨n4,c1⟩:∃n4,n4=(W4).heap.size:=⟨_,rfl⟩;have ei:=AI am;obtain ⟨aj,rfl,_,ba⟩:=Bj hS qO;have cq:A' (W4) aj (0+i*2) [.int .i64 k.1,.int .i64 k.2]:=EF c0 ba am;have b2:ac.length=i:=by rw[←bk,List.length_map,List.length_take];omega
     have an:(W4).ownsRow n2 DP 1 (.slice ea i ec) i (ac.map (Value.int .i64)):=by have h9:=hO.e;rwa [b2] at h9
     have ap:(W4).ownsRow n2 Co 1 (.slice ag i af) i vs:=hO.n.on (by rw[List.length_map];omega);have dj:=bb;have d1:=Bq.lt;have dl:=GZ (base:=bq) Bq (Nat.le_refl _) bg;refine Ak (AR (AR (Ae (AB ?_))));obtain ⟨ce,aa⟩:∃Fs:List C1,Fs=[(fun _ v _=>v=(P6 bd 2)),(fun _ v _=>v=(.slice ag i af)),(fun _ v _=>v=(.slice (some ⟨bq,0,none⟩) c c)),(fun _=>C0 Co #[.slice (some ⟨bq,0,none⟩) c c] n4),(fun _=>Cd n2 Co 1 (i+1) (vs++[Value.slice (some ⟨bq,0,none⟩) c c]) (.slice ag i af) n4),(fun _ v _=>v=(P6 bd 1)),(fun _ v _=>v=(.slice ea i ec)),(fun _ v _=>v=av),(fun _ v _=>v=(.slice (some ⟨aj,0,none⟩) sn ae)),(fun _ v _=>v=(I6 (i:Int))),(fun _ v _=>v=(.pointer (some ⟨aj,0+i*2,none⟩))),(fun _ v _=>v=(.agg #[(I6 k.1),(I6 k.2)])),(fun _ v _=>v=(I6 (acc k))),(fun _=>C0 DP #[.int .i64 (acc k)] n4),(fun s v w=>Cd n2 DP 1 (i+1) (ac.map (Value.int .i64)++[Value.int .i64 (acc k)]) (.slice ea i ec) n4 v w∧∀b,(s 84).ownBlock=some b→v.ownBlock≠some b),(fun _ v _=>v=(P6 bd 2))]:=⟨_,rfl⟩;refine Hq (two 4 14 (fun b=>(Value.slice ag i af).ownBlock=some b) (fun b=>(Value.slice ea i ec).ownBlock=some b)) 16 [80,81,82,83,84,85,86,87,88,89,90,91,92,93,94,95] [[],[0],[],[2],[1,3],[],[5],[],[],[],[8,9],[10],[4,7,11],[12],[6,12,13],[0,1,2,3,4,5,6]] [[],[0],[],[2],[1,0,3,2],[],[5],[],[],[],[8,9],[10,8,9],[4,1,0,3,2,7,11,10,8,9],[12,4,1,0,3,2,7,11,10,8,9],[6,5,12,4,1,0,3,2,7,11,10,8,9,13],[0,1,2,3,4,5,6]] ce aa qK mixed qK qK qK ?_ ?_
     ·intro wd X0;refine DagStepsX.cons (A8.eq) (fun _ _ _ _ _ h=>h) (fun s' w' X U H=>?_) ?_
      ·exact AY (AN (b:=bd) (o:=0) (o':=2) (U 14 rfl) underlying52 rfl CB rfl) (Chg.refl _ _) rfl
      refine DagStepsX.cons (A8.eq) (fun _ _ _ _ _ h=>h) (fun s' w' X U H=>?_) ?_
      ·have dc:=H 0 rfl 80 _ rfl (by rw[aa];rfl);exact AY (AD (v:=(.slice ag i af)) dc B0 ((Chg.keep X (fun h=>(fun h=>h.elim (fun h=>by have:=(ap.lt _ h).1;omega) (fun h=>by have:=(an.lt _ h).1;omega)) (C5.or h)) (X0.keep Bd)).cell rfl)) (Chg.refl _ _) rfl
      refine DagStepsX.cons (A8.eq) (fun _ _ _ _ _ h=>h) (fun s' w' X U H=>?_) ?_
      ·exact AY (Ah (v:=(.slice (some ⟨bq,0,none⟩) c c)) (U 16 rfl)) (Chg.refl _ _) rfl
      refine DagStepsX.cons (C6 (fun y h=>by have:=(ap.lt y h).2;omega) (fun y h=>by have:=(an.lt y h).2;omega)) (F_.const) (fun s' w' X U H=>?_) ?_
      ·have c5:=H 2 rfl 82 _ rfl (by rw[aa];rfl);exact Cq (hs:=n4) underlying50 BG EG c5 qD qD qK (by have:=X0.size;have:=X.size;omega)
      refine DagStepsX.cons (HQ (fun k hk hm=>hk.elim (fun h=>hO.en k hm h) (fun h=>by have:=(an.lt k hm).2;omega))) (F_.const) (fun s' w' X U H=>?_) ?_
      ·have db:=H 1 rfl 81 _ rfl (by rw[aa];rfl);obtain ⟨b83,dw,ef,g83⟩:=(show ((fun _=>C0 Co #[.slice (some ⟨bq,0,none⟩) c c] n4):C1) s' (s' 83) w' from H 3 rfl 83 ((fun _=>C0 Co #[.slice (some ⟨bq,0,none⟩) c c] n4)) rfl (by rw[aa];rfl));exact CL (hs:=n4) underlying50 BG K6 EG rfl qD db (Aj (Aj ap X0) (X.mono (fun y _ h=>C5.none rfl rfl h))) dw rfl (ef.cells rfl) qS (by unfold maxLen;omega) qO (by have:=X0.size;have:=X.size;omega) (fun y h=>h) (by have:=X0.size;have:=X.size;omega)
      refine DagStepsX.cons (A8.eq) (fun _ _ _ _ _ h=>h) (fun s' w' X U H=>?_) ?_
      ·exact AY (AN (b:=bd) (o:=0) (o':=1) (U 14 rfl) underlying52 rfl BG rfl) (Chg.refl _ _) rfl
      refine DagStepsX.cons (A8.eq) (fun _ _ _ _ _ h=>h) (fun s' w' X U H=>?_) ?_
      ·have dr:=H 5 rfl 85 _ rfl (by rw[aa];rfl);exact AY (AD (v:=(.slice ea i ec)) dr BX ((Chg.keep X (fun h=>(fun h=>h.elim (fun h=>by have:=(ap.lt _ h).1;omega) (fun h=>by have:=(an.lt _ h).1;omega)) (C5.or h)) (X0.keep Bd)).cell rfl)) (Chg.refl _ _) rfl
      refine DagStepsX.cons (A8.eq) (fun _ _ _ _ _ h=>h) (fun s' w' X U H=>?_) ?_
      ·exact AY (Ah (v:=av) (U 3 rfl)) (Chg.refl _ _) rfl
      refine DagStepsX.cons (A8.eq) (fun _ _ _ _ _ h=>h) (fun s' w' X U H=>?_) ?_
      ·exact AY (Ah (v:=(.slice (some ⟨aj,0,none⟩) sn ae)) (U 12 rfl)) (Chg.refl _ _) rfl
      refine DagStepsX.cons (A8.eq) (fun _ _ _ _ _ h=>h) (fun s' w' X U H=>?_) ?_
      ·exact AY (Ah (v:=(I6 (i:Int))) (U 15 rfl)) (Chg.refl _ _) rfl
      refine DagStepsX.cons (A8.eq) (fun _ _ _ _ _ h=>h) (fun s' w' X U H=>?_) ?_
      ·have d5:=H 8 rfl 88 _ rfl (by rw[aa];rfl);have d7:=H 9 rfl 89 _ rfl (by rw[aa];rfl);exact AY (AC (b:=aj) (o:=0) (len:=sn) (cap:=ae) (i:=i) (o':=0+i*2) d5 d7 rfl underlying23 DL qO qO) (Chg.refl _ _) rfl
      refine DagStepsX.cons (A8.eq) (fun _ _ _ _ _ h=>h) (fun s' w' X U H=>?_) ?_
      ·have dy:=H 10 rfl 90 _ rfl (by rw[aa];rfl);exact AY (AU (vs:=[(I6 k.1),(I6 k.2)]) dy F7 DL rfl (fun j v hv=>Chg.cell X (fun h=>(C5.or h).elim (fun h=>(ah _ rfl).1 (.inr (.inl h))) (fun h=>(ah _ rfl).1 (.inl h))) (X0.cell (cq j v hv)))) (Chg.refl _ _) rfl
      refine DagStepsX.cons (A8.eq) (fun _ _ _ _ _ h=>h) (fun s' w' X U H=>?_) ?_
      ·have c7:=H 7 rfl 87 _ rfl (by rw[aa];rfl);have dz:=H 11 rfl 91 _ rfl (by rw[aa];rfl);exact HV (fv:=av) (vs:=[.agg #[.int .i64 k.1,.int .i64 k.2]]) c7 (LL dz) ((ha w' k ((E.ext X0).step X (fun y hy h=>(C5.or h).elim (fun h=>by have:=(ap.lt y h).1;omega) (fun h=>by have:=(an.lt y h).1;omega))) cy).mono (fun v w h=>⟨h.1,Ao.chg h.2⟩))
      refine DagStepsX.cons (C6 (fun y h=>by have:=(ap.lt y h).2;omega) (fun y h=>by have:=(an.lt y h).2;omega)) (F_.const) (fun s' w' X U H=>?_) ?_
      ·have di:=H 12 rfl 92 _ rfl (by rw[aa];rfl);exact Cq (hs:=n4) underlying22 Ab CW di qD qD qK (by have:=X0.size;have:=X.size;omega)
      refine DagStepsX.cons (HP rfl) (fun s1 s2 h v w h2=>⟨h2.1,by have:=h 4 84 rfl rfl;rw[this];exact h2.2⟩) (fun s' w' X U H=>?_) ?_
      ·have eb:=H 6 rfl 86 _ rfl (by rw[aa];rfl);obtain ⟨b93,d0,dh,g93⟩:=(show ((fun _=>C0 DP #[.int .i64 (acc k)] n4):C1) s' (s' 93) w' from H 13 rfl 93 ((fun _=>C0 DP #[.int .i64 (acc k)] n4)) rfl (by rw[aa];rfl));exact Hp (H 4 rfl 84 _ rfl (by rw[aa];rfl)) (CL (hs:=w'.heap.size) underlying22 Ab GO CW rfl qD eb (Ax (Aj an X0) (X.mono (fun y _ h=>C5.fst rfl h)) (fun k hk hm=>hO.en k hk hm)) d0 rfl (dh.cells rfl) qS (by unfold maxLen;omega) qO (by have:=X0.size;have:=X.size;omega) (fun y h=>h) (Nat.le_refl _)) (by have:=X0.size;have:=X.size;omega) (fun k h1 h2=>h1.elim (fun h=>hO.en k h2 h) (fun h=>by have:=(an.lt k h2).2;omega))
      refine DagStepsX.cons (A8.eq) (fun _ _ _ _ _ h=>h) (fun s' w' X U H=>?_) ?_
      ·exact AY (AN (b:=bd) (o:=0) (o':=2) (U 14 rfl) underlying52 rfl CB rfl) (Chg.refl _ _) rfl
      exact DagStepsX.nil
     ·intro s' df cx X0 az U H;replace az:=az.mono (M':=fun y=>(fun b=>(Value.slice ag i af).ownBlock=some b) y∨(fun b=>(Value.slice ea i ec).ownBlock=some b) y) (fun y _ h=>by obtain ⟨j,h⟩:=h;rcases E5 h with h|h;exact .inl h.2;exact .inr h.2);obtain ⟨⟨a8,be,cz⟩,c2,b8⟩:=(show ((fun _=>Cd n2 Co 1 (i+1) (vs++[Value.slice (some ⟨bq,0,none⟩) c c]) (.slice ag i af) n4):C1) s' (s' 84) cx from H 4 84 ((fun _=>Cd n2 Co 1 (i+1) (vs++[Value.slice (some ⟨bq,0,none⟩) c c]) (.slice ag i af) n4)) rfl (by rw[aa];rfl));obtain ⟨⟨⟨bj,bh,cw⟩,c3,cp⟩,b9⟩:=(show ((fun s v w=>Cd n2 DP 1 (i+1) (ac.map (Value.int .i64)++[Value.int .i64 (acc k)]) (.slice ea i ec) n4 v w∧∀b,(s 84).ownBlock=some b→v.ownBlock≠some b):C1) s' (s' 94) cx from H 14 94 ((fun s v w=>Cd n2 DP 1 (i+1) (ac.map (Value.int .i64)++[Value.int .i64 (acc k)]) (.slice ea i ec) n4 v w∧∀b,(s 84).ownBlock=some b→v.ownBlock≠some b)) rfl (by rw[aa];rfl));have dp:s' 95=(.pointer (some ⟨bd,2,none⟩)):=H 15 95 ((fun _ v _=>v=(.pointer (some ⟨bd,2,none⟩)))) rfl (by rw[aa];rfl);obtain ⟨j15,rfl⟩:=Af.out (σ:=s') (l:=[(1,(.int .i64 ((c:Nat):Int))),(2,sv),(3,av),(4,(.int .i64 ((most:Nat):Int))),(10,(.pointer (some ⟨br,0,none⟩))),(12,(.slice (some ⟨aj,0,none⟩) sn ae)),(13,(.map (some bm))),(14,(.pointer (some ⟨bd,0,none⟩))),(15,(.int .i64 ((i:Nat):Int))),(84,(.slice a8 (i+1) be)),(94,(.slice bj (i+1) bh)),(95,(.pointer (some ⟨bd,2,none⟩)))]) ⟨U 1 rfl,U 2 rfl,U 3 rfl,U 4 rfl,U 10 rfl,U 12 rfl,U 13 rfl,U 14 rfl,U 15 rfl,cz,cw,dp,trivial⟩;clear U H;replace Br:=Chg.keep az (fun h=>h.elim (fun h=>by have:=(ap.lt _ h).1;omega) (fun h=>by have:=(an.lt _ h).1;omega)) (X0.keep Br);replace Mm:=Chg.keepM az (fun h=>h.elim (fun h=>by have:=(ap.lt _ h).1;omega) (fun h=>by have:=(an.lt _ h).1;omega)) (X0.keepM Mm);replace Bd:=Chg.keep az (fun h=>h.elim (fun h=>by have:=(ap.lt _ h).1;omega) (fun h=>by have:=(an.lt _ h).1;omega)) (X0.keep Bd);replace Bq:=Chg.keep az (fun h=>h.elim (fun h=>by have:=bp _ (.inr (.inl h));omega) (fun h=>by have:=bp _ (.inl h);omega)) (X0.keep Bq);have cr:=Chg.trans (Ao.chg X0) az;replace E:=(E.ext X0).step az (fun y hy h=>h.elim (fun h=>by have:=(ap.lt y h).1;omega) (fun h=>by have:=(an.lt y h).1;omega));rw[cz] at c2 b8 b9;rw[cw] at c3 cp b9;have bc:=hO.push (y:=acc k) (N':=.slice a8 (i+1) be) (E':=.slice bj (i+1) bh) dl bg.symm qO (fun b hb=>by have:=bp b hb;omega) cr (by rw[bv];exact c2) (fun k hk=>by rw[←c1];exact b8 k hk) (by rw[b2,List.map_append];exact c3) (fun k hk=>by rw[←c1];exact cp k hk) b9;have bx:=Ax hS cr (fun b hb h=>h.elim (fun h=>(ah b hb).1 (.inr (.inl h))) (fun h=>(ah b hb).1 (.inl h)));have ao:=Nat.le_trans ak cr.size;have co:∀b,(Value.slice (some ⟨aj,0,none⟩) sn ae).ownBlock=some b→¬Ek (.slice bj (i+1) bh) (.slice a8 (i+1) be) (vs++[.slice (some ⟨bq,0,none⟩) c c]) b∧b≠bm∧b≠bd:=fun b hb=>⟨fun ho=>IY ⟨(ah b hb).1,(ah b hb).2.2.2⟩ (by have:=(hS.lt b hb).2;omega) b8 cp ho,(ah b hb).2.1,(ah b hb).2.2.1⟩;refine BB (b:=bd) (o:=2) (c':=#[(I6 0),(.slice ea i ec),(.slice a8 (i+1) be)]) (v:=(.slice a8 (i+1) be)) rfl rfl rfl CB Bd qP rfl ?_;intro w16 a3;replace bc:=bc.chg a3.chg fun b hb h=>by have:=(bc.lt hb).1;have h':b=bd:=h;omega
      replace bx:=Ax bx a3.chg fun b hb h=>(ah b hb).2.2.1 h;replace ao:=Nat.le_trans ao a3.chg.size;replace Br:=a3.keep qO Br;replace Mm:=a3.keepM qO Mm;replace Bq:=a3.keep qO Bq;replace E:=a3.step E qQ;replace Bd:=a3.blk;refine qF bd 0 1 rfl underlying52 rfl BG rfl (BB (b:=bd) (o:=1) (c':=#[(I6 0),(.slice bj (i+1) bh),(.slice a8 (i+1) be)]) (v:=(.slice bj (i+1) bh)) rfl rfl rfl BG Bd qP rfl ?_);intro w17 a0;replace bc:=bc.chg a0.chg fun b hb h=>by have:=(bc.lt hb).1;have h':b=bd:=h;omega
      replace bx:=Ax bx a0.chg fun b hb h=>(ah b hb).2.2.1 h;replace ao:=Nat.le_trans ao a0.chg.size;replace Br:=a0.keep qO Br;replace Mm:=a0.keepM qO Mm;replace Bq:=a0.keep qO Bq;replace E:=a0.step E qQ;replace Bd:=a0.blk;refine AA (AP (AB (AG (qM (I6 (i:Int)) rfl (qV (Aq (k:=.i64) (a:=(i:Int)) (b:=1) (c:=(i:Int)+1) rfl rfl (A2 qO)) (qA (I6 ((i:Int)+1)) rfl (AA (AB ?_))))))));exact ⟨most - (i+1),qO,i+1,ab++[R],ks,ac++[acc k],vs++[.slice (some ⟨bq,0,none⟩) c c],some ⟨aj,0,none⟩,bj,a8,ae,sn,bh,be,Af.out ⟨rfl,rfl,rfl,rfl,rfl,rfl,rfl,rfl,rfl,trivial⟩,E,Br,Mm,Bd,hC.rowed bg,(by simp[bv]),bb,a4,qO,(by rw[Ed am,List.map_append,bk];rfl),bx,bc,co,ao,rfl⟩
  ·have dt:i=ks.length:=qO
   have cj:ab.length=ks.length:=qO
   obtain ⟨b5,eh⟩:=hC.done (acc:=acc) cj (fun k hk=>(hac k (hC.rch k hk)).1);have aq:ac=ks.map acc:=by rw[a1,dt,List.take_length]
   refine Ak (AR (AR (Ae (AB (Y (qV (AU (vs:=[(I6 0),(.slice ea i ec),(.slice ag i af)]) rfl BC Ap rfl (Bd.cells rfl)) (Al (b:=br) (o:=0) (c':=#[(I6 0),(.slice ea i ec),(.slice ag i af)]) rfl rfl qS Ap rfl Br qL rfl ?_)))))));intro w18 b0;replace hO:=hO.chg b0.chg fun b hb h=>by have:=(hO.lt hb).1;have h':b=br:=h;omega
   replace Mm:=b0.keepM qO Mm;replace Bd:=b0.keep qO Bd;replace E:=b0.step E qQ;replace Br:=b0.blk;refine qA (.bool true) rfl (AA (AS (BJ results186 (vs:=[(.int .i64 0),(.slice ea i ec),(.slice ag i af)]) (b:=br) (v':=(.bool true)) rfl BC Ap rfl (Br.cells rfl) rfl (⟨.inl ⟨(hC.all cj).mono bb,⟨0,ac,ab⟩,_,fun mx dg=>⟨?_,?_,rfl,?_,?_⟩,rfl,?_⟩,E⟩))))
   ·rw[aq];show OkD ab.length c _;rw[cj];exact b5
   ·show ab.length≤mx;have:=dg ks hC.nd hC.rch;omega
   ·rw[aq];exact eh
   ·intro x hx;have hx:x∈ac:=hx;rw[aq] at hx;obtain ⟨u,hu,rfl⟩:=List.mem_map.1 hx;exact (hac u (hC.rch u hu)).2
   ·have bu:ac.length=i:=by rw[aq,List.length_map];omega
    exact ⟨ea,ec,ag,af,vs,by show Value.agg #[_,_,_]=.agg #[_,.slice ea ac.length ec,.slice ag ab.length af];rw[bu,bv],by show OutSt _ _ (.slice ea ac.length ec) (.slice ag ab.length af) vs ac ab;rw[bu,bv];exact hO.low cd.2⟩
end Go.Proofs
namespace Go.Eng
open Go
def MB (l:List Oper) (t u:Nat):Bool:=match l[t]? with
  | some o=>o.after.any λe=>Region.binds .any e && Nat.beq e.on u
  | none=>false
def Kn (hd:List Bool) (o:Oper):Bool:=match o.guard with|some p=>hd.getD p.1 false|none=>true
def Fy (N:Nat) (hd:List Bool):Nat->List Oper->List Nat->List (List Nat)->List Bool->Bool
  | _,[],[],[],[]=>true
  | i,o::l,d::ds,ws::wss,h::hs=>(bif h then F0 N i o d ws && ((o.after.all λe=>!Region.binds .any e || hd.getD e.on false) && Kn hd o) else Nat.ble N d) && Fy N hd (i+1) l ds wss hs
  | _,_,_,_,_=>false
def O0 (l:List Oper) (hd:List Bool) (ts:List Nat):Bool:=
 (List.range l.length).all λi=>hd.getD i false || (ts.contains i && ((List.range l.length).all (λu=>!hd.getD u false || MB l i u) || ts.any λp=>!hd.getD p true && MB l i p))
def KL (ops:Array Oper):List Nat->Array Bool->Bool
  | [],listed=>(Region.ready .any ops listed).isEmpty
  | k::ks,listed=>decide (Region.ready .any ops listed=[k]) && KL ops ks (listed.setIfInBounds k true)
theorem GL {P:Program} {ops:Array Oper} {Q':Exit->Act->World->Prop}:∀(b:List Nat) (listed:Array Bool) (a:Act) (w:World),KL ops b listed=true->wpList P ops Q' (b.filterMap λk=>ops[k]?) a w->wpAny P .any ops Q' b.length listed a w
 | [],_,_,_,hB,h=>⟨by simpa[KL] using hB,h⟩
 | k::b,listed,a,w,hB,h=>by
  simp only[KL,Bool.and_eq_true,decide_eq_true_eq] at hB;refine ⟨λf=>(by rw[hB.1] at f;cases f),λi hi=>?_⟩;have d:=hi;rw[hB.1] at hi;have c:i=k:=by simpa using hi
  subst c;obtain ⟨_,o,e,_⟩:=mem_ready.1 d;have g:wpOp P ops Q' i (wpList P ops Q' (b.filterMap λk=>ops[k]?)) a w:=by
   rw[List.filterMap_cons,e] at h;unfold wpOp;simp only[e];exact h
  exact wpOp_mono (λa' w' j=>GL b _ a' w' hB.2 j) g
theorem Hj {N:Nat} {hd:List Bool}:∀{i:Nat} {l:List Oper} {ds:List Nat} {wss:List (List Nat)} {hs:List Bool},Fy N hd i l ds wss hs=true->∀{j:Nat} {o:Oper},l[j]?=some o->∃d ws h,ds[j]?=some d∧wss[j]?=some ws∧hs[j]?=some h∧(bif h then F0 N (i+j) o d ws && ((o.after.all λe=>!Region.binds .any e || hd.getD e.on false) && Kn hd o) else Nat.ble N d)=true
 | _,[],_,_,_,_,j,o,h=>by simp at h
 | i,x::l,[],_,_,hB,_,_,_=>by simp[Fy] at hB
 | i,x::l,d::ds,[],_,hB,_,_,_=>by simp[Fy] at hB
 | i,x::l,d::ds,ws::wss,[],hB,_,_,_=>by simp[Fy] at hB
 | i,x::l,d::ds,ws::wss,h0::hs,hB,j,o,h=>by
  simp only[Fy,Bool.and_eq_true] at hB;cases j with
  | zero=>simp at h;subst h;exact ⟨d,ws,h0,O,O,O,hB.1⟩
  | succ j=>
   simp at h;obtain ⟨f,a,b,m,c,k,g⟩:=Hj hB.2 h;exact ⟨f,a,b,by simpa using m,by simpa using c,by simpa using k,by rw[show i+(j+1)=i+1+j from qO];exact g⟩
theorem MD {N:Nat} {hd:List Bool}:∀{i:Nat} {l:List Oper} {ds:List Nat} {wss:List (List Nat)} {hs:List Bool},Fy N hd i l ds wss hs=true->ds.length=l.length∧hs.length=l.length
 | _,[],[],[],[],_=>⟨O,O⟩
 | _,[],[],[],_::_,hB=>by simp[Fy] at hB
 | _,[],[],_::_,_,hB=>by simp[Fy] at hB
 | _,[],_::_,_,_,hB=>by simp[Fy] at hB
 | i,x::l,[],_,_,hB=>by simp[Fy] at hB
 | i,x::l,d::ds,[],_,hB=>by simp[Fy] at hB
 | i,x::l,d::ds,ws::wss,[],hB=>by simp[Fy] at hB
 | i,x::l,d::ds,ws::wss,h0::hs,hB=>by
  simp only[Fy,Bool.and_eq_true] at hB;have:=MD hB.2;simp[this.1,this.2]
inductive DagStepsP (P:Program) (N:Nat) (ds:List Nat) (Fs:List Fact) (σ:CN) (w:World):List Oper->List (List Nat)->List Bool->List Fact->Prop where
  | nil:DagStepsP P N ds Fs σ w [] [] [] []
  | cons {o:Oper} {ws:List Nat} {F:Fact} {l:List Oper} {wss:List (List Nat)} {hs:List Bool} {Gs:List Fact}:J2 P N ds Fs σ w o ws F->DagStepsP P N ds Fs σ w l wss hs Gs->DagStepsP P N ds Fs σ w (o::l) (ws::wss) (true::hs) (F::Gs)
  | tail {o:Oper} {ws:List Nat} {F:Fact} {l:List Oper} {wss:List (List Nat)} {hs:List Bool} {Gs:List Fact}:DagStepsP P N ds Fs σ w l wss hs Gs->DagStepsP P N ds Fs σ w (o::l) (ws::wss) (false::hs) (F::Gs)
theorem DagStepsP.get {P:Program} {N:Nat} {ds:List Nat} {e:List Fact} {σ:CN} {w:World}:∀{l:List Oper} {wss:List (List Nat)} {hs:List Bool} {d:List Fact},DagStepsP P N ds e σ w l wss hs d->∀{j:Nat} {o:Oper},l[j]?=some o->hs[j]?=some true->∃ws F,wss[j]?=some ws∧d[j]?=some F∧J2 P N ds e σ w o ws F
 | _,_,_,_,.nil,j,o,h,_=>by simp at h
 | _,_,_,_,.cons h1 h2,0,o,h,_=>by simp at h;subst h;exact ⟨_,_,O,O,h1⟩
 | _,_,_,_,.tail h2,0,o,h,ht=>by simp at ht
 | _,_,_,_,.cons h1 h2,j+1,o,h,ht=>by
  obtain ⟨ws,F,a,b,c⟩:=h2.get (j:=j) (by simpa using h) (by simpa using ht);exact ⟨ws,F,by simpa using a,by simpa using b,c⟩
 | _,_,_,_,.tail h2,j+1,o,h,ht=>by
  obtain ⟨ws,F,a,b,c⟩:=h2.get (j:=j) (by simpa using h) (by simpa using ht);exact ⟨ws,F,by simpa using a,by simpa using b,c⟩
def D5 (hd:List Bool) (listed:List Bool):Nat:=((hd.zip listed).filter λp=>p.1 && !p.2).length
theorem JF:∀{hd listed:List Bool} {i:Nat},hd[i]?=some true->listed[i]?=some false->D5 hd (listed.set i true)+1=D5 hd listed
 | [],_,_,h,_=>by simp at h
 | _::_,[],_,_,h=>by simp at h
 | h::hd,x::listed,0,h1,h2=>by
  simp at h1 h2;subst h1;subst h2;simp[D5]
 | h::hd,x::listed,i+1,h1,h2=>by
  have:=JF (hd:=hd) (listed:=listed) (i:=i) (by simpa using h1) (by simpa using h2);simp only[D5,List.set_cons_succ,List.zip_cons_cons,List.filter_cons] at this⊢;split
  .simp only[List.length_cons];omega
  .exact this
theorem IB:∀{hd listed:List Bool},hd.length=listed.length->D5 hd listed=0->(∀(i:Nat),hd[i]?=some false->listed[i]?=some false)->listed=hd
 | [],[],_,_,_=>rfl
 | [],_::_,h,_,_=>by simp at h
 | _::_,[],h,_,_=>by simp at h
 | h::hd,x::listed,hl,h0,ht=>by
  have b:D5 hd listed=0:=by
   simp only[D5,List.zip_cons_cons,List.filter_cons] at h0⊢;split at h0
   .simp at h0
   .exact h0
  have a:=IB (by simpa using hl) b λi hi=>by have:=ht (i+1) (by simpa using hi);simpa using this
  have c:x=h:=by
   cases h with
   | false=>have:=ht 0 O;simpa using this
   | true=>
    cases x with
    | true=>rfl
    | false=>simp[D5] at h0
  rw[a,c]
theorem JG:∀{hd listed:List Bool},0<D5 hd listed->∃i:Nat,hd[i]?=some true∧listed[i]?=some false
 | [],_,h=>by simp[D5] at h
 | _::_,[],h=>by simp[D5] at h
 | h::hd,x::listed,hp=>by
  simp only[D5,List.zip_cons_cons,List.filter_cons] at hp;split at hp
  .rename_i a
   simp at a;exact ⟨0,by simp[a.1],by simp[a.2]⟩
  .obtain ⟨i,c,b⟩:=JG (hd:=hd) (listed:=listed) hp;exact ⟨i+1,by simpa using c,by simpa using b⟩
theorem D6 {listed:Array Bool} {i:Nat} {b d:Bool} (h:listed.toList[i]?=some b):listed.getD i d=b:=by
 have:listed[i]?=some b:=by simpa using h
 simp[Array.getD_eq_getD_getElem?,this]
theorem U' {P:Program} {N:Nat} {Q:Dj} {σ:CN} {w:World} {id:Nat} {l:List Oper} (hd:List Bool) (ts:List Nat) (ds:List Nat) (wss:List (List Nat)) (Fs:List Fact) {Gs:List Fact} (hG:Fs=Gs) (hm:P.follows .mixedOrders=true) (hB:Fy N hd 0 l ds wss hd=true) (hn:Gr ds=true)
 (hT:(O0 l hd ts && KL l.toArray ts hd.toArray)=true) (hN:Nat.beq (D5 hd (List.replicate l.length false)+ts.length) l.length=true)
 (aj:∀L,Ao w L->DagStepsP P N ds Fs σ L l wss hd Gs)
 (k:∀σ' w',Ao w w'->(∀t,ds.contains t=false->σ' t=σ t)->(∀j,hd[j]?=some true->Holds ds Fs j σ' w')->DW P N l.toArray (Q .normal) Q (ts.filterMap λk=>l[k]?) σ' w'):Wp P N (.region id l.toArray true) Q σ w:=by
 intro dz a I he;have eQ:EN dz N (MT (Q .normal) Q)=EN dz N Q:=by funext e a w;cases e<;>rfl
 refine wp_region_any hm ?_;obtain ⟨L,aw⟩:∃L:World,L={w with drawn:=w.drawn+1}:=⟨_,O⟩;have aq:Ao w L:=by rw[aw];exact Ge w
 rw[<-aw];have av:=aj L aq;rw[<-hG] at av;rw[Bool.and_eq_true] at hT;obtain ⟨a0,a1⟩:=hT;obtain ⟨hlen,hlen2⟩:=MD hB;have a6:∀(m:Nat) (listed:Array Bool) (a:Act) (w':World),D5 hd listed.toList=m->listed.size=l.length->(∀(t:Nat),hd[t]?=some false->listed.toList[t]?=some false)->Ok dz N a->Ao L w'->(∀t,ds.contains t=false->DO a t=σ t)->(∀j,hd[j]?=some true->listed.getD j false=true->Holds ds Fs j (DO a) w')->
  wpAny P .any l.toArray (EN dz N Q) (m+ts.length) listed a w':=by
  intro m
  induction m with
  | zero=>
   intro listed a w' ay au D I hx hu hh;have hl:listed=hd.toArray:=by
    apply Array.ext';exact IB (by simp;omega) ay D
   rw[Nat.zero_add];have T:=k (DO a) w' (aq.trans hx) hu (λj n=>hh j n (D6 (by rw[hl];exact n))) dz a I O;rw[eQ] at T;exact GL ts listed a w' (by rw[hl];exact a1) (by simpa using T)
  | succ m ih=>
   intro listed a w' hcm au D I hx hu hh;obtain ⟨i0,ah,al⟩:=JG (hd:=hd) (listed:=listed.toList) qO;rw[show m+1+ts.length=(m+ts.length)+1 by omega];refine ⟨λhr=>?_,λi hi=>?_⟩
   .exfalso;have am:∀i:Nat,hd[i]?=some true->listed.getD i true=true:=by
     intro i
     induction i using Nat.strongRecOn with
     | _ i ihi=>
      intro hi;cases hv:listed.getD i true with
      | true=>rfl
      | false=>
       exfalso;obtain ⟨o,ho⟩:=AL (l:=l) (i:=i) (by have:=AI hi;omega);obtain ⟨d,ws,h,_,_,W,h3⟩:=Hj hB ho;rw[hi] at W;cases W;simp only[cond_true,Bool.and_eq_true,Nat.zero_add] at h3;have:i∈Region.ready .any l.toArray listed:=by
        refine mem_ready.2 ⟨hv,o,by simpa using ho,λe he hb=>?_⟩;have C:=h3.1;simp only[F0,Bool.and_eq_true,Array.all_eq_true_iff_forall_mem,Bool.or_eq_true,Bool.not_eq_true'] at C;have V:=h3.2.1;simp only[Array.all_eq_true_iff_forall_mem,Bool.or_eq_true,Bool.not_eq_true'] at V;have g:=(C.1.2 e he).resolve_left (by simp[hb]);have x:e.on<i:=by simpa[Nat.blt_eq] using g
        have h7:=(V e he).resolve_left (by simp[hb]);have ao:e.on<hd.length:=by have:=AI hi;omega
        have h8:hd[e.on]?=some true:=by
         rw[List.getD_eq_getElem?_getD,List.getElem?_eq_getElem ao,Option.getD_some] at h7;rw[List.getElem?_eq_getElem ao,h7]
        have H:=ihi e.on x h8;have n:e.on<listed.size:=qO
        simpa only[Array.getD_eq_getD_getElem?,Array.getElem?_eq_getElem n,Option.getD_some] using H
       rw[hr] at this;cases this
    have:=am i0 ah;rw[D6 al] at this;cases this
   .obtain ⟨T,o,W,h3⟩:=mem_ready.1 hi;have ho:l[i]?=some o:=by simpa using W
    have a7:i<l.length:=AI ho;have K:hd[i]?=some true:=by
     obtain ⟨b,hb⟩:=AL (l:=hd) (i:=i) qO;cases b with
     | true=>exact hb
     | false=>
      exfalso;have C:=List.all_eq_true.1 a0 i (List.mem_range.2 a7);rw[List.getD_eq_getElem?_getD,hb,Option.getD_some,Bool.false_or,Bool.and_eq_true,Bool.or_eq_true] at C;have M:∀u,MB l i u=true->listed.getD u false=true:=λu J=>by
       unfold MB at J;rw[ho] at J;simp only[Array.any_eq_true',Bool.and_eq_true] at J;obtain ⟨e,he,aa,ae⟩:=J;have:=Nat.eq_of_beq_eq_true ae;rw[<-this];exact h3 e he aa
      rcases C.2 with V|V
      .have g:=List.all_eq_true.1 V i0 (List.mem_range.2 (by have:=AI ah;omega));rw[List.getD_eq_getElem?_getD,ah,Option.getD_some,Bool.not_true,Bool.false_or] at g;have:=M i0 g;rw[D6 al] at this;cases this
      .obtain ⟨p,_,g⟩:=List.any_eq_true.1 V;rw[Bool.and_eq_true,Bool.not_eq_true'] at g;have h7:=M p g.2;have hp:hd[p]?=some false:=by
        have h8:=g.1;rw[List.getD_eq_getElem?_getD] at h8;cases H:hd[p]? with
        | none=>rw[H] at h8;cases h8
        | some b=>rw[H,Option.getD_some] at h8;rw[h8]
       rw[D6 (D p hp)] at h7;cases h7
    obtain ⟨d,ws,h,ak,a3,an,C⟩:=Hj hB ho;rw[K] at an;cases an;obtain ⟨ws',F,Z,hF,ac⟩:=av.get ho K;rw[a3] at Z;cases Z;simp only[cond_true,Bool.and_eq_true,Nat.zero_add] at C;have G:=C.2.2;have C:=C.1;simp only[F0,Bool.and_eq_true,List.all_eq_true,Array.any_eq_true',Array.all_eq_true_iff_forall_mem,Bool.or_eq_true,Bool.not_eq_true'] at C;obtain ⟨⟨⟨q,ag⟩,_⟩,ai⟩:=C;have q:o.dst=some d:=by
     split at q
     .rename_i d' h;rw[h,Nat.eq_of_beq_eq_true q]
     .cases q
    have ag:d<N:=by simpa[Nat.blt_eq] using ag
    have hH:∀j,ws.contains j=true->Holds ds Fs j (DO a) w':=by
     intro j n;have ax:j∈ws:=by simpa using n
     obtain ⟨e,he,hb⟩:=ai j ax;obtain ⟨aa,ae⟩:=hb;have a5:e.on=j:=Nat.eq_of_beq_eq_true ae;have E:=h3 e he aa;rw[a5] at E;refine hh j ?_ E;obtain ⟨b,hb⟩:=AL (l:=hd) (i:=j) (by
      rcases Nat.lt_or_ge j listed.size with H|H
      .omega
      .simp[Array.getD_eq_getD_getElem?,Array.getElem?_eq_none H] at E)
     cases b with
     | true=>exact hb
     | false=>rw[D6 (D j hb)] at E;cases E
    have gd:∀j b,o.guard=some (j,b)->∀z,ds[j]?=some z->(∃oj,l[j]?=some oj∧oj.dst=some z)∧z<N:=λj b f z B=>by
     obtain ⟨oj,s⟩:=AL (l:=l) (i:=j) (by have:=AI B;omega);obtain ⟨dj',_,n,R,_,V,g⟩:=Hj hB s;rw[B] at R;cases R;unfold Kn at G;rw[f] at G;simp only at G;have h7:n=true:=by rw[List.getD_eq_getElem?_getD,V,Option.getD_some] at G;exact G
     rw[h7] at g;simp only[cond_true,Bool.and_eq_true,F0] at g;obtain ⟨⟨⟨c,r⟩,_⟩,_⟩:=g.1;refine ⟨⟨oj,s,?_⟩,by simpa[Nat.blt_eq] using r⟩;split at c
     .rename_i d' h;rw[h,Nat.eq_of_beq_eq_true c]
     .cases c
    have X:∀v w2,Ao w' w2->F.In v w2->wpAny P .any l.toArray (EN dz N Q) (m+ts.length) (listed.setIfInBounds i true) (a.put o.dst v) w2:=by
     intro v w2 ar hv;have S:DO (a.put o.dst v)=E4 (DO a) d v:=by rw[q];exact Dx I ag v
     have a4:listed.toList[i]?=some false:=by
      have n:i<listed.size:=qO
      simp only[Array.getD_eq_getD_getElem?,Array.getElem?_eq_getElem n,Option.getD_some] at T;rw[Array.getElem?_toList,Array.getElem?_eq_getElem n,T]
     refine ih _ _ _ ?_ (by simpa using au) (λt U=>?_) (I.put _ _) (hx.trans ar) ?_ ?_
     .rw[Array.toList_setIfInBounds];have:=JF K a4;omega
     .rw[Array.toList_setIfInBounds,List.getElem?_set];have af:i≠t:=λe=>by rw[<-e,K] at U;cases U
      rw[if_neg af];exact D t U
     .intro t U;rw[S,<-hu t U];simp only[E4];cases hb:Nat.beq t d
      .rfl
      .exfalso;have:t=d:=Nat.eq_of_beq_eq_true hb;subst this;have:=List.mem_of_getElem? ak;simp[this] at U
     .intro j a2 n d' F' A ab;rw[S];by_cases ad:j=i
      .subst ad;rw[ak] at A;cases A;rw[hF] at ab;cases ab;simp only[E4,Nat.beq_refl,cond_true];exact hv
      .have af:Nat.beq d' d=false:=by
        cases hb:Nat.beq d' d
        .rfl
        .exfalso;have:d'=d:=Nat.eq_of_beq_eq_true hb;subst this;exact ad (Cz hn A ak)
       simp only[E4,af,cond_false];rw[getD_set_ne _ (Ne.symm ad)] at n;exact Fact.ext (hh j a2 n d' F' A ab) ar
    rcases ac (DO a) w' hx hu hH with ⟨hg,az⟩|⟨⟨j,b,z,f,B,y⟩,ap⟩
    .have hw:Region.wanted o (yielded l.toArray a.tmps)=true:=by
      cases f:o.guard with
      | none=>simp[Region.wanted,f]
      | some p=>
       obtain ⟨j,b⟩:=p;obtain ⟨z,B,y⟩:=hg j b f;obtain ⟨c,r⟩:=gd j b f z B;have g:a.tmps[z]?=some (Value.bool b):=by
        have W:a.tmps.getD z undef=.bool b:=y;have x:z<a.tmps.size:=by rw[I.size];exact r
        rw[Array.getElem?_eq_getElem x];simpa[x] using W
       obtain ⟨oj,s,c⟩:=c;simp[Region.wanted,f,yielded,s,c,g]
     unfold wpOp;simp only[W,hw,if_true];exact Or.inl (az _ a I O _ _ X)
    .have hw:Region.wanted o (yielded l.toArray a.tmps)=false:=by
      obtain ⟨c,r⟩:=gd j b f z B;have x:z<a.tmps.size:=by rw[I.size];exact r
      have g:a.tmps[z]?=some (DO a z):=by
       rw[Array.getElem?_eq_getElem x];simp[DO,x]
      obtain ⟨oj,s,c⟩:=c;rcases y with y|y
      .rw[y] at g;cases b<;>simp[Region.wanted,f,yielded,s,c,g]
      .rw[y] at g;simp[Region.wanted,f,yielded,s,c,g,undef]
     unfold wpOp;simp only[W,hw,Bool.false_eq_true,if_false];exact X undef w' (Ao.refl _) ap
 have T:=a6 (D5 hd (Array.replicate l.toArray.size false).toList) (Array.replicate l.toArray.size false) a L O qP (λt U=>by have H:=AI U;rw[Array.toList_replicate,List.getElem?_replicate,if_pos (by rw[List.size_toArray];omega)]) I (Ao.refl _) (λt _=>by rw[he]) (λj _ n=>by rw[getD_replicate_false] at n;cases n);have e3:D5 hd (Array.replicate l.toArray.size false).toList+ts.length=l.toArray.size:=by have H:=Nat.eq_of_beq_eq_true hN;simpa using H
 rw[e3] at T;exact T
theorem Vz {x y z u p a b c d e:Value} (h:x=a) (g:y=b) (f:z=c) (i:u=d) (j:p=e):[x,y,z,u,p]=[a,b,c,d,e]:=by rw[h,g,f,i,j]
section
variable {P : Program} {N : Nat} {σ : CN} {w : World} {dst : Option Tmp} {ty : TypeId} {pos : String} {af : Array Edge} {g : Option (Nat × Bool)} {t : TypeId} {x y z u : Operand} {a b c d : Value} {i j k m : Nat}
theorem Xz (h:ev σ x=a):([(i,x)].map λ(i,x)=>(i,ev σ x))=[(i,a)]:=by simp only[List.map,h]
theorem XW (h:ev σ x=a) (c:ev σ y=b):([(i,x),(j,y)].map λ(i,x)=>(i,ev σ x))=[(i,a),(j,b)]:=by simp only[List.map,h,c]
def M7 (e:Nat) (c:Array Value) (hs:Nat):El:=λv w=>∃b,v=.pointer (some ⟨b,0,none⟩)∧Az w b c e∧hs<=b
theorem Ix (e:Nat) (c:Array Value) (hs:Nat):LF (M7 e c hs):=by
 rintro v w w' x ⟨b,f,d,a⟩;exact ⟨b,f,Ao.keep x d,a⟩
end
end Go.Eng
namespace Go.Eng
open Go
abbrev CZ:=(Nat->Bool)->CN->El
abbrev eF (u:Value):CZ:=λ_ _ v _=>v=u
def IL (ds:List Nat) (Fs:List CZ) (S:Nat->Bool) (j:Nat) (σ:CN) (w:World):Prop:=∀d F,ds[j]?=some d->Fs[j]?=some F->F S σ (σ d) w
def IE (S:Nat->Bool) (i:Nat):Nat->Bool:=λj=>bif Nat.beq j i then true else S j
theorem FN (S:Nat->Bool) (i:Nat):IE S i i=true:=by simp[IE]
theorem Hf {S:Nat->Bool} {i j:Nat} (h:j≠i):IE S i j=S j:=by
 have:Nat.beq j i=false:=by cases hb:Nat.beq j i;rfl;exact absurd (Nat.eq_of_beq_eq_true hb) h
 simp[IE,this]
def ND:List (Nat×(Nat->Prop))->Nat->Nat->Prop
  | [],_,_=>False
  | p::r,j,y=>(j=p.1∧p.2 y)∨ND r j y
theorem B7 {c:Nat} {M:Nat->Prop} {r:List (Nat×(Nat->Prop))} {j y:Nat} (h:ND ((c,M)::r) j y):(j=c∧M y)∨ND r j y:=h
theorem IN {S:Nat->Bool} {w w':World} (X:Chg (λy=>∃j,S j=true∧ND [] j y) w w'):Chg AZ w w':=X.mono λy _ ⟨_,_,h⟩=>h.elim
theorem Em {S:Nat->Bool} {w w':World} {c:Nat} {M:Nat->Prop} (a:S c=false) (X:Chg (λy=>∃j,S j=true∧ND [(c,M)] j y) w w'):Chg AZ w w':=X.mono λy _ ⟨j,b,h⟩=>by
 rcases B7 h with ⟨rfl,_⟩|d
 .rw[b] at a;cases a
 .exact d.elim
theorem VH {S:Nat->Bool} {w w':World} {c d:Nat} {M M2:Nat->Prop} (b:S c=false) (a:S d=false) (X:Chg (λy=>∃j,S j=true∧ND [(c,M),(d,M2)] j y) w w'):Chg AZ w w':=X.mono λy _ ⟨j,e,h⟩=>by
 rcases B7 h with ⟨rfl,_⟩|h
 .rw[e] at b;cases b
 rcases B7 h with ⟨rfl,_⟩|f
 .rw[e] at a;cases a
 .exact f.elim
theorem RU {S:Nat->Bool} {w w':World} {c:Nat} {M:Nat->Prop} (X:Chg (λy=>∃j,S j=true∧ND [(c,M)] j y) w w'):Chg M w w':=X.mono λy _ ⟨j,hj,h⟩=>by
 rcases B7 h with ⟨_,h⟩|a
 .exact h
 .exact a.elim
theorem RT {S:Nat->Bool} {w w':World} {c d:Nat} {M M2:Nat->Prop} (a:S d=false) (X:Chg (λy=>∃j,S j=true∧ND [(c,M),(d,M2)] j y) w w'):Chg M w w':=X.mono λy _ ⟨j,b,h⟩=>by
 rcases B7 h with ⟨_,h⟩|h
 .exact h
 rcases B7 h with ⟨rfl,_⟩|e
 .rw[b] at a;cases a
 .exact e.elim
def Hk (N i:Nat) (hd:List Bool) (o:Oper) (d:Nat) (ws:List Nat):Bool:=
 (match o.dst with|some d'=>Nat.beq d' d && Nat.blt d N|none=>Nat.ble N d) && (o.after.all λe=>!Region.binds .any e || (Nat.blt e.on i && hd.getD e.on false)) && (ws.all λj=>o.after.any λe=>Region.binds .any e && Nat.beq e.on j) && Kn hd o
def FC (N:Nat) (hd:List Bool):Nat->List Oper->List Nat->List (List Nat)->List Bool->Bool
  | _,[],[],[],[]=>true
  | i,o::l,d::ds,ws::wss,h::hs=>(bif h then Hk N i hd o d ws else Nat.ble N d) && FC N hd (i+1) l ds wss hs
  | _,_,_,_,_=>false
theorem Gf {N:Nat} {hd:List Bool}:∀{i:Nat} {l:List Oper} {ds:List Nat} {wss:List (List Nat)} {hs:List Bool},FC N hd i l ds wss hs=true->∀{j:Nat} {o:Oper},l[j]?=some o->∃d ws h,ds[j]?=some d∧wss[j]?=some ws∧hs[j]?=some h∧(bif h then Hk N (i+j) hd o d ws else Nat.ble N d)=true
 | _,[],_,_,_,_,j,o,h=>by simp at h
 | i,x::l,[],_,_,hB,_,_,_=>by simp[FC] at hB
 | i,x::l,d::ds,[],_,hB,_,_,_=>by simp[FC] at hB
 | i,x::l,d::ds,ws::wss,[],hB,_,_,_=>by simp[FC] at hB
 | i,x::l,d::ds,ws::wss,h0::hs,hB,j,o,h=>by
  simp only[FC,Bool.and_eq_true] at hB;cases j with
  | zero=>simp at h;subst h;exact ⟨d,ws,h0,O,O,O,hB.1⟩
  | succ j=>
   simp at h;obtain ⟨e,a,b,k,c,g,f⟩:=Gf hB.2 h;exact ⟨e,a,b,by simpa using k,by simpa using c,by simpa using g,by rw[show i+(j+1)=i+1+j from qO];exact f⟩
theorem MC {N:Nat} {hd:List Bool}:∀{i:Nat} {l:List Oper} {ds:List Nat} {wss:List (List Nat)} {hs:List Bool},FC N hd i l ds wss hs=true->ds.length=l.length∧hs.length=l.length∧wss.length=l.length
 | _,[],[],[],[],_=>⟨O,O,O⟩
 | _,[],[],[],_::_,hB=>by simp[FC] at hB
 | _,[],[],_::_,_,hB=>by simp[FC] at hB
 | _,[],_::_,_,_,hB=>by simp[FC] at hB
 | i,x::l,[],_,_,hB=>by simp[FC] at hB
 | i,x::l,d::ds,[],_,hB=>by simp[FC] at hB
 | i,x::l,d::ds,ws::wss,[],hB=>by simp[FC] at hB
 | i,x::l,d::ds,ws::wss,h0::hs,hB=>by
  simp only[FC,Bool.and_eq_true] at hB;have:=MC hB.2;simp[this.1,this.2.1,this.2.2]
def LG (P:Program) (N:Nat) (ds:List Nat) (Fs:List CZ) (σ:CN) (w:World) (Ms:Nat->Nat->Prop) (cl:List (List Nat)) (i:Nat) (o:Oper) (ws:List Nat) (F:CZ):Prop:=
 ∀(S:Nat->Bool) σ' w',S i=false->(∀j,(cl.getD j []).contains i=true->S j=false)->Chg (λy=>∃j,S j=true∧Ms j y) w w'->(∀t,ds.contains t=false->σ' t=σ t)->(∀j d,ds[j]?=some d->S j=false->σ' d=σ d)->(∀j,ws.contains j=true->S j=true∧IL ds Fs S j σ' w')->
  (I1 ds o σ'∧Cs (Ms i) P N o (λv w=>F (IE S i) σ' (Go.Eng.valOf o v) w) σ' w')∨(QZ ds o σ'∧F (IE S i) σ' undef w')
def CY (Ms:Nat->Nat->Prop) (i:Nat) (ws:List Nat) (F:CZ):Prop:=∀p,p≠i->ws.contains p=false->∀S σ v w w',S i=true->S p=false->Chg (Ms p) w w'->F S σ v w->F (IE S p) σ v w'
def CT (ds:List Nat) (ws:List Nat) (F:CZ):Prop:=∀S (σ1 σ2:CN),(∀j d,ws.contains j=true->ds[j]?=some d->σ2 d=σ1 d)->∀v w,F S σ1 v w->F S σ2 v w
inductive DagStepsS (P:Program) (N:Nat) (ds:List Nat) (Fs:List CZ) (σ:CN) (w:World) (Ms:Nat->Nat->Prop) (cl:List (List Nat)):Nat->List Oper->List (List Nat)->List Bool->List CZ->Prop where
  | nil {i:Nat}:DagStepsS P N ds Fs σ w Ms cl i [] [] [] []
  | cons {i:Nat} {o:Oper} {ws:List Nat} {F:CZ} {l:List Oper} {wss:List (List Nat)} {hs:List Bool} {Gs:List CZ} (s:CY Ms i ws F) (lc:CT ds ws F) (h:LG P N ds Fs σ w Ms cl i o ws F) (t:DagStepsS P N ds Fs σ w Ms cl (i+1) l wss hs Gs):DagStepsS P N ds Fs σ w Ms cl i (o::l) (ws::wss) (true::hs) (F::Gs)
  | tail {i:Nat} {o:Oper} {ws:List Nat} {F:CZ} {l:List Oper} {wss:List (List Nat)} {hs:List Bool} {Gs:List CZ} (t:DagStepsS P N ds Fs σ w Ms cl (i+1) l wss hs Gs):DagStepsS P N ds Fs σ w Ms cl i (o::l) (ws::wss) (false::hs) (F::Gs)
def Iw (hd:List Bool):Nat->Bool:=λj=>hd.getD j false
def HU (M:Nat->Prop) (ch:List PanicEntry) (X:World->Prop) (P:Program) (N:Nat) (o:Oper) (R:El) (σ:CN) (w:World):Prop:=
 ∀dz a,Ok dz N a->DO a=σ->∀(Q:Exit->Act->World->Prop) (K:Act->World->Prop),(∀v w',Chg M w w'->R v w'->K (a.put o.dst v) w')->(∀w',Chg M w w'->X w'->Q (.panic ch) a w')->o.wp P a w K Q
theorem Cs.x {M:Nat->Prop} {ch:List PanicEntry} {X:World->Prop} {P:Program} {N:Nat} {o:Oper} {R:El} {σ:CN} {w:World} (h:Cs M P N o R σ w):HU M ch X P N o R σ w:=λb a c e Q K d _=>h b a c e Q K d
theorem Ou {M:Nat->Prop} {ch:List PanicEntry} {X:World->Prop} {P:Program} {N:Nat} {o:Oper} {R:El} {σ:CN} {w:World} {f:FuncId} {args:Array Value} (d:(execOp (ev σ) o).run P w=.ok (.enter f args) w) (i:LS P ch f args w (λv w'=>R v w'∧Chg M w w') (λw'=>X w'∧Chg M w w')):HU M ch X P N o R σ w:=by
 intro dz a ha h Q K g b;unfold Oper.wp;rw[Cr,h,d];simp only[Oper.upon];refine Calls.mono i ?_;rintro e w' (⟨v,rfl,r,c⟩|⟨rfl,x,c⟩)
 .exact g v w' c r
 .exact b w' c x
theorem HU.weak {M:Nat->Prop} {ch:List PanicEntry} {X:World->Prop} {P:Program} {N:Nat} {o:Oper} {R R':El} {σ:CN} {w:World} (h:HU M ch X P N o R σ w) (e:∀v w',Chg M w w'->R v w'->R' v w'):HU M ch X P N o R' σ w:=λd a f i Q K g b=>h d a f i Q K (λv w' c r=>g v w' c (e v w' c r)) b
def LH (P:Program) (N:Nat) (ds:List Nat) (Fs:List CZ) (σ:CN) (w:World) (Ms:Nat->Nat->Prop) (Rs:Nat->World->World->Prop) (ch:List PanicEntry) (X:World->Prop) (cl:List (List Nat)) (i:Nat) (o:Oper) (ws:List Nat) (F:CZ):Prop:=
 ∀(S:Nat->Bool) σ' w',S i=false->(∀j,(cl.getD j []).contains i=true->S j=false)->Chg (λy=>∃j,S j=true∧Ms j y) w w'->(∀t,ds.contains t=false->σ' t=σ t)->(∀j d,ds[j]?=some d->S j=false->σ' d=σ d)->(∀j,ws.contains j=true->S j=true∧IL ds Fs S j σ' w')->
  (I1 ds o σ'∧HU (Ms i) ch X P N o (λv w=>F (IE S i) σ' (Go.Eng.valOf o v) w∧Rs i w' w) σ' w')∨(QZ ds o σ'∧F (IE S i) σ' undef w'∧Rs i w' w')
def CS (Ms:Nat->Nat->Prop) (Rs:Nat->World->World->Prop) (cl:List (List Nat)) (i:Nat) (ws:List Nat) (F:CZ):Prop:=∀p,p≠i->ws.contains p=false->∀S σ v w w',S i=true->S p=false->(∀j,(cl.getD p []).contains j=true->S j=true)->Chg (Ms p) w w'->Rs p w w'->F S σ v w->F (IE S p) σ v w'
inductive DagStepsG (P:Program) (N:Nat) (ds:List Nat) (Fs:List CZ) (σ:CN) (w:World) (Ms:Nat->Nat->Prop) (Rs:Nat->World->World->Prop) (ch:List PanicEntry) (X:World->Prop) (cl:List (List Nat)):Nat->List Oper->List (List Nat)->List Bool->List CZ->Prop where
  | nil {i:Nat}:DagStepsG P N ds Fs σ w Ms Rs ch X cl i [] [] [] []
  | cons {i:Nat} {o:Oper} {ws:List Nat} {F:CZ} {l:List Oper} {wss:List (List Nat)} {hs:List Bool} {Gs:List CZ} (s:CS Ms Rs cl i ws F) (lc:CT ds ws F) (h:LH P N ds Fs σ w Ms Rs ch X cl i o ws F) (t:DagStepsG P N ds Fs σ w Ms Rs ch X cl (i+1) l wss hs Gs):DagStepsG P N ds Fs σ w Ms Rs ch X cl i (o::l) (ws::wss) (true::hs) (F::Gs)
  | tail {i:Nat} {o:Oper} {ws:List Nat} {F:CZ} {l:List Oper} {wss:List (List Nat)} {hs:List Bool} {Gs:List CZ} (t:DagStepsG P N ds Fs σ w Ms Rs ch X cl (i+1) l wss hs Gs):DagStepsG P N ds Fs σ w Ms Rs ch X cl i (o::l) (ws::wss) (false::hs) (F::Gs)
theorem DagStepsG.get {P:Program} {N:Nat} {ds:List Nat} {f:List CZ} {σ:CN} {w:World} {Ms:Nat->Nat->Prop} {Rs:Nat->World->World->Prop} {ch:List PanicEntry} {X:World->Prop} {cl:List (List Nat)}:∀{i:Nat} {l:List Oper} {wss:List (List Nat)} {hs:List Bool} {g:List CZ},DagStepsG P N ds f σ w Ms Rs ch X cl i l wss hs g->∀{j:Nat} {o:Oper},l[j]?=some o->hs[j]?=some true->∃ws F,wss[j]?=some ws∧g[j]?=some F∧CS Ms Rs cl (i+j) ws F∧CT ds ws F∧LH P N ds f σ w Ms Rs ch X cl (i+j) o ws F
 | _,_,_,_,_,.nil,j,o,h,_=>by simp at h
 | i,_,_,_,_,.cons s lc h t,0,o,ho,_=>by
  simp at ho;subst ho;exact ⟨_,_,O,O,s,lc,h⟩
 | _,_,_,_,_,.tail t,0,o,h,ht=>by simp at ht
 | i,_,_,_,_,.cons s lc h t,j+1,o,ho,ht=>by
  obtain ⟨ws,F,e,a,d,b,c⟩:=t.get (j:=j) (by simpa using ho) (by simpa using ht);exact ⟨ws,F,by simpa using e,by simpa using a,by rw[show i+(j+1)=i+1+j from qO];exact d,b,by rw[show i+(j+1)=i+1+j from qO];exact c⟩
 | i,_,_,_,_,.tail t,j+1,o,ho,ht=>by
  obtain ⟨ws,F,e,a,d,b,c⟩:=t.get (j:=j) (by simpa using ho) (by simpa using ht);exact ⟨ws,F,by simpa using e,by simpa using a,by rw[show i+(j+1)=i+1+j from qO];exact d,b,by rw[show i+(j+1)=i+1+j from qO];exact c⟩
theorem M9 {P:Program} {N:Nat} {Q:Dj} {σ:CN} {w:World} {id:Nat} {l:List Oper} (Ms:Nat->Nat->Prop) (Rs:Nat->World->World->Prop) (ch:List PanicEntry) (X:World->Prop) (hd:List Bool) (ts:List Nat) (ds:List Nat) (wss cl:List (List Nat)) (Fs:List CZ) {Gs:List CZ} (hG:Fs=Gs) (hC:QS wss cl=true) (hm:P.follows .mixedOrders=true) (hB:FC N hd 0 l ds wss hd=true) (hn:Gr ds=true)
 (hT:(O0 l hd ts && KL l.toArray ts hd.toArray)=true) (hN:Nat.beq (D5 hd (List.replicate l.length false)+ts.length) l.length=true)
 (a0:∀D,Ao w D->DagStepsG P N ds Fs σ D Ms Rs ch X cl 0 l cl hd Gs)
 (hX:∀σ' D w',Ao w D->Chg (λy=>∃j,Ms j y) D w'->X w'->Q (.panic ch) σ' w')
 (k:∀σ' D w',Ao w D->Chg (λy=>∃j,hd.getD j false=true∧Ms j y) D w'->(∀t,ds.contains t=false->σ' t=σ t)->(∀j,hd[j]?=some true->IL ds Fs (Iw hd) j σ' w')->DW P N l.toArray (Q .normal) Q (ts.filterMap λk=>l[k]?) σ' w'):Wp P N (.region id l.toArray true) Q σ w:=by
 intro dz a ha E;have eQ:EN dz N (MT (Q .normal) Q)=EN dz N Q:=by funext e a w;cases e<;>rfl
 refine wp_region_any hm ?_;obtain ⟨D,bi⟩:∃D:World,D={w with drawn:=w.drawn+1}:=⟨_,O⟩;have ar:Ao w D:=by rw[bi];exact Ge w
 rw[<-bi];have au:=a0 D ar;rw[<-hG] at au;rw[Bool.and_eq_true] at hT;obtain ⟨b2,bx⟩:=hT;obtain ⟨hlen,hlen2,hlen3⟩:=MC hB
 let V:Array Bool->Nat->Bool:=λlisted j=>listed.getD j false
 have b4:∀(m:Nat) (listed:Array Bool) (a:Act) (w':World),D5 hd listed.toList=m->listed.size=l.length->(∀(t:Nat),hd[t]?=some false->listed.toList[t]?=some false)->(∀(j:Nat) oj,l[j]?=some oj->listed.getD j false=true->∀e∈oj.after,Region.binds .any e=true->listed.getD e.on false=true)->Ok dz N a->Chg (λy=>∃j,listed.getD j false=true∧Ms j y) D w'->(∀t,ds.contains t=false->DO a t=σ t)->(∀j d,ds[j]?=some d->listed.getD j false=false->DO a d=σ d)->(∀j,hd[j]?=some true->listed.getD j false=true->IL ds Fs (V listed) j (DO a) w')->
  wpAny P .any l.toArray (EN dz N Q) (m+ts.length) listed a w':=by
  intro m
  induction m with
  | zero=>
   intro listed a w' bm bg ah aw ha hx hu a1 hh;have hl:listed=hd.toArray:=by
    apply Array.ext';exact IB (by simp;omega) bm ah
   have a8:V listed=Iw hd:=by
    funext j;show listed.getD j false=hd.getD j false;rw[hl];simp[List.getD_eq_getElem?_getD]
   rw[Nat.zero_add];have h1:=k (DO a) D w' ar (hx.mono λy _ h=>by
    obtain ⟨j,h1,h2⟩:=h;have:Iw hd j=true:=by rw[<-a8];exact h1
    exact ⟨j,this,h2⟩) hu (λj r=>by rw[<-a8];exact hh j r (D6 (by rw[hl];exact r))) dz a ha O
   rw[eQ] at h1;exact GL ts listed a w' (by rw[hl];exact bx) (by simpa using h1)
  | succ m ih=>
   intro listed a w' hcm bg ah aw ha hx hu a1 hh;obtain ⟨i0,av,a7⟩:=JG (hd:=hd) (listed:=listed.toList) qO;rw[show m+1+ts.length=(m+ts.length)+1 by omega];refine ⟨λhr=>?_,λi hi=>?_⟩
   .exfalso;have a9:∀i:Nat,hd[i]?=some true->listed.getD i true=true:=by
     intro i
     induction i using Nat.strongRecOn with
     | _ i ihi=>
      intro hi;cases hv:listed.getD i true with
      | true=>rfl
      | false=>
       exfalso;obtain ⟨o,ho⟩:=AL (l:=l) (i:=i) (by have:=AI hi;omega);obtain ⟨d,ws,h,_,_,h2,h3⟩:=Gf hB ho;rw[hi] at h2;cases h2;simp only[cond_true,Hk,Bool.and_eq_true,Nat.zero_add] at h3;have:i∈Region.ready .any l.toArray listed:=by
        refine mem_ready.2 ⟨hv,o,by simpa using ho,λe E hb=>?_⟩;have h4:=h3.1.1.2;simp only[Array.all_eq_true_iff_forall_mem,Bool.or_eq_true,Bool.not_eq_true',Bool.and_eq_true] at h4;have n:=(h4 e E).resolve_left (by simp[hb]);have S:e.on<i:=by simpa[Nat.blt_eq] using n.1
        have h7:=n.2;have bf:e.on<hd.length:=by have:=AI hi;omega
        have h8:hd[e.on]?=some true:=by
         rw[List.getD_eq_getElem?_getD,List.getElem?_eq_getElem bf,Option.getD_some] at h7;rw[List.getElem?_eq_getElem bf,h7]
        have h9:=ihi e.on S h8;have r:e.on<listed.size:=qO
        simpa only[Array.getD_eq_getD_getElem?,Array.getElem?_eq_getElem r,Option.getD_some] using h9
       rw[hr] at this;cases this
    have:=a9 i0 av;rw[D6 a7] at this;cases this
   .obtain ⟨h1,o,h2,h3⟩:=mem_ready.1 hi;have ho:l[i]?=some o:=by simpa using h2
    have bv:i<l.length:=AI ho;have al:hd[i]?=some true:=by
     obtain ⟨b,hb⟩:=AL (l:=hd) (i:=i) qO;cases b with
     | true=>exact hb
     | false=>
      exfalso;have h4:=List.all_eq_true.1 b2 i (List.mem_range.2 bv);rw[List.getD_eq_getElem?_getD,hb,Option.getD_some,Bool.false_or,Bool.and_eq_true,Bool.or_eq_true] at h4;have am:∀u,MB l i u=true->listed.getD u false=true:=λu ak=>by
       unfold MB at ak;rw[ho] at ak;simp only[Array.any_eq_true',Bool.and_eq_true] at ak;obtain ⟨e,E,aa,ag⟩:=ak;have:=Nat.eq_of_beq_eq_true ag;rw[<-this];exact h3 e E aa
      rcases h4.2 with h5|h5
      .have n:=List.all_eq_true.1 h5 i0 (List.mem_range.2 (by have:=AI av;omega));rw[List.getD_eq_getElem?_getD,av,Option.getD_some,Bool.not_true,Bool.false_or] at n;have:=am i0 n;rw[D6 a7] at this;cases this
      .obtain ⟨p,_,n⟩:=List.any_eq_true.1 h5;rw[Bool.and_eq_true,Bool.not_eq_true'] at n;have h7:=am p n.2;have hp:hd[p]?=some false:=by
        have h8:=n.1;rw[List.getD_eq_getElem?_getD] at h8;cases h9:hd[p]? with
        | none=>rw[h9] at h8;cases h8
        | some b=>rw[h9,Option.getD_some] at h8;rw[h8]
       rw[D6 (ah p hp)] at h7;cases h7
    obtain ⟨d,ws,h,ac,bt,a3,h4⟩:=Gf hB ho;rw[al] at a3;cases a3;obtain ⟨ci,F,bj,hF,ay,ba,ae⟩:=au.get ho al;rw[Nat.zero_add] at ay ae;simp only[cond_true,Hk,Bool.and_eq_true,List.all_eq_true,Array.any_eq_true',Nat.zero_add] at h4;obtain ⟨⟨⟨A,_⟩,az⟩,ad⟩:=h4;have H:∀j,listed.getD j false=true->hd[j]?=some true:=λj r=>by
     obtain ⟨b,hb⟩:=AL (l:=hd) (i:=j) (by
      rcases Nat.lt_or_ge j listed.size with h9|h9
      .omega
      .simp[Array.getD_eq_getD_getElem?,Array.getElem?_eq_none h9] at r)
     cases b with
     | true=>exact hb
     | false=>rw[D6 (ah j hb)] at r;cases r
    have bc:∀j,listed.getD j false=true->∀c,(cl.getD j []).contains c=true->listed.getD c false=true:=by
     intro j
     induction j using Nat.strongRecOn with
     | _ j ihj=>
      intro C c hc;have ab:=H j C;obtain ⟨oc,bh⟩:=AL (l:=l) (i:=j) (by have:=AI ab;omega);obtain ⟨dc,bw,hb,_,a4,bd,h5⟩:=Gf hB bh;rw[ab] at bd;cases bd;simp only[cond_true,Hk,Bool.and_eq_true,List.all_eq_true,Array.any_eq_true',Array.all_eq_true_iff_forall_mem,Bool.or_eq_true,Bool.not_eq_true',Nat.zero_add] at h5;have B:∀G∈bw,listed.getD G false=true∧G<j:=by
       intro G I;obtain ⟨e,E,aa,ag⟩:=h5.1.2 G I;have b3:e.on=G:=Nat.eq_of_beq_eq_true ag;have n:=aw j oc bh C e E aa;have h7:=(h5.1.1.2 e E).resolve_left (by simp[aa]);rw[b3] at n h7;exact ⟨n,by simpa[Nat.blt_eq] using h7.1⟩
      rcases Hl hC a4 hc with n|⟨G,I,n⟩
      .exact (B c n).1
      .exact ihj G (B G I).2 (B G I).1 c n
    have J:∀j,ci.contains j=true->listed.getD j false=true:=by
     intro j r;have L:(cl.getD i []).contains j=true:=by rw[List.getD_eq_getElem?_getD,bj,Option.getD_some];exact r
     have B:∀G∈ws,listed.getD G false=true:=by
      intro G I;obtain ⟨e,E,aa,ag⟩:=az G I;have:e.on=G:=Nat.eq_of_beq_eq_true ag;exact this▸h3 e E aa
     rcases Hl hC bt L with n|⟨G,I,n⟩
     .exact B j n
     .exact bc G (B G I) j n
    have ap:∀j,(cl.getD i []).contains j=true->V listed j=true:=λj r=>J j (by rw[List.getD_eq_getElem?_getD,bj,Option.getD_some] at r;exact r);have be:V listed i=false:=getD_both h1;have bb:∀j,(cl.getD j []).contains i=true->V listed j=false:=by
     intro j r;cases C:V listed j with
     | false=>rfl
     | true=>
      exfalso;have:=bc j C i r;rw[getD_both h1] at this;cases this
    have hH:∀j,ci.contains j=true->V listed j=true∧IL ds Fs (V listed) j (DO a) w':=λj r=>⟨J j r,hh j (H j (J j r)) (J j r)⟩;have R:i<listed.size:=qO
    have br:V (listed.setIfInBounds i true)=IE (V listed) i:=by
     funext j;by_cases g:j=i
     .subst g;rw[FN];show (listed.setIfInBounds j true).getD j false=true;simp[Array.getD_eq_getD_getElem?,R]
     .rw[Hf g];exact getD_set_ne _ (Ne.symm g)
    have T:∀w2,Chg (Ms i) w' w2->Chg (λy=>∃j,(listed.setIfInBounds i true).getD j false=true∧Ms j y) D w2:=by
     intro w2 W;have hg:(listed.setIfInBounds i true).getD i false=true:=by simp[Array.getD_eq_getD_getElem?,R]
     refine Chg.step (hx.mono λy _ h=>?_) W (λy _ h=>⟨i,hg,h⟩);obtain ⟨j,h5,n⟩:=h;by_cases g:j=i
     .exact ⟨i,hg,g▸n⟩
     .exact ⟨j,by rw[getD_set_ne _ (Ne.symm g)];exact h5,n⟩
    have ao:∀v w2,Chg (Ms i) w' w2->F (IE (V listed) i) (DO a) (Go.Eng.valOf o v) w2∧Rs i w' w2->wpAny P .any l.toArray (EN dz N Q) (m+ts.length) (listed.setIfInBounds i true) (a.put o.dst v) w2:=by
     rintro v w2 W ⟨hv,ax⟩;have z:(∀t,t≠d->DO (a.put o.dst v) t=DO a t)∧DO (a.put o.dst v) d=Go.Eng.valOf o v:=by
      cases hod:o.dst with
      | none=>
       rw[hod] at A;have bn:N<=d:=Nat.le_of_ble_eq_true A;refine ⟨λt _=>rfl,?_⟩;simp only[Go.Eng.valOf,hod];show a.tmps.getD d undef=undef;have:a.tmps.size<=d:=by rw[ha.size];exact bn
       simp[Array.getElem?_eq_none this]
      | some d'=>
       rw[hod] at A;simp only[Bool.and_eq_true] at A;have bp:d'=d:=Nat.eq_of_beq_eq_true A.1;have x:d<N:=by simpa[Nat.blt_eq] using A.2
       subst bp;rw[Dx ha x v];refine ⟨λt ht=>?_,?_⟩
       .have:Nat.beq t d'=false:=by cases hb:Nat.beq t d';rfl;exact absurd (Nat.eq_of_beq_eq_true hb) ht
        simp[E4,this]
       .simp[E4,Go.Eng.valOf,hod]
     have bz:listed.toList[i]?=some false:=by
      simp only[Array.getD_eq_getD_getElem?,Array.getElem?_eq_getElem R,Option.getD_some] at h1;rw[Array.getElem?_toList,Array.getElem?_eq_getElem R,h1]
     refine ih _ _ _ ?_ (by simpa using bg) (λt ht=>?_) (λj oj q C e E hb=>?_) (ha.put _ _) (T w2 W) ?_ ?_ ?_
     .rw[Array.toList_setIfInBounds];have:=JF al bz;omega
     .rw[Array.toList_setIfInBounds,List.getElem?_set];have aq:i≠t:=λe=>by rw[<-e,al] at ht;cases ht
      rw[if_neg aq];exact ah t ht
     .refine getD_set_true ?_;by_cases g:j=i
      .subst g;rw[ho] at q;cases q;exact h3 e E hb
      .rw[getD_set_ne _ (Ne.symm g)] at C;exact aw j oj q C e E hb
     .intro t ht;rw[z.1 t (λh=>by
       subst h;have:=List.mem_of_getElem? ac;simp[this] at ht),hu t ht]
     .intro j d2 x ai;by_cases g:j=i
      .subst g;have b0:(listed.setIfInBounds j true).getD j false=true:=by simp[Array.getD_eq_getD_getElem?,R]
       rw[b0] at ai;cases ai
      .rw[getD_set_ne _ (Ne.symm g)] at ai;rw[z.1 d2 (λh=>by subst h;exact g (Cz hn x ac)),a1 j d2 x ai]
     .intro j ab r d2 F2 x aj;rw[br];by_cases g:j=i
      .subst g;rw[ac] at x;cases x;rw[hF] at aj;cases aj;rw[z.2];refine ba _ (DO a) _ (λj' d2 L x=>z.1 d2 λE=>?_) _ _ hv;have:=Cz hn (E▸x) ac;subst this;have:=J j' L;rw[getD_both h1] at this;cases this
      .have aq:d2≠d:=by
        intro h;subst h;exact g (Cz hn x ac)
       rw[z.1 d2 aq];rw[getD_set_ne _ (Ne.symm g)] at r;have n:=hh j ab r d2 F2 x aj;obtain ⟨oj,q⟩:=AL (l:=l) (i:=j) (by have:=AI ab;omega);obtain ⟨cj,Fj,bk,a6,a2,C,_⟩:=au.get q ab;rw[aj] at a6;cases a6;rw[Nat.zero_add] at a2;have bs:cl.getD j []=cj:=by rw[List.getD_eq_getElem?_getD,bk,Option.getD_some]
       have U:cj.contains i=false:=by
        cases U:cj.contains i with
        | false=>rfl
        | true=>
         exfalso;have:=bb j (by rw[bs];exact U);have L:V listed j=true:=r;rw[L] at this;cases this
       refine C _ (DO a) _ (λj' d3 L bo=>z.1 d3 λE=>?_) _ _ (a2 i (Ne.symm g) U (V listed) (DO a) _ _ _ r be ap W ax n);have h8:=Cz hn (E▸bo) ac;subst h8;rw[U] at L;cases L
    have gd:∀j b,o.guard=some (j,b)->∀M,ds[j]?=some M->((∃oj,l[j]?=some oj∧oj.dst=some M)∧M<N)∨(N<=M∧∃oj,l[j]?=some oj∧oj.dst=none):=λj b s M Z=>by
     obtain ⟨oj,q⟩:=AL (l:=l) (i:=j) (by have:=AI Z;omega);obtain ⟨dj',_,r,an,_,h5,n⟩:=Gf hB q;rw[Z] at an;cases an;unfold Kn at ad;rw[s] at ad;simp only at ad;have h7:r=true:=by rw[List.getD_eq_getElem?_getD,h5,Option.getD_some] at ad;exact ad
     rw[h7] at n;simp only[cond_true,Bool.and_eq_true,Hk] at n;have f:=n.1.1.1;split at f
     .rename_i d2 hq
      rw[Bool.and_eq_true] at f;exact .inl ⟨⟨oj,q,by rw[hq,Nat.eq_of_beq_eq_true f.1]⟩,by simpa[Nat.blt_eq] using f.2⟩
     .rename_i hq
      exact .inr ⟨Nat.le_of_ble_eq_true f,oj,q,hq⟩
    rcases ae (V listed) (DO a) w' be bb hx hu a1 hH with ⟨hg,b1⟩|⟨⟨j,b,M,s,Z,K⟩,a5,ax⟩
    .have hw:Region.wanted o (yielded l.toArray a.tmps)=true:=by
      cases s:o.guard with
      | none=>simp[Region.wanted,s]
      | some p=>
       obtain ⟨j,b⟩:=p;obtain ⟨M,Z,K⟩:=hg j b s;rcases gd j b s M Z with ⟨f,af⟩|⟨bu,_⟩
       .have n:a.tmps[M]?=some (Value.bool b):=by
         have h2:a.tmps.getD M undef=.bool b:=K;have S:M<a.tmps.size:=by rw[ha.size];exact af
         rw[Array.getElem?_eq_getElem S];simpa[S] using h2
        obtain ⟨oj,q,f⟩:=f;simp[Region.wanted,s,yielded,q,f,n]
       .exfalso;have h2:a.tmps.getD M undef=.bool b:=K;have:a.tmps.size<=M:=by rw[ha.size];exact bu
        simp[Array.getElem?_eq_none this,undef] at h2
     unfold wpOp;simp only[h2,hw,if_true];exact Or.inl (b1 _ a ha O _ _ ao (λw2 W bq=>⟨ha,hX (DO a) D w2 ar ((T w2 W).mono λy _ h=>h.imp λj h=>h.2) bq⟩))
    .have hw:Region.wanted o (yielded l.toArray a.tmps)=false:=by
      rcases gd j b s M Z with ⟨f,af⟩|⟨_,oj,q,hq⟩
      .have S:M<a.tmps.size:=by rw[ha.size];exact af
       have n:a.tmps[M]?=some (DO a M):=by
        rw[Array.getElem?_eq_getElem S];simp[DO,S]
       obtain ⟨oj,q,f⟩:=f;rcases K with K|K
       .rw[K] at n;cases b<;>simp[Region.wanted,s,yielded,q,f,n]
       .rw[K] at n;simp[Region.wanted,s,yielded,q,f,n,undef]
      .simp[Region.wanted,s,yielded,q,hq]
     unfold wpOp;simp only[h2,hw,Bool.false_eq_true,if_false];exact ao undef w' (Chg.refl _ _) (by
      have:Go.Eng.valOf o undef=undef:=by unfold Go.Eng.valOf;split<;>rfl
      rw[this];exact ⟨a5,ax⟩)
 have h1:=b4 (D5 hd (Array.replicate l.toArray.size false).toList) (Array.replicate l.toArray.size false) a D O qP (λt ht=>by have h9:=AI ht;rw[Array.toList_replicate,List.getElem?_replicate,if_pos (by rw[List.size_toArray];omega)]) (λj oj _ hl=>(by rw[getD_replicate_false] at hl;cases hl)) ha (Chg.refl _ _) (λt _=>by rw[E]) (λj d _ _=>by rw[E]) (λj _ r=>by rw[getD_replicate_false] at r;cases r);have e3:D5 hd (Array.replicate l.toArray.size false).toList+ts.length=l.toArray.size:=by have h9:=Nat.eq_of_beq_eq_true hN;simpa using h9
 rw[e3] at h1;exact h1
theorem LG.toG {P:Program} {N:Nat} {ds:List Nat} {j:List CZ} {σ:CN} {w:World} {Ms:Nat->Nat->Prop} {cl:List (List Nat)} {i:Nat} {o:Oper} {ws:List Nat} {F:CZ} (h:LG P N ds j σ w Ms cl i o ws F):LH P N ds j σ w Ms (λ_ _ _=>True) [] (λ_=>False) cl i o ws F:=λS σ' w' a b c d e f=>
 (h S σ' w' a b c d e f).imp (λ⟨g,h⟩=>⟨g,(Cs.x h).weak λ_ _ _ r=>⟨r,trivial⟩⟩) λ⟨u,f⟩=>⟨u,f,trivial⟩
theorem DagStepsS.toG {P:Program} {N:Nat} {ds:List Nat} {a:List CZ} {σ:CN} {w:World} {Ms:Nat->Nat->Prop} {cl:List (List Nat)}:∀{i:Nat} {l:List Oper} {wss:List (List Nat)} {hs:List Bool} {b:List CZ},DagStepsS P N ds a σ w Ms cl i l wss hs b->DagStepsG P N ds a σ w Ms (λ_ _ _=>True) [] (λ_=>False) cl i l wss hs b
 | _,_,_,_,_,.nil=>.nil
 | _,_,_,_,_,.cons s lc h t=>.cons (λp f e S σ v w w' hi g _ d _ c=>s p f e S σ v w w' hi g d c) lc h.toG t.toG
 | _,_,_,_,_,.tail t=>.tail t.toG
theorem GJ {P:Program} {N:Nat} {Q:Dj} {σ:CN} {w:World} {n:Nat} {l:List Oper} (Ms:Nat->Nat->Prop) (hd:List Bool) (ts:List Nat) (ds:List Nat) (wss cl:List (List Nat)) (c:List CZ) {d:List CZ} (q:c=d) (m:QS wss cl=true) (p:P.follows .mixedOrders=true) (o:FC N hd 0 l ds wss hd=true) (g:Gr ds=true)
 (i:(O0 l hd ts && KL l.toArray ts hd.toArray)=true) (f:Nat.beq (D5 hd (List.replicate l.length false)+ts.length) l.length=true)
 (b:∀a,Ao w a->DagStepsS P N ds c σ a Ms cl 0 l cl hd d)
 (k:∀σ' a w',Ao w a->Chg (λy=>∃j,hd.getD j false=true∧Ms j y) a w'->(∀t,ds.contains t=false->σ' t=σ t)->(∀j,hd[j]?=some true->IL ds c (Iw hd) j σ' w')->DW P N l.toArray (Q .normal) Q (ts.filterMap λk=>l[k]?) σ' w'):Wp P N (.region n l.toArray true) Q σ w:=
 M9 Ms (λ_ _ _=>True) [] (λ_=>False) hd ts ds wss cl c q m p o g i f (λa e=>(b a e).toG) (λ_ _ _ _ _ h=>h.elim) k
section
variable {Ms : Nat → Nat → Prop} {i : Nat} {ws ds : List Nat}
theorem CY.eq {u:Value}:CY Ms i ws (λ_ _ v _=>v=u):=λ_ _ _ _ _ _ _ _ _ _ _ h=>h
theorem CY.chg {F:El} {U:Nat->Prop} (c:∀v w w',Chg U w w'->F v w->F v w') (b:∀p y,p≠i->ws.contains p=false->Ms p y->U y):CY Ms i ws (λ_ _=>F):=
 λp e a _ _ v w w' _ _ x h=>c v w w' (x.mono λy _ d=>b p y e a d) h
theorem CY.till {F:El} {U:Nat->Prop} {c:Nat} (g:∀v w w',Chg U w w'->F v w->F v w') (f:∀p y,p≠i->ws.contains p=false->p≠c->Ms p y->U y):CY Ms i ws (λS _ v w=>S c=false->F v w):=
 λp k d S _ v w w' _ _ x h b=>by
  have a:p≠c:=λe=>by subst e;rw[FN] at b;cases b
  rw[Hf (Ne.symm a)] at b;exact g v w w' (x.mono λy _ j=>f p y k d a j) (h b)
theorem CT.const {G:(Nat->Bool)->El}:CT ds ws (λS _=>G S):=λ_ _ _ _ _ _ h=>h
end
theorem qZ {P:Program} {N:Nat} {ds:List Nat} {g:List CZ} {σ:CN} {w:World} {Ms:Nat->Nat->Prop} {cl:List (List Nat)} {i:Nat} {dst:Option Tmp} {op:Op} {ty:TypeId} {pos:String} {af:Array Edge} {ws:List Nat} {u:Value} {l:List Oper} {wss:List (List Nat)} {hs:List Bool} {k:List CZ}
 (h:∀(S:Nat->Bool) σ' w',S i=false->(∀j,(cl.getD j []).contains i=true->S j=false)->Chg (λy=>∃j,S j=true∧Ms j y) w w'->(∀t,ds.contains t=false->σ' t=σ t)->(∀j d,ds[j]?=some d->S j=false->σ' d=σ d)->(∀j,ws.contains j=true->S j=true∧IL ds g S j σ' w')->Cs (Ms i) P N ⟨dst,op,ty,pos,af,none⟩ (λv _=>Go.Eng.valOf ⟨dst,op,ty,pos,af,none⟩ v=u) σ' w')
 (t:DagStepsS P N ds g σ w Ms cl (i+1) l wss hs k):DagStepsS P N ds g σ w Ms cl i (⟨dst,op,ty,pos,af,none⟩::l) (ws::wss) (true::hs) ((eF u)::k):=
 .cons CY.eq CT.const (λS m w' a b c d e f=>.inl ⟨AQ O,h S m w' a b c d e f⟩) t
section
variable {M : Nat → Prop} {P : Program} {N : Nat} {o : Oper} {R : El} {σ : CN} {w : World} {dst : Option Tmp} {ty : TypeId} {pos : String} {af : Array Edge} {g : Option (Nat × Bool)} {t : TypeId}
theorem AX {v:Value} (a:(execOp (ev σ) o).run P w=.ok (.value v) w) (h:R v w):Cs M P N o R σ w:=AY a (Chg.refl _ _) h
theorem DB {R R':El} (h:Cs M P N o R σ w) (g:∀v w,R v w->R' (Go.Eng.valOf o v) w):Cs M P N o (λv w=>R' (Go.Eng.valOf o v) w) σ w:=λe a f j Q K i=>h e a f j Q K λv c b d=>i v c b (g v c d)
theorem Cw {f:FuncId} {args:Array Value} (a:(execOp (ev σ) o).run P w=.ok (.enter f args) w) (b:CJ P f args w λv w'=>R v w'∧Ao w w'):Cs M P N o R σ w:=
 Dv a (b.mono λ_ _ h=>⟨h.1,Ao.chg h.2⟩)
theorem Ez {d hs:Nat} {z:Value} {c:Array Value} (e:EO P t z) (f:z.cells=c) (b:hs<=w.heap.size):Cs M P N ⟨some d,.alloc t,ty,pos,af,g⟩ (M7 t c hs) σ w:=by
 subst f;have a:=New.mk' w z.cells t;exact AY (v:=.pointer (some ⟨w.heap.size,0,none⟩)) (by simp[execOp,Instr.alloc,e.run,newVar,newRow]) (Ao.chg a.ext) ⟨_,O,a.blk,b⟩
end
def G_ (st:Nat) (rest:List Value) (G:El):CZ:=λS _ v w=>∃u,v=.tuple (u::rest).toArray∧(S st=false->G u w)
def Jn (sa n:Nat) (T:TypeId) (G:El):CZ:=λ_ s _ w=>∃b vs,s sa=.pointer (some ⟨b,0,none⟩)∧n<=b∧Az w b vs T∧G (.agg vs) w
section
variable {Ms : Nat → Nat → Prop} {i : Nat} {ws ds : List Nat}
theorem CY.tup {c:Nat} {rest:List Value} {G:El} {U:Nat->Prop} (f:∀v w w',Chg U w w'->G v w->G v w') (g:∀p y,p≠i->ws.contains p=false->p≠c->Ms p y->U y):CY Ms i ws (G_ c rest G):=
 λp m d S _ v w w' _ _ x h=>by
  obtain ⟨u,k,j⟩:=h;refine ⟨u,k,λb=>?_⟩;have a:p≠c:=λe=>by subst e;rw[FN] at b;cases b
  rw[Hf (Ne.symm a)] at b;exact f u w w' (x.mono λy _ l=>g p y m d a l) (j b)
theorem CY.put {k n:Nat} {T:TypeId} {G:El} (d:∀v w w',Ao w w'->G v w->G v w') (e:∀p y,p≠i->ws.contains p=false->Ms p y->False):CY Ms i ws (Jn k n T G):=
 λp o c _ _ v w w' _ _ x h=>by
  obtain ⟨b,vs,j,g,f,l⟩:=h;have a:Ao w w':=x.mono λy _ m=>(e p y o c m).elim;exact ⟨b,vs,j,g,Ao.keep a f,d _ _ _ a l⟩
theorem CT.put {a n j:Nat} {T:TypeId} {G:El} (d:ws.contains j=true) (hd:ds[j]?=some a):CT ds ws (Jn a n T G):=
 λ_ σ1 σ2 hs v w h=>by
  obtain ⟨b,vs,c,e⟩:=h;exact ⟨b,vs,by rw[hs j a d hd];exact c,e⟩
end
theorem IM {M:Nat->Prop} {P:Program} {N:Nat} {σ:CN} {w:World} {ty:TypeId} {pos:String} {af:Array Edge} {g:Option (Nat×Bool)} {T:TypeId} {x y:Operand} {b n:Nat} {u:Value} {c:Array Value} {G:El} (k:ev σ x=.pointer (some ⟨b,0,none⟩)) (m:ev σ y=u) (e:G u w) (f:Az w b c T) (hc:c.size=n) (hs:DK P T n)
 (a:∀u w,G u w->∃vs:Array Value,u=.agg vs∧vs.size=n∧∀v∈vs.toList,v.oneCell'=true) (d:∀u w w',Az w b c T->Chg (λy=>y=b) w w'->G u w->G u w') (l:M b) :
 Cs M P N ⟨none,.store T x y,ty,pos,af,g⟩ (λ_ w'=>∃vs,Az w' b vs T∧G (.agg vs) w') σ w:=by
 obtain ⟨vs,rfl,o,j⟩:=a u w e;refine Du k m j hs o f qO l λw' h=>⟨vs,?_,d _ _ _ f h.chg e⟩;have i:=h.blk;rw[List.take_zero,List.nil_append,Nat.zero_add,List.drop_of_length_le (by simp;omega),List.append_nil] at i;simpa using i
end Go.Eng
namespace Go.Proofs
open Go Go.Eng Go.Sort
set_option maxRecDepth 100000
--BEGIN
def RX (both:Bool) (x y:Int):Bool:=bif both then decide (0<=x) && decide (0<=y) else decide (0<=x) || decide (0<=y)
def Et (both:Bool) (a b:Dfa) (k:Int×Int) (x:Nat):Option (Int×Int):=bif RX both (BN a k.1 x) (BN b k.2 x) then some (BN a k.1 x,BN b k.2 x) else none
def T1 (both:Bool) (x y:Int):Int:=if (both && decide (y<0))=true then -1 else if (both || decide (0<=x))=true then x else y
def Gj (both:Bool) (a b:Dfa) (k:Int×Int):Int:=T1 both (EX a k.1) (EX b k.2)
theorem Sl {c:Bool} {x y:Int} (h:RX c x y=false) (a b:Dfa) (w:List Nat):T1 c (beh a x w) (beh b y w) = -1:=by
 unfold RX at h;cases c with
 | true=>
  simp only[cond_true,Bool.and_eq_false_iff,decide_eq_false_iff_not] at h;unfold T1;by_cases d:beh b y w<0
  .simp[d]
  .simp only[Bool.true_and,decide_eq_true_eq,d,if_false,Bool.true_or,if_true];rcases h with h|h
   .exact Dy qO
   .rw[Dy (show y<0 by omega)] at d;exact absurd qD d
 | false=>
  simp only[cond_false,Bool.or_eq_false_iff,decide_eq_false_iff_not] at h;rw[Dy (show x<0 by omega),Dy (show y<0 by omega)];rfl
theorem K7 (c:Bool) (a b:Dfa):∀(w:List Nat) (k:Int×Int),K8 (Et c a b) (Gj c a b) k w=T1 c (beh a k.1 w) (beh b k.2 w)
 | [],k=>rfl
 | x::w,k=>by
  simp only[K8,FH,beh];cases hs:RX c (BN a k.1 x) (BN b k.2 x) with
  | true=>
   simp only[Et,hs,cond_true,Option.bind_some];exact K7 c a b w (BN a k.1 x,BN b k.2 x)
  | false=>
   simp only[Et,hs,cond_false,Option.bind_none];exact (Sl hs a b w).symm
theorem Le {d:Bool} {a b:Dfa} {n m c:Nat} (e:OkD n c a) (hb:OkD m c b):∀(w:List Nat) (k q:Int×Int),(-1<=k.1∧k.1<n)∧(-1<=k.2∧k.2<m)->FH (Et d a b) k w=some q->(-1<=q.1∧q.1<n)∧(-1<=q.2∧q.2<m)
 | [],k,q,h,hr=>by simp only[FH,Option.some.injEq] at hr;subst hr;exact h
 | x::w,k,q,h,hr=>by
  simp only[FH] at hr;cases hs:Et d a b k x with
  | none=>rw[hs] at hr;cases hr
  | some p=>
   rw[hs] at hr;simp only[Option.bind_some] at hr;refine Le e hb w p q ?_ hr;unfold Et at hs;cases ho:RX d (BN a k.1 x) (BN b k.2 x) with
   | true=>rw[ho] at hs;simp only[cond_true,Option.some.injEq] at hs;subst hs;exact ⟨e.to,hb.to⟩
   | false=>rw[ho] at hs;cases hs
theorem Ha {d:Bool} {a b:Dfa} {n m c:Nat} (e:OkD n c a) (hb:OkD m c b) {k:Int×Int} (h:RZ c (Et d a b) (a.start,b.start) k):(-1<=k.1∧k.1<n)∧(-1<=k.2∧k.2<m):=by
 obtain ⟨w,_,f⟩:=h;have g:=e.st;have i:=hb.st;exact Le e hb w _ _ ⟨⟨by show -1<=a.start;omega,g.2⟩,⟨by show -1<=b.start;omega,i.2⟩⟩ f
theorem Tt {f:Bool} {a b:Dfa} {n m c:Nat} (g:OkD n c a) (hb:OkD m c b) (j:∀x∈a.accept,x<2147483648) (i:∀x∈b.accept,x<2147483648) (k:Int×Int) : -1<=Gj f a b k∧Gj f a b k<2147483648:=by
 have e:∀{d:Dfa} (s:Int),(∀x∈d.accept,x<2147483648)->EX d s<2147483648:=fun {d} s h=>by
  unfold EX;split
  .decide
  .rw[List.getD_eq_getElem?_getD];cases hx:d.accept[s.toNat]? with
   | none=>decide
   | some x=>exact h x (List.mem_of_getElem? hx)
 have a1:=g.at' (s:=k.1);have b1:=hb.at' (s:=k.2);have a2:=e k.1 j;have b2:=e k.2 i;unfold Gj T1;split
 .omega
 .split<;>omega
--END
theorem SI (w0:World) (n m c:Nat) (a b:Dfa) (av bv:List Value) (both:Bool) (ba bb bf:Nat) (k:Int×Int) (x:Nat) (oka:OkD n c a) (okb:OkD m c b) (ha:B' w0 a av) (hb:B' w0 b bv) (hBa:Az w0 ba av.toArray 52) (hBb:Az w0 bb bv.toArray 52) (hBf:Az w0 bf #[.bool both] 4) (hk:k.1<n∧k.2<m) (hx:x<c) :
  CJ prog 187 #[.agg #[.int .i64 k.1,.int .i64 k.2],.int .i64 ((x:Nat):Int),.pointer (some ⟨ba,0,none⟩),.pointer (some ⟨bb,0,none⟩),.pointer (some ⟨bf,0,none⟩)] w0 fun r w=>r=.tuple #[.agg #[.int .i64 (BN a k.1 x),.int .i64 (BN b k.2 x)],.bool (RX both (BN a k.1 x) (BN b k.2 x))]∧Ao w0 w:=by
 have ca:=ha;have ce:=hb;obtain ⟨aa,ac,na,nc,rfl,_,_⟩:=ca;obtain ⟨cq,ck,cr,b7,rfl,_,_⟩:=ce;refine qR func187 rfl ntmps187 rfl (fun E=>(Y (BM (v:=(.agg #[(I6 k.1),(I6 k.2)])) (c:=#[(I6 k.1),(I6 k.2)]) qD rfl rfl ?_)));intro bq wq Nq;have Fq:=Nq.ge E;have Oq_ba:=Nq.lt hBa;have Oq_bb:=Nq.lt hBb;have Oq_bf:=Nq.lt hBf;replace hBa:=Nq.keep hBa;replace hBb:=Nq.keep hBb;replace hBf:=Nq.keep hBf;replace E:=E.ext Nq.ext;have Bq:=Nq.blk;refine BO (c:=#[(I6 0),(I6 0)]) qD LT rfl ?_;intro br wr Nr;have Fr:=Nr.ge E;have Or_ba:=Nr.lt hBa;have Or_bb:=Nr.lt hBb;have Or_bf:=Nr.lt hBf;have Or_bq:=Nr.lt Bq;replace hBa:=Nr.keep hBa;replace hBb:=Nr.keep hBb;replace hBf:=Nr.keep hBf;replace Bq:=Nr.keep Bq;replace E:=E.ext Nr.ext;have Br:=Nr.blk;refine qA _ rfl (AA ?_);have cv:w0.heap.size≤wr.heap.size:=E.size;have a0:ba<wr.heap.size:=hBa.lt;have al:bb<wr.heap.size:=hBb.lt;have bj:bf<wr.heap.size:=hBf.lt;have aq:bq<wr.heap.size:=Bq.lt;have a6:br<wr.heap.size:=Br.lt;refine AE ?_;obtain ⟨cy,ae⟩:∃Fs:List CZ,Fs=[(eF (.agg #[(I6 a.start),(.slice aa a.accept.length ac),(.slice na a.next.length nc)])),(eF (P6 bq 0)),(eF (I6 k.1)),(eF (I6 (x:Int))),(eF (I6 (BN a k.1 x))),(eF (.agg #[(I6 b.start),(.slice cq b.accept.length ck),(.slice cr b.next.length b7)])),(eF (P6 bq 1)),(eF (I6 k.2)),(eF (I6 (x:Int))),(eF (I6 (BN b k.2 x))),(eF (.agg #[(I6 (BN a k.1 x)),(I6 (BN b k.2 x))])),(fun _ _=>M7 36 #[(I6 0),(I6 0)] wr.heap.size),(eF undef)]:=⟨_,rfl⟩;refine GJ (ND []) [true,true,true,true,true,true,true,true,true,true,true,true,false] [12] [10,11,12,13,14,15,16,17,18,19,20,9,52] [[],[],[1],[],[0,2,3],[],[],[6],[],[4,5,7,8],[4,9],[],[]] [[],[],[1],[],[0,2,1,3],[],[],[6],[],[4,0,2,1,3,5,7,6,8],[4,0,2,1,3,9,5,7,6,8],[],[]] cy ae qK mixed qK qK qK qK ?_ ?_
 ·intro wd X0;refine qZ (fun S s' w' hi hN X U V H=>?_) ?_
  ·replace X:=IN X;exact AX (AU (U 2 rfl) BC Ap rfl (((X0.trans X).keep hBa).cells rfl)) rfl
  refine qZ (fun S s' w' hi hN X U V H=>?_) ?_
  ·replace X:=IN X;exact AX (DC (i:=0) (U 5 rfl) rfl rfl underlying36 Ab qO qO) rfl
  refine qZ (fun S s' w' hi hN X U V H=>?_) ?_
  ·replace X:=IN X;have cw:=(H 1 rfl).2 11 _ rfl (by rw[ae];rfl);exact AX (AD cw Aa (((X0.trans X).keep Bq).cell rfl)) rfl
  refine qZ (fun S s' w' hi hN X U V H=>?_) ?_
  ·replace X:=IN X;exact AX (Ah (U 1 rfl)) rfl
  refine qZ (fun S s' w' hi hN X U V H=>?_) ?_
  ·replace X:=IN X;have cm:=(H 0 rfl).2 10 _ rfl (by rw[ae];rfl);have ch:=(H 2 rfl).2 12 _ rfl (by rw[ae];rfl);have b4:=(H 3 rfl).2 13 _ rfl (by rw[ae];rfl);exact Cw (AT func106 kQ kQ (Qz cm ch b4)) ((Mw _ n c a _ k.1 (x:Int) oka (ha.ext (Ao.trans E (X0.trans X))) hk.1 qO).mono (fun v w h=>h))
  refine qZ (fun S s' w' hi hN X U V H=>?_) ?_
  ·replace X:=IN X;exact AX (AU (U 3 rfl) BC Ap rfl (((X0.trans X).keep hBb).cells rfl)) rfl
  refine qZ (fun S s' w' hi hN X U V H=>?_) ?_
  ·replace X:=IN X;exact AX (DC (i:=1) (U 5 rfl) rfl rfl underlying36 Ab qO qO) rfl
  refine qZ (fun S s' w' hi hN X U V H=>?_) ?_
  ·replace X:=IN X;have ci:=(H 6 rfl).2 16 _ rfl (by rw[ae];rfl);exact AX (AD ci Aa (((X0.trans X).keep Bq).cell rfl)) rfl
  refine qZ (fun S s' w' hi hN X U V H=>?_) ?_
  ·replace X:=IN X;exact AX (Ah (U 1 rfl)) rfl
  refine qZ (fun S s' w' hi hN X U V H=>?_) ?_
  ·replace X:=IN X;have cf:=(H 5 rfl).2 15 _ rfl (by rw[ae];rfl);have cg:=(H 7 rfl).2 17 _ rfl (by rw[ae];rfl);have b3:=(H 8 rfl).2 18 _ rfl (by rw[ae];rfl);exact Cw (AT func106 kQ kQ (Qz cf cg b3)) ((Mw _ m c b _ k.2 (x:Int) okb (hb.ext (Ao.trans E (X0.trans X))) hk.2 qO).mono (fun v w h=>h))
  refine qZ (fun S s' w' hi hN X U V H=>?_) ?_
  ·replace X:=IN X;have cs:=(H 4 rfl).2 14 _ rfl (by rw[ae];rfl);have b6:=(H 9 rfl).2 19 _ rfl (by rw[ae];rfl);exact AX (BU (ps:=[(0,(I6 (BN a k.1 x))),(1,(I6 (BN b k.2 x)))]) (v:=(.agg #[(I6 (BN a k.1 x)),(I6 (BN b k.2 x))])) (XW cs b6) qK) rfl
  refine DagStepsS.cons (CY.chg (U:=AZ) (fun v w w' x h=>Ix _ _ _ v w w' x h) (fun p y hp hw h=>by
     exact h.elim)) (CT.const) (fun S s' w' hi hN X U V H=>Or.inl ⟨AQ rfl,?_⟩) ?_
  ·replace X:=IN X;exact Ez (c:=#[(I6 0),(I6 0)]) LT rfl (by have:=X0.size;have:=X.size;omega)
  refine DagStepsS.tail ?_;exact DagStepsS.nil
 ·intro s' wd1 w1 X0 X1 U H;replace X1:=X1.mono (M':=AZ) (fun y _ h=>by
    obtain ⟨j,hj,h⟩:=h;exact h.elim)
  have cj:=H 10 rfl 20 _ rfl (by rw[ae];rfl);obtain ⟨b9,e9,B9,g9⟩:=(show ((fun _ _=>M7 36 #[(.int .i64 0),(.int .i64 0)] wr.heap.size):CZ) (Iw [true,true,true,true,true,true,true,true,true,true,true,true,false]) s' (s' 9) w1 from H 11 rfl 9 (fun _ _=>M7 36 #[(.int .i64 0),(.int .i64 0)] wr.heap.size) rfl (by rw[ae];rfl));obtain ⟨j1,rfl⟩:=Af.out (σ:=s') (l:=[(4,(.pointer (some ⟨bf,0,none⟩))),(7,(.pointer (some ⟨br,0,none⟩))),(20,(.agg #[(.int .i64 (BN a k.1 x)),(.int .i64 (BN b k.2 x))])),(9,(.pointer (some ⟨b9,0,none⟩)))]) ⟨U 4 rfl,U 7 rfl,cj,e9,trivial⟩;clear U H;replace hBa:=(X0.trans X1).keep hBa;replace hBb:=(X0.trans X1).keep hBb;replace hBf:=(X0.trans X1).keep hBf;replace Bq:=(X0.trans X1).keep Bq;replace Br:=(X0.trans X1).keep Br;replace X1:=X0.trans X1;replace E:=E.ext X1;refine Al (b:=b9) (o:=0) (c':=#[(I6 (BN a k.1 x)),(I6 (BN b k.2 x))]) rfl rfl qS DL rfl B9 qL rfl ?_;intro w2 S2;replace hBa:=S2.keep qO hBa;replace hBb:=S2.keep qO hBb;replace hBf:=S2.keep qO hBf;replace Bq:=S2.keep qO Bq;replace Br:=S2.keep qO Br;replace E:=S2.step E qQ;replace B9:=S2.blk;refine AA (AB ?_);rcases Bool.eq_false_or_eq_true (both) with ai|ai
  ·have bm:=ai;rcases Bool.eq_false_or_eq_true (decide ((0:Int)≤BN a k.1 x)) with aj|aj
   ·have af:=aj;replace af:=of_decide_eq_true af;refine AE (Y (qV (AD rfl GF (hBf.cell rfl)) (AA (A4 (Aw ai) ?_))));have b8:w0.heap.size≤w2.heap.size:=E.size;have a7:ba<w2.heap.size:=hBa.lt;have an:bb<w2.heap.size:=hBb.lt;have ax:bf<w2.heap.size:=hBf.lt;have am:bq<w2.heap.size:=Bq.lt;have a8:br<w2.heap.size:=Br.lt;have bi:b9<w2.heap.size:=B9.lt;refine AE ?_;obtain ⟨cp,ad⟩:∃Fs:List CZ,Fs=[(eF (.agg #[(I6 (BN a k.1 x)),(I6 (BN b k.2 x))])),(eF (P6 b9 0)),(eF (I6 (BN a k.1 x))),(eF (.bool true)),(eF (.bool true)),(eF (P6 b9 1)),(eF (I6 (BN b k.2 x))),(eF (.bool (decide ((0:Int)≤BN b k.2 x)))),(eF (.bool (decide ((0:Int)≤BN b k.2 x)))),(fun _ _=>(fun _ w=>Az w br #[(I6 (BN a k.1 x)),(I6 (BN b k.2 x))] 36)),(eF undef)]:=⟨_,rfl⟩;refine GJ (ND [(9,(fun y=>y=br))]) [true,true,true,true,true,true,true,true,true,true,false] [10] [22,23,24,25,26,27,28,29,30,49,50] [[],[],[1],[2],[3],[4],[4,5],[4,6],[4,7],[0,4],[]] [[],[],[1],[2,1],[3,2,1],[4,3,2,1],[4,3,2,1,5],[4,3,2,1,6,5],[4,3,2,1,7,6,5],[0,4,3,2,1],[]] cp ad qK mixed qK qK qK qK ?_ ?_
    ·intro wd X0;refine qZ (fun S s' w' hi hN X U V H=>?_) ?_
     ·replace X:=Em (hN 9 rfl) X;exact AX (AU (U 9 rfl) F7 DL rfl (((X0.trans X).keep B9).cells rfl)) rfl
     refine qZ (fun S s' w' hi hN X U V H=>?_) ?_
     ·replace X:=Em (hN 9 rfl) X;exact AX (DC (i:=0) (U 9 rfl) rfl rfl underlying36 Ab qO qO) rfl
     refine qZ (fun S s' w' hi hN X U V H=>?_) ?_
     ·replace X:=Em (hN 9 rfl) X;have bx:=(H 1 rfl).2 23 _ rfl (by rw[ad];rfl);exact AX (AD bx Aa (((X0.trans X).keep B9).cell rfl)) rfl
     refine qZ (fun S s' w' hi hN X U V H=>?_) ?_
     ·replace X:=Em (hN 9 rfl) X;have bw:=(H 2 rfl).2 24 _ rfl (by rw[ad];rfl);exact AX (Eq.trans (C3 bw rfl) (by rw[aj])) rfl
     refine qZ (fun S s' w' hi hN X U V H=>?_) ?_
     ·replace X:=Em (hN 9 rfl) X;have bt:=(H 3 rfl).2 25 _ rfl (by rw[ad];rfl);exact AX (Ah bt) rfl
     refine DagStepsS.cons (CY.eq) (CT.const) (fun S s' w' hi hN X U V H=>Or.inl ⟨Dz rfl rfl (d:=26) ((H 4 rfl).2 26 (eF (.bool true)) rfl (by rw[ad];rfl)),?_⟩) ?_
     ·replace X:=RU X;exact AX (DC (i:=1) (U 9 rfl) rfl rfl underlying36 Ab qO qO) rfl
     refine DagStepsS.cons (CY.eq) (CT.const) (fun S s' w' hi hN X U V H=>Or.inl ⟨Dz rfl rfl (d:=26) ((H 4 rfl).2 26 (eF (.bool true)) rfl (by rw[ad];rfl)),?_⟩) ?_
     ·replace X:=RU X;have cx:=(H 5 rfl).2 27 _ rfl (by rw[ad];rfl);exact AX (AD cx Aa ((Chg.keep X kH (X0.keep B9)).cell rfl)) rfl
     refine DagStepsS.cons (CY.eq) (CT.const) (fun S s' w' hi hN X U V H=>Or.inl ⟨Dz rfl rfl (d:=26) ((H 4 rfl).2 26 (eF (.bool true)) rfl (by rw[ad];rfl)),?_⟩) ?_
     ·replace X:=RU X;have ct:=(H 6 rfl).2 28 _ rfl (by rw[ad];rfl);exact AX (C3 ct rfl) rfl
     refine qZ (fun S s' w' hi hN X U V H=>?_) ?_
     ·replace X:=RU X;have bn:=(H 4 rfl).2 26 _ rfl (by rw[ad];rfl);have b5:=(H 7 rfl).2 29 _ rfl (by rw[ad];rfl);exact AX (Ac bn b5) rfl
     refine DagStepsS.cons (CY.chg (U:=AZ) (fun v w w' x h=>Chg.keep x (fun h=>h) h) (fun p y hp hw h=>by
        rcases B7 h with ⟨rfl,h0⟩|h0
        ·exact absurd rfl hp
        exact h0.elim)) (CT.const) (fun S s' w' hi hN X U V H=>Or.inl ⟨AQ rfl,?_⟩) ?_
     ·replace X:=Em hi X;have bu:=(H 0 rfl).2 22 _ rfl (by rw[ad];rfl);exact Du (b:=br) (o:=0) (n:=2) (U 7 rfl) bu qS DL rfl ((X0.trans X).keep Br) qP (by first|exact .inl ⟨rfl,rfl⟩|exact .inr (.inl ⟨rfl,rfl⟩)|exact .inr (.inr (.inl ⟨rfl,rfl⟩))) (fun w9 h=>by have h2:=h.blk;simpa using h2)
     refine DagStepsS.tail ?_;exact DagStepsS.nil
    ·intro s' wd3 w3 X0 X3 U H;replace X3:=X3.mono (M':=(fun y=>(fun y=>y=br) y)) (fun y _ h=>by
       obtain ⟨j,hj,h⟩:=h;rcases B7 h with ⟨rfl,h0⟩|h0
       ·exact h0
       exact h0.elim)
     have bs:=H 8 rfl 30 _ rfl (by rw[ad];rfl);obtain ak:=(show ((fun _ _=>(fun _ w=>Az w br #[(.int .i64 (BN a k.1 x)),(.int .i64 (BN b k.2 x))] 36)):CZ) (Iw [true,true,true,true,true,true,true,true,true,true,false]) s' (s' 49) w3 from H 9 rfl 49 (fun _ _=>(fun _ w=>Az w br #[(.int .i64 (BN a k.1 x)),(.int .i64 (BN b k.2 x))] 36)) rfl (by rw[ad];rfl));obtain ⟨j3,rfl⟩:=Af.out (σ:=s') (l:=[(7,(.pointer (some ⟨br,0,none⟩))),(30,(.bool (decide ((0:Int)≤BN b k.2 x))))]) ⟨U 7 rfl,bs,trivial⟩;clear U H;replace Br:=ak;replace hBa:=Chg.keep X3 kH (X0.keep hBa);replace hBb:=Chg.keep X3 kH (X0.keep hBb);replace hBf:=Chg.keep X3 kH (X0.keep hBf);replace Bq:=Chg.keep X3 kH (X0.keep Bq);replace B9:=Chg.keep X3 kH (X0.keep B9);replace E:=(E.ext X0).step X3 (fun y hy h=>by first|omega|(dsimp only at h;omega));refine qA _ rfl (AA (AB (AS (AO (BJ results187 (vs:=[(.int .i64 (BN a k.1 x)),(.int .i64 (BN b k.2 x))]) (b:=br) (v':=(.bool (decide ((0:Int)≤BN b k.2 x)))) rfl F7 DL rfl (Br.cells rfl) rfl ?_)))));exact ⟨by unfold RX;rw[ai];simp[af],E⟩
   ·have af:=aj;replace af:=of_decide_eq_false af;refine AE (Y (qV (AD rfl GF (hBf.cell rfl)) (AA (A4 (Aw ai) ?_))));have cd:w0.heap.size≤w2.heap.size:=E.size;have a2:ba<w2.heap.size:=hBa.lt;have a1:bb<w2.heap.size:=hBb.lt;have az:bf<w2.heap.size:=hBf.lt;have a4:bq<w2.heap.size:=Bq.lt;have ao:br<w2.heap.size:=Br.lt;have a3:b9<w2.heap.size:=B9.lt;refine AE ?_;obtain ⟨cz,ag⟩:∃Fs:List CZ,Fs=[(eF (.agg #[(I6 (BN a k.1 x)),(I6 (BN b k.2 x))])),(eF (P6 b9 0)),(eF (I6 (BN a k.1 x))),(eF (.bool false)),(eF (.bool false)),(eF undef),(eF undef),(eF undef),(eF (.bool false)),(fun _ _=>(fun _ w=>Az w br #[(I6 (BN a k.1 x)),(I6 (BN b k.2 x))] 36)),(eF undef)]:=⟨_,rfl⟩;refine GJ (ND [(9,(fun y=>y=br))]) [true,true,true,true,true,true,true,true,true,true,false] [10] [22,23,24,25,26,27,28,29,30,49,50] [[],[],[1],[2],[3],[4],[4,5],[4,6],[4,7],[0,4],[]] [[],[],[1],[2,1],[3,2,1],[4,3,2,1],[4,3,2,1,5],[4,3,2,1,6,5],[4,3,2,1,7,6,5],[0,4,3,2,1],[]] cz ag qK mixed qK qK qK qK ?_ ?_
    ·intro wd X0;refine qZ (fun S s' w' hi hN X U V H=>?_) ?_
     ·replace X:=Em (hN 9 rfl) X;exact AX (AU (U 9 rfl) F7 DL rfl (((X0.trans X).keep B9).cells rfl)) rfl
     refine qZ (fun S s' w' hi hN X U V H=>?_) ?_
     ·replace X:=Em (hN 9 rfl) X;exact AX (DC (i:=0) (U 9 rfl) rfl rfl underlying36 Ab qO qO) rfl
     refine qZ (fun S s' w' hi hN X U V H=>?_) ?_
     ·replace X:=Em (hN 9 rfl) X;have bx:=(H 1 rfl).2 23 _ rfl (by rw[ag];rfl);exact AX (AD bx Aa (((X0.trans X).keep B9).cell rfl)) rfl
     refine qZ (fun S s' w' hi hN X U V H=>?_) ?_
     ·replace X:=Em (hN 9 rfl) X;have bw:=(H 2 rfl).2 24 _ rfl (by rw[ag];rfl);exact AX (Eq.trans (C3 bw rfl) (by rw[aj])) rfl
     refine qZ (fun S s' w' hi hN X U V H=>?_) ?_
     ·replace X:=Em (hN 9 rfl) X;have bt:=(H 3 rfl).2 25 _ rfl (by rw[ag];rfl);exact AX (Ah bt) rfl
     refine DagStepsS.cons (CY.eq) (CT.const) (fun S s' w' hi hN X U V H=>Or.inr ⟨Gk rfl rfl (d:=26) (Or.inl ((H 4 rfl).2 26 (eF (.bool false)) rfl (by rw[ag];rfl))),?_⟩) ?_
     ·exact rfl
     refine DagStepsS.cons (CY.eq) (CT.const) (fun S s' w' hi hN X U V H=>Or.inr ⟨Gk rfl rfl (d:=26) (Or.inl ((H 4 rfl).2 26 (eF (.bool false)) rfl (by rw[ag];rfl))),?_⟩) ?_
     ·exact rfl
     refine DagStepsS.cons (CY.eq) (CT.const) (fun S s' w' hi hN X U V H=>Or.inr ⟨Gk rfl rfl (d:=26) (Or.inl ((H 4 rfl).2 26 (eF (.bool false)) rfl (by rw[ag];rfl))),?_⟩) ?_
     ·exact rfl
     refine qZ (fun S s' w' hi hN X U V H=>?_) ?_
     ·replace X:=RU X;have bn:=(H 4 rfl).2 26 _ rfl (by rw[ag];rfl);exact AX (Ac bn rfl) rfl
     refine DagStepsS.cons (CY.chg (U:=AZ) (fun v w w' x h=>Chg.keep x (fun h=>h) h) (fun p y hp hw h=>by
        rcases B7 h with ⟨rfl,h0⟩|h0
        ·exact absurd rfl hp
        exact h0.elim)) (CT.const) (fun S s' w' hi hN X U V H=>Or.inl ⟨AQ rfl,?_⟩) ?_
     ·replace X:=Em hi X;have bu:=(H 0 rfl).2 22 _ rfl (by rw[ag];rfl);exact Du (b:=br) (o:=0) (n:=2) (U 7 rfl) bu qS DL rfl ((X0.trans X).keep Br) qP (by first|exact .inl ⟨rfl,rfl⟩|exact .inr (.inl ⟨rfl,rfl⟩)|exact .inr (.inr (.inl ⟨rfl,rfl⟩))) (fun w9 h=>by have h2:=h.blk;simpa using h2)
     refine DagStepsS.tail ?_;exact DagStepsS.nil
    ·intro s' wd4 w4 X0 X4 U H;replace X4:=X4.mono (M':=(fun y=>(fun y=>y=br) y)) (fun y _ h=>by
       obtain ⟨j,hj,h⟩:=h;rcases B7 h with ⟨rfl,h0⟩|h0
       ·exact h0
       exact h0.elim)
     have bs:=H 8 rfl 30 _ rfl (by rw[ag];rfl);obtain ak:=(show ((fun _ _=>(fun _ w=>Az w br #[(.int .i64 (BN a k.1 x)),(.int .i64 (BN b k.2 x))] 36)):CZ) (Iw [true,true,true,true,true,true,true,true,true,true,false]) s' (s' 49) w4 from H 9 rfl 49 (fun _ _=>(fun _ w=>Az w br #[(.int .i64 (BN a k.1 x)),(.int .i64 (BN b k.2 x))] 36)) rfl (by rw[ag];rfl));obtain ⟨j4,rfl⟩:=Af.out (σ:=s') (l:=[(7,(.pointer (some ⟨br,0,none⟩))),(30,(.bool false))]) ⟨U 7 rfl,bs,trivial⟩;clear U H;replace Br:=ak;replace hBa:=Chg.keep X4 kH (X0.keep hBa);replace hBb:=Chg.keep X4 kH (X0.keep hBb);replace hBf:=Chg.keep X4 kH (X0.keep hBf);replace Bq:=Chg.keep X4 kH (X0.keep Bq);replace B9:=Chg.keep X4 kH (X0.keep B9);replace E:=(E.ext X0).step X4 (fun y hy h=>by first|omega|(dsimp only at h;omega));refine qA _ rfl (AA (AB (AS (AO (BJ results187 (vs:=[(.int .i64 (BN a k.1 x)),(.int .i64 (BN b k.2 x))]) (b:=br) (v':=(.bool false)) rfl F7 DL rfl (Br.cells rfl) rfl ?_)))));exact ⟨by unfold RX;rw[ai];simp[show ¬(0:Int)≤BN a k.1 x by omega],E⟩
  ·have bm:=ai;rcases Bool.eq_false_or_eq_true (decide ((0:Int)≤BN a k.1 x)) with aj|aj
   ·have af:=aj;replace af:=of_decide_eq_true af;refine AE (Y (qV (AD rfl GF (hBf.cell rfl)) (AA (AW (Aw ai) (AK (AB ?_))))));have cu:w0.heap.size≤w2.heap.size:=E.size;have ap:ba<w2.heap.size:=hBa.lt;have aw:bb<w2.heap.size:=hBb.lt;have au:bf<w2.heap.size:=hBf.lt;have a9:bq<w2.heap.size:=Bq.lt;have bg:br<w2.heap.size:=Br.lt;have bh:b9<w2.heap.size:=B9.lt;refine AE ?_;obtain ⟨cl,ah⟩:∃Fs:List CZ,Fs=[(eF (.agg #[(I6 (BN a k.1 x)),(I6 (BN b k.2 x))])),(eF (P6 b9 0)),(eF (I6 (BN a k.1 x))),(eF (.bool true)),(eF (.bool true)),(eF undef),(eF undef),(eF undef),(eF (.bool true)),(fun _ _=>(fun _ w=>Az w br #[(I6 (BN a k.1 x)),(I6 (BN b k.2 x))] 36)),(eF undef)]:=⟨_,rfl⟩;refine GJ (ND [(9,(fun y=>y=br))]) [true,true,true,true,true,true,true,true,true,true,false] [10] [31,32,33,34,35,36,37,38,39,49,50] [[],[],[1],[2],[3],[4],[4,5],[4,6],[4,7],[0,4],[]] [[],[],[1],[2,1],[3,2,1],[4,3,2,1],[4,3,2,1,5],[4,3,2,1,6,5],[4,3,2,1,7,6,5],[0,4,3,2,1],[]] cl ah qK mixed qK qK qK qK ?_ ?_
    ·intro wd X0;refine qZ (fun S s' w' hi hN X U V H=>?_) ?_
     ·replace X:=Em (hN 9 rfl) X;exact AX (AU (U 9 rfl) F7 DL rfl (((X0.trans X).keep B9).cells rfl)) rfl
     refine qZ (fun S s' w' hi hN X U V H=>?_) ?_
     ·replace X:=Em (hN 9 rfl) X;exact AX (DC (i:=0) (U 9 rfl) rfl rfl underlying36 Ab qO qO) rfl
     refine qZ (fun S s' w' hi hN X U V H=>?_) ?_
     ·replace X:=Em (hN 9 rfl) X;have b1:=(H 1 rfl).2 32 _ rfl (by rw[ah];rfl);exact AX (AD b1 Aa (((X0.trans X).keep B9).cell rfl)) rfl
     refine qZ (fun S s' w' hi hN X U V H=>?_) ?_
     ·replace X:=Em (hN 9 rfl) X;have b0:=(H 2 rfl).2 33 _ rfl (by rw[ah];rfl);exact AX (Eq.trans (C3 b0 rfl) (by rw[aj])) rfl
     refine qZ (fun S s' w' hi hN X U V H=>?_) ?_
     ·replace X:=Em (hN 9 rfl) X;have bz:=(H 3 rfl).2 34 _ rfl (by rw[ah];rfl);exact AX (Ah bz) rfl
     refine DagStepsS.cons (CY.eq) (CT.const) (fun S s' w' hi hN X U V H=>Or.inr ⟨Gk rfl rfl (d:=35) (Or.inl ((H 4 rfl).2 35 (eF (.bool true)) rfl (by rw[ah];rfl))),?_⟩) ?_
     ·exact rfl
     refine DagStepsS.cons (CY.eq) (CT.const) (fun S s' w' hi hN X U V H=>Or.inr ⟨Gk rfl rfl (d:=35) (Or.inl ((H 4 rfl).2 35 (eF (.bool true)) rfl (by rw[ah];rfl))),?_⟩) ?_
     ·exact rfl
     refine DagStepsS.cons (CY.eq) (CT.const) (fun S s' w' hi hN X U V H=>Or.inr ⟨Gk rfl rfl (d:=35) (Or.inl ((H 4 rfl).2 35 (eF (.bool true)) rfl (by rw[ah];rfl))),?_⟩) ?_
     ·exact rfl
     refine qZ (fun S s' w' hi hN X U V H=>?_) ?_
     ·replace X:=RU X;have bo:=(H 4 rfl).2 35 _ rfl (by rw[ah];rfl);exact AX (Ac bo rfl) rfl
     refine DagStepsS.cons (CY.chg (U:=AZ) (fun v w w' x h=>Chg.keep x (fun h=>h) h) (fun p y hp hw h=>by
        rcases B7 h with ⟨rfl,h0⟩|h0
        ·exact absurd rfl hp
        exact h0.elim)) (CT.const) (fun S s' w' hi hN X U V H=>Or.inl ⟨AQ rfl,?_⟩) ?_
     ·replace X:=Em hi X;have bk:=(H 0 rfl).2 31 _ rfl (by rw[ah];rfl);exact Du (b:=br) (o:=0) (n:=2) (U 7 rfl) bk qS DL rfl ((X0.trans X).keep Br) qP (by first|exact .inl ⟨rfl,rfl⟩|exact .inr (.inl ⟨rfl,rfl⟩)|exact .inr (.inr (.inl ⟨rfl,rfl⟩))) (fun w9 h=>by have h2:=h.blk;simpa using h2)
     refine DagStepsS.tail ?_;exact DagStepsS.nil
    ·intro s' wd5 w5 X0 X5 U H;replace X5:=X5.mono (M':=(fun y=>(fun y=>y=br) y)) (fun y _ h=>by
       obtain ⟨j,hj,h⟩:=h;rcases B7 h with ⟨rfl,h0⟩|h0
       ·exact h0
       exact h0.elim)
     have bp:=H 8 rfl 39 _ rfl (by rw[ah];rfl);obtain ak:=(show ((fun _ _=>(fun _ w=>Az w br #[(.int .i64 (BN a k.1 x)),(.int .i64 (BN b k.2 x))] 36)):CZ) (Iw [true,true,true,true,true,true,true,true,true,true,false]) s' (s' 49) w5 from H 9 rfl 49 (fun _ _=>(fun _ w=>Az w br #[(.int .i64 (BN a k.1 x)),(.int .i64 (BN b k.2 x))] 36)) rfl (by rw[ah];rfl));obtain ⟨j5,rfl⟩:=Af.out (σ:=s') (l:=[(7,(.pointer (some ⟨br,0,none⟩))),(39,(.bool true))]) ⟨U 7 rfl,bp,trivial⟩;clear U H;replace Br:=ak;replace hBa:=Chg.keep X5 kH (X0.keep hBa);replace hBb:=Chg.keep X5 kH (X0.keep hBb);replace hBf:=Chg.keep X5 kH (X0.keep hBf);replace Bq:=Chg.keep X5 kH (X0.keep Bq);replace B9:=Chg.keep X5 kH (X0.keep B9);replace E:=(E.ext X0).step X5 (fun y hy h=>by first|omega|(dsimp only at h;omega));refine qA _ rfl (AA (AB (AS (BJ results187 (vs:=[(.int .i64 (BN a k.1 x)),(.int .i64 (BN b k.2 x))]) (b:=br) (v':=(.bool true)) rfl F7 DL rfl (Br.cells rfl) rfl ?_))));exact ⟨by unfold RX;rw[ai];simp[af],E⟩
   ·have af:=aj;replace af:=of_decide_eq_false af;refine AE (Y (qV (AD rfl GF (hBf.cell rfl)) (AA (AW (Aw ai) (AK (AB ?_))))));have cb:w0.heap.size≤w2.heap.size:=E.size;have ar:ba<w2.heap.size:=hBa.lt;have a5:bb<w2.heap.size:=hBb.lt;have be:bf<w2.heap.size:=hBf.lt;have bd:bq<w2.heap.size:=Bq.lt;have ay:br<w2.heap.size:=Br.lt;have bc:b9<w2.heap.size:=B9.lt;refine AE ?_;obtain ⟨cc,ab⟩:∃Fs:List CZ,Fs=[(eF (.agg #[(I6 (BN a k.1 x)),(I6 (BN b k.2 x))])),(eF (P6 b9 0)),(eF (I6 (BN a k.1 x))),(eF (.bool false)),(eF (.bool false)),(eF (P6 b9 1)),(eF (I6 (BN b k.2 x))),(eF (.bool (decide ((0:Int)≤BN b k.2 x)))),(eF (.bool (decide ((0:Int)≤BN b k.2 x)))),(fun _ _=>(fun _ w=>Az w br #[(I6 (BN a k.1 x)),(I6 (BN b k.2 x))] 36)),(eF undef)]:=⟨_,rfl⟩;refine GJ (ND [(9,(fun y=>y=br))]) [true,true,true,true,true,true,true,true,true,true,false] [10] [31,32,33,34,35,36,37,38,39,49,50] [[],[],[1],[2],[3],[4],[4,5],[4,6],[4,7],[0,4],[]] [[],[],[1],[2,1],[3,2,1],[4,3,2,1],[4,3,2,1,5],[4,3,2,1,6,5],[4,3,2,1,7,6,5],[0,4,3,2,1],[]] cc ab qK mixed qK qK qK qK ?_ ?_
    ·intro wd X0;refine qZ (fun S s' w' hi hN X U V H=>?_) ?_
     ·replace X:=Em (hN 9 rfl) X;exact AX (AU (U 9 rfl) F7 DL rfl (((X0.trans X).keep B9).cells rfl)) rfl
     refine qZ (fun S s' w' hi hN X U V H=>?_) ?_
     ·replace X:=Em (hN 9 rfl) X;exact AX (DC (i:=0) (U 9 rfl) rfl rfl underlying36 Ab qO qO) rfl
     refine qZ (fun S s' w' hi hN X U V H=>?_) ?_
     ·replace X:=Em (hN 9 rfl) X;have b1:=(H 1 rfl).2 32 _ rfl (by rw[ab];rfl);exact AX (AD b1 Aa (((X0.trans X).keep B9).cell rfl)) rfl
     refine qZ (fun S s' w' hi hN X U V H=>?_) ?_
     ·replace X:=Em (hN 9 rfl) X;have b0:=(H 2 rfl).2 33 _ rfl (by rw[ab];rfl);exact AX (Eq.trans (C3 b0 rfl) (by rw[aj])) rfl
     refine qZ (fun S s' w' hi hN X U V H=>?_) ?_
     ·replace X:=Em (hN 9 rfl) X;have bz:=(H 3 rfl).2 34 _ rfl (by rw[ab];rfl);exact AX (Ah bz) rfl
     refine DagStepsS.cons (CY.eq) (CT.const) (fun S s' w' hi hN X U V H=>Or.inl ⟨Dz rfl rfl (d:=35) ((H 4 rfl).2 35 (eF (.bool false)) rfl (by rw[ab];rfl)),?_⟩) ?_
     ·replace X:=RU X;exact AX (DC (i:=1) (U 9 rfl) rfl rfl underlying36 Ab qO qO) rfl
     refine DagStepsS.cons (CY.eq) (CT.const) (fun S s' w' hi hN X U V H=>Or.inl ⟨Dz rfl rfl (d:=35) ((H 4 rfl).2 35 (eF (.bool false)) rfl (by rw[ab];rfl)),?_⟩) ?_
     ·replace X:=RU X;have co:=(H 5 rfl).2 36 _ rfl (by rw[ab];rfl);exact AX (AD co Aa ((Chg.keep X kH (X0.keep B9)).cell rfl)) rfl
     refine DagStepsS.cons (CY.eq) (CT.const) (fun S s' w' hi hN X U V H=>Or.inl ⟨Dz rfl rfl (d:=35) ((H 4 rfl).2 35 (eF (.bool false)) rfl (by rw[ab];rfl)),?_⟩) ?_
     ·replace X:=RU X;have b2:=(H 6 rfl).2 37 _ rfl (by rw[ab];rfl);exact AX (C3 b2 rfl) rfl
     refine qZ (fun S s' w' hi hN X U V H=>?_) ?_
     ·replace X:=RU X;have bo:=(H 4 rfl).2 35 _ rfl (by rw[ab];rfl);have cn:=(H 7 rfl).2 38 _ rfl (by rw[ab];rfl);exact AX (Ac bo cn) rfl
     refine DagStepsS.cons (CY.chg (U:=AZ) (fun v w w' x h=>Chg.keep x (fun h=>h) h) (fun p y hp hw h=>by
        rcases B7 h with ⟨rfl,h0⟩|h0
        ·exact absurd rfl hp
        exact h0.elim)) (CT.const) (fun S s' w' hi hN X U V H=>Or.inl ⟨AQ rfl,?_⟩) ?_
     ·replace X:=Em hi X;have bk:=(H 0 rfl).2 31 _ rfl (by rw[ab];rfl);exact Du (b:=br) (o:=0) (n:=2) (U 7 rfl) bk qS DL rfl ((X0.trans X).keep Br) qP (by first|exact .inl ⟨rfl,rfl⟩|exact .inr (.inl ⟨rfl,rfl⟩)|exact .inr (.inr (.inl ⟨rfl,rfl⟩))) (fun w9 h=>by have h2:=h.blk;simpa using h2)
     refine DagStepsS.tail ?_;exact DagStepsS.nil
    ·intro s' wd6 w6 X0 X6 U H;replace X6:=X6.mono (M':=(fun y=>(fun y=>y=br) y)) (fun y _ h=>by
       obtain ⟨j,hj,h⟩:=h;rcases B7 h with ⟨rfl,h0⟩|h0
       ·exact h0
       exact h0.elim)
     have bp:=H 8 rfl 39 _ rfl (by rw[ab];rfl);obtain ak:=(show ((fun _ _=>(fun _ w=>Az w br #[(.int .i64 (BN a k.1 x)),(.int .i64 (BN b k.2 x))] 36)):CZ) (Iw [true,true,true,true,true,true,true,true,true,true,false]) s' (s' 49) w6 from H 9 rfl 49 (fun _ _=>(fun _ w=>Az w br #[(.int .i64 (BN a k.1 x)),(.int .i64 (BN b k.2 x))] 36)) rfl (by rw[ab];rfl));obtain ⟨j6,rfl⟩:=Af.out (σ:=s') (l:=[(7,(.pointer (some ⟨br,0,none⟩))),(39,(.bool (decide ((0:Int)≤BN b k.2 x))))]) ⟨U 7 rfl,bp,trivial⟩;clear U H;replace Br:=ak;replace hBa:=Chg.keep X6 kH (X0.keep hBa);replace hBb:=Chg.keep X6 kH (X0.keep hBb);replace hBf:=Chg.keep X6 kH (X0.keep hBf);replace Bq:=Chg.keep X6 kH (X0.keep Bq);replace B9:=Chg.keep X6 kH (X0.keep B9);replace E:=(E.ext X0).step X6 (fun y hy h=>by first|omega|(dsimp only at h;omega));refine qA _ rfl (AA (AB (AS (BJ results187 (vs:=[(.int .i64 (BN a k.1 x)),(.int .i64 (BN b k.2 x))]) (b:=br) (v':=(.bool (decide ((0:Int)≤BN b k.2 x)))) rfl F7 DL rfl (Br.cells rfl) rfl ?_))));exact ⟨by unfold RX;rw[ai];simp[show ¬(0:Int)≤BN a k.1 x by omega],E⟩
theorem SH (B:World) (n m c:Nat) (a b:Dfa) (av bv:List Value) (d:Bool) (R bb P:Nat) (k:Int×Int) (ab:OkD n c a) (W:OkD m c b) (ha:B' B a av) (hb:B' B b bv) (p:Az B R av.toArray 52) (q:Az B bb bv.toArray 52) (g:Az B P #[.bool d] 4) (hk:k.1<n∧k.2<m) :
 CJ prog 188 #[.agg #[.int .i64 k.1,.int .i64 k.2],.pointer (some ⟨R,0,none⟩),.pointer (some ⟨bb,0,none⟩),.pointer (some ⟨P,0,none⟩)] B λr w=>r=.int .i64 (Gj d a b k)∧Ao B w:=by
 have ae:=ha;have af:=hb;have hal:=ab.al;have hbl:=W.al;obtain ⟨aa,ac,na,nc,rfl,_,_⟩:=ae;obtain ⟨ak,ai,am,ad,rfl,_,_⟩:=af;obtain ⟨x,N⟩:∃x,x=EX a k.1:=⟨_,O⟩;obtain ⟨y,Q⟩:∃y,y=EX b k.2:=⟨_,O⟩;refine qR func188 O ntmps188 O (λE=>(Y (BM (v:=(.agg #[(I6 k.1),(I6 k.2)])) (c:=#[(I6 k.1),(I6 k.2)]) qD O O ?_)));intro bq G I;replace p:=I.keep p;replace q:=I.keep q;replace g:=I.keep g;replace E:=E.ext I.ext;have M:=I.blk;refine qA _ O (AA ?_);have hz_1:B.heap.size<=G.heap.size:=E.size;have lz_1_ba:R<G.heap.size:=p.lt;have lz_1_bb:bb<G.heap.size:=q.lt;have lz_1_bf:P<G.heap.size:=g.lt;have lz_1_bq:bq<G.heap.size:=M.lt;refine AE ?_;obtain ⟨ap,f⟩:∃Fs:List CZ,Fs=[(eF (.agg #[(I6 a.start),(.slice aa a.accept.length ac),(.slice na a.next.length nc)])),(eF (P6 bq 0)),(eF (I6 k.1)),(eF (I6 x)),(eF (.agg #[(I6 b.start),(.slice ak b.accept.length ai),(.slice am b.next.length ad)])),(eF (P6 bq 1)),(eF (I6 k.2)),(eF (I6 y)),(eF (I6 x)),(eF (I6 y))]:=⟨_,O⟩;refine GJ (ND []) [true,true,true,true,true,true,true,true,true,true] [] [8,9,10,11,12,13,14,15,6,7] [[],[],[1],[0,2],[],[],[5],[3,4,6],[0,1,2,3,7],[0,1,2,3,4,5,6,7,8]] [[],[],[1],[0,2,1],[],[],[5],[3,0,2,1,4,6,5],[0,1,2,3,7,4,6,5],[0,1,2,3,4,5,6,7,8]] ap f qK mixed qK qK qK qK ?_ ?_
 .intro wd s;refine qZ (λS t w' hi z X U V H=>?_) ?_
  .replace X:=IN X;exact AX (AU (U 1 O) BC Ap O (((s.trans X).keep p).cells O)) O
  refine qZ (λS t w' hi z X U V H=>?_) ?_
  .replace X:=IN X;exact AX (DC (i:=0) (U 4 O) O O underlying36 Ab qO qO) O
  refine qZ (λS t w' hi z X U V H=>?_) ?_
  .replace X:=IN X;have e9:=(H 1 O).2 9 _ O (by rw[f];rfl);exact AX (AD e9 Aa (((s.trans X).keep M).cell O)) O
  refine qZ (λS t w' hi z X U V H=>?_) ?_
  .replace X:=IN X;have e8:=(H 0 O).2 8 _ O (by rw[f];rfl);have aj:=(H 2 O).2 10 _ O (by rw[f];rfl);exact Cw (AT func107 kQ kQ (JD e8 aj)) ((Mx _ a _ k.1 (ha.ext (Ao.trans E (s.trans X))) qO).mono (λv w h=>⟨by rw[N];exact h.1,h.2⟩))
  refine qZ (λS t w' hi z X U V H=>?_) ?_
  .replace X:=IN X;exact AX (AU (U 2 O) BC Ap O (((s.trans X).keep q).cells O)) O
  refine qZ (λS t w' hi z X U V H=>?_) ?_
  .replace X:=IN X;exact AX (DC (i:=1) (U 4 O) O O underlying36 Ab qO qO) O
  refine qZ (λS t w' hi z X U V H=>?_) ?_
  .replace X:=IN X;have T:=(H 5 O).2 13 _ O (by rw[f];rfl);exact AX (AD T Aa (((s.trans X).keep M).cell O)) O
  refine qZ (λS t w' hi z X U V H=>?_) ?_
  .replace X:=IN X;have ah:=(H 4 O).2 12 _ O (by rw[f];rfl);have an:=(H 6 O).2 14 _ O (by rw[f];rfl);exact Cw (AT func107 kQ kQ (JD ah an)) ((Mx _ b _ k.2 (hb.ext (Ao.trans E (s.trans X))) qO).mono (λv w h=>⟨by rw[Q];exact h.1,h.2⟩))
  refine qZ (λS t w' hi z X U V H=>?_) ?_
  .replace X:=IN X;have ao:=(H 3 O).2 11 _ O (by rw[f];rfl);exact AX (FS ao) O
  refine qZ (λS t w' hi z X U V H=>?_) ?_
  .replace X:=IN X;have ag:=(H 7 O).2 15 _ O (by rw[f];rfl);exact AX (FS ag) O
  exact DagStepsS.nil
 .intro t wd1 w1 s A U H;replace A:=A.mono (M':=AZ) (λy _ h=>by
   obtain ⟨j,hj,h⟩:=h;exact h.elim)
  have Z:=H 8 O 6 _ O (by rw[f];rfl);have e7:=H 9 O 7 _ O (by rw[f];rfl);obtain ⟨j1,rfl⟩:=Af.out (σ:=t) (l:=[(3,(.pointer (some ⟨P,0,none⟩))),(6,(.int .i64 x)),(7,(.int .i64 y))]) ⟨U 3 O,Z,e7,trivial⟩;clear U H;replace p:=(s.trans A).keep p;replace q:=(s.trans A).keep q;replace g:=(s.trans A).keep g;replace M:=(s.trans A).keep M;replace A:=s.trans A;replace E:=E.ext A;refine AA (AB (AE (AM (Y (qV (AD O GF (g.cell O)) (qM _ O (qG (.bool d) (yU d (I6 y)) (by cases d<;>first|exact gA|exact gB|exact .inl ⟨O,Ah O⟩) ?_)))))));obtain ⟨e2,L⟩:∃e,(decide ((y:Int)<0))=e:=⟨_,O⟩;refine qG (.bool d) (yU d (.bool e2)) (by cases d<;>first|exact gA|exact gB|exact .inl ⟨O,(Av O O).trans (by rw[L];try rfl)⟩) ?_;obtain ⟨e3,J⟩:∃e,(d && e2)=e:=⟨_,O⟩;refine qV (Ac (v:=.bool e3) O (by rw[<-J];cases d<;>rfl)) (qA _ O (AA ?_));subst J;subst L;refine A3 O (λC=>?_) (λC=>?_)
  .have o:=C;refine Y (qA _ O (AA (AS (Ag (AO (AV results188 (v:=(.int .i64 (-1))) O ?_))))));exact ⟨A5 (by unfold Gj T1;rw[<-N,<-Q,if_pos o]),E⟩
  .have o:=C;refine Y (qV (AD O GF (g.cell O)) (qM _ O (qG (.bool d) (nU d (I6 x)) (by cases d<;>first|exact gA|exact gB|exact .inl ⟨O,Ah O⟩) ?_)));obtain ⟨e5,F⟩:∃e,(decide ((0:Int)<=x))=e:=⟨_,O⟩;refine qG (.bool d) (nU d (.bool e5)) (by cases d<;>first|exact gA|exact gB|exact .inl ⟨O,(C3 O O).trans (by rw[F];try rfl)⟩) ?_;obtain ⟨Z,K⟩:∃e,(d || e5)=e:=⟨_,O⟩;refine qV (Ac (v:=.bool Z) O (by rw[<-K];cases d<;>rfl)) (qA _ O (AA ?_));subst K;subst F;refine A3 O (λD=>?_) (λD=>?_)
   .have u:=D;refine Y (qM _ O (qA _ O (AA (AS (Ag (AO (AV results188 (v:=(.int .i64 x)) O ?_)))))));exact ⟨A5 (by unfold Gj T1;rw[<-N,<-Q,if_neg (by rw[o];decide),if_pos u]),E⟩
   .have u:=D;refine AK (AP (AB (Y (qM _ O (qA _ O (AA (AS (AV results188 (v:=(.int .i64 y)) O ?_))))))));exact ⟨A5 (by unfold Gj T1;rw[<-N,<-Q,if_neg (by rw[o];decide),if_neg (by rw[u];decide)]),E⟩
def Xl {α:Type} (c most:Nat) (stp:α->Nat->Option α) (acc:α->Int) (a0:α) (base:Nat):El:=λv w=>∃D ea ec na nc vs,v=.agg #[.int .i64 D.start,.slice ea D.accept.length ec,.slice na D.next.length nc]∧ExpOf c most stp acc a0 D∧OutSt w base (.slice ea D.accept.length ec) (.slice na D.next.length nc) vs D.accept D.next
theorem OutSt.dfa {w:World} {base:Nat} {c a:Option Addr} {d b:Nat} {vs:List Value} {D:Dfa} (h:OutSt w base (.slice c D.accept.length d) (.slice a D.next.length b) vs D.accept D.next):B' w D [.int .i64 D.start,.slice c D.accept.length d,.slice a D.next.length b]:=
 ⟨c,d,a,b,O,FM h.e O,h.intss⟩
theorem NJ (c:Bool) (a b:Dfa) (k:Int×Int) (x:Nat):(Et c a b k x).isSome=RX c (BN a k.1 x) (BN b k.2 x)∧∀q,Et c a b k x=some q->(BN a k.1 x,BN b k.2 x)=q:=by
 unfold Et;cases RX c (BN a k.1 x) (BN b k.2 x) with
 | true=>exact ⟨O,λq h=>Option.some.inj h⟩
 | false=>exact ⟨O,λq h=>by cases h⟩
end Go.Proofs
namespace Go.Proofs
open Go Go.Eng Go.Sort
set_option maxRecDepth 100000
theorem PZ (a b:Dfa):a=b↔a.start=b.start∧a.accept=b.accept∧a.next=b.next:=by
 cases a;cases b;simp
instance:DecidableEq Dfa:=λa b=>decidable_of_iff _ (PZ a b).symm
end Go.Proofs
namespace Go.Proofs
open Go Go.Eng Go.Sort
set_option maxRecDepth 100000
--BEGIN
theorem Db.ok {c:Nat} {f:List Nat->Int} {C:Dfa} (h:Db c f C):OkD C.next.length c C∧C.start=0∧(∀w,E3 c w->beh C C.start w=f w)∧1<=C.next.length:=by
 obtain ⟨m,b,a,_,_⟩:=h;have e:=b.ok.nl;have:=b.ok.st;exact ⟨by rw[e];exact b.ok,b.st,λw d=>by rw[b.st];exact a w d,qO⟩
--END
end Go.Proofs
namespace Go.Eng
open Go
theorem NW {P:Program} {σ:CN} {w:World} {dst:Option Tmp} {ty:TypeId} {pos:String} {af:Array Edge} {g:Option (Nat×Bool)} {t:TypeId} {x y:Operand} {k:ByteArray} {n:Nat} {b:UInt8} {c:Int} (e:P.underlying t=some .string) (d:ev σ x=.string k) (h:ev σ y=.int .i64 ((n:Nat):Int)) (hb:k[n]?=some b) (a:(b.toNat:Int)=c) :
 (execOp (ev σ) ⟨dst,.index t x y,ty,pos,af,g⟩).run P w=.ok (.value (.int .u8 c)) w:=by
 subst a;have f:(0:Int)<=((n:Nat):Int):=qO
 simp[execOp,d,h,Instr.index,asIntOf,run_underlying e,f,hb]
end Go.Eng
namespace Go.Proofs
open Go Go.Eng Go.Sort
set_option maxRecDepth 100000
--BEGIN
end Go.Proofs
namespace Go.Proofs
open Go Go.Eng Go.Sort
set_option maxRecDepth 100000
theorem SP:∀b:Nat,b<256->∀j:Nat,j<8->b ||| 2 ^ j=b+(if b / 2 ^ j % 2=1 then 0 else 2 ^ j)∧b ||| 2 ^ j<256:=by decide +kernel
theorem Ve {n:Nat} (h:n<256):IntKind.u8.wrap ((n:Nat):Int)=((n:Nat):Int):=by
 have:=Rd ((n:Nat):Int);rw[this];omega
theorem Me (m:Nat) (h:m<256):(BitVec.ofInt 8 (m:Int)).toNat=m:=by
 rw[BitVec.toNat_ofInt];omega
theorem Xw {P:Program} {w:World} {a b c:Nat} (ha:a<256) (hb:b<256) (e:a ||| b=c) (d:c<256):(Op.intBits .or .u8 ((a:Nat):Int) ((b:Nat):Int)).run P w=.ok (.int .u8 ((c:Nat):Int)) w:=by
 show Result.ok (Value.int .u8 (IntKind.u8.wrap ((BitVec.ofInt 8 ((a:Nat):Int) ||| BitVec.ofInt 8 ((b:Nat):Int):BitVec 8).toNat:Int))) w=_;rw[BitVec.toNat_or,Me a qO,Me b qO,e,Ve d]
theorem XX {P:Program} {w:World} {a b c:Nat} (ha:a<256) (hb:b<256) (e:a &&& b=c) (d:c<256):(Op.intBits .and .u8 ((a:Nat):Int) ((b:Nat):Int)).run P w=.ok (.int .u8 ((c:Nat):Int)) w:=by
 show Result.ok (Value.int .u8 (IntKind.u8.wrap ((BitVec.ofInt 8 ((a:Nat):Int) &&& BitVec.ofInt 8 ((b:Nat):Int):BitVec 8).toNat:Int))) w=_;rw[BitVec.toNat_and,Me a qO,Me b qO,e,Ve d]
theorem Xf {j:Nat} (h:j<8):2 ^ j<256:=by
 have:=Nat.pow_le_pow_right (show 0<2 by decide) (show j<=7 by omega);omega
theorem Rz {j:Nat} (h:j<8):IntKind.u8.wrap ((1:Int)*2 ^ (min (((j:Nat):Int)).toNat IntKind.u8.bits))=((2 ^ j:Nat):Int):=by
 rw[Int.toNat_natCast,show min j IntKind.u8.bits=j from Nat.min_eq_left (by show j<=8;omega),Int.one_mul,show (2:Int) ^ j=((2 ^ j:Nat):Int) from (Int.natCast_pow 2 j).symm];exact Ve (Xf h)
theorem Ry {v j:Nat} (h:j<8):(((v:Nat):Int)).fdiv (2 ^ (min (((j:Nat):Int)).toNat IntKind.u8.bits))=((v / 2 ^ j:Nat):Int):=by
 rw[Int.toNat_natCast,show min j IntKind.u8.bits=j from Nat.min_eq_left (by show j<=8;omega),show (2:Int) ^ j=((2 ^ j:Nat):Int) from (Int.natCast_pow 2 j).symm,Int.fdiv_eq_ediv_of_nonneg _ (Int.natCast_nonneg _)];rfl
theorem Te {k:ByteArray} {i:Nat} (h:i<k.size):k[i]?=some (k.data.toList.getD i 0):=by
 rw[getElem?_pos k i h,List.getD_eq_getElem?_getD];congr 1;have a:k.data.toList[i]?=some (k.data[i]'h):=by rw[Array.getElem?_toList];exact Array.getElem?_eq_getElem h
 rw[a];rfl
def GW (n:Nat) (M:Nat->Bool):Array Value:=((GN n M).map (Value.int .u8)).toArray
theorem Qk (n:Nat) (M:Nat->Bool):(GW n M).size=(n+7) / 8:=by simp[GW,ET]
theorem Ql (n:Nat):GW n (λ_=>false)=(List.replicate ((n+7) / 8) (Value.int .u8 0)).toArray:=by
 unfold GW GN;congr 1;rw[List.map_map];refine List.eq_replicate_iff.2 ⟨qP,λx a=>?_⟩;obtain ⟨i,_,rfl⟩:=List.mem_map.1 a;simp[DF,GC]
theorem Tg {n s:Nat} (M:Nat->Bool) (hs:s<n):(GN n M)[s / 8]?=some ((DF (GC n M) (s / 8):Nat):Int):=by
 unfold GN;rw[List.getElem?_map,List.getElem?_range qO];rfl
theorem Tf {n s:Nat} (M:Nat->Bool) (hs:s<n):(GN n M).set (s / 8) ((DF (GC n M) (s / 8) ||| 2 ^ (s % 8):Nat):Int)=GN n λq=>M q || decide (q=s):=by
 have hb:=M5 (GC n M) (s / 8);have b:=Nat.mod_lt s (show 0<8 by decide);have a:GC n (λq=>M q || decide (q=s))=λq=>GC n M q || decide (q=8*(s / 8)+s % 8):=funext λq=>by
  unfold GC;rw[Nat.div_add_mod];by_cases c:q=s
  .subst c;simp[hs]
  .simp[c]
 apply List.ext_getElem?;intro i;rw[List.getElem?_set];unfold GN;rw[a];by_cases hi:s / 8=i
 .subst hi;rw[if_pos O,if_pos (by simp;omega),List.getElem?_map,List.getElem?_range qO];simp only[Option.map_some];rw[Td _ _ _ b,(SP _ hb _ b).1,Ol _ _ _ b];cases GC n M (8*(s / 8)+s % 8)<;>simp
 .rw[if_neg hi,List.getElem?_map,List.getElem?_map];rcases Nat.lt_or_ge i ((n+7) / 8) with h|h
  .rw[List.getElem?_range h];simp only[Option.map_some];rw[Pe b (λe=>hi e.symm)]
  .rw[List.getElem?_eq_none (by simpa using h)];rfl
theorem KR (d:World) (n:Nat) (hn:n<=100000):CJ prog 181 #[.int .i64 ((n:Nat):Int)] d λv w=>(∃b,v=.slice (some ⟨b,0,none⟩) ((n+7) / 8) ((n+7) / 8)∧Az w b (GW n λ_=>false) 5∧d.heap.size<=b)∧Ao d w:=by
 refine qR func181 O ntmps181 O (λE=>(Y (qA _ O (AA (Y (qM _ O (qV (Aq O O (A2 qO)) (qV (SA (c:=(((n+7) / 8:Nat):Int)) O O qD ((by rw[show ((n:Int)+7).tdiv 8=(((n+7) / 8:Nat):Int) from by rw[Int.tdiv_eq_ediv_of_nonneg qO];omega];exact A2 qO))) (E8 (n:=(n+7) / 8) (z:=(.int .u8 0)) (bytes:=1) qD underlying162 MW WN T3 O O O qO qO ?_)))))))));intro e w1 a;replace E:=E.ext a.ext;have f:=a.blk;refine qA _ O (AA (AS (AV results181 (v:=(.slice (some ⟨e,0,none⟩) ((n+7) / 8) ((n+7) / 8))) O ?_)));exact ⟨⟨e,O,by rw[Ql];exact f,by have:=a.eq;omega⟩,E⟩
theorem Tq (e:World) (n b s:Nat) (M:Nat->Bool) (hn:n<=100000) (d:Az e b (GW n M) 5) (hs:s<n):CJ prog 179 #[.slice (some ⟨b,0,none⟩) ((n+7) / 8) ((n+7) / 8),.int .i64 ((s:Nat):Int)] e λv w=>v=.tuple #[]∧Chg (λy=>y=b) e w∧Az w b (GW n λq=>M q || decide (q=s)) 5:=by
 have j:(((s:Nat):Int)).tdiv 8=((s / 8:Nat):Int):=by rw[Int.tdiv_eq_ediv_of_nonneg qO];omega
 have hr:(((s:Nat):Int)).tmod 8=((s % 8:Nat):Int):=by rw[Int.tmod_eq_emod_of_nonneg qO];omega
 have hb:=M5 (GC n M) (s / 8);have g:=Nat.mod_lt s (show 0<8 by decide);have l:2 ^ (s % 8)<256:=by
  have:=Nat.pow_le_pow_right (show 0<2 by decide) (show s % 8<=7 by omega);omega
 have hsl:s / 8<(n+7) / 8:=qO
 refine F9 func179 O ntmps179 (Jo O) ?_;have E:Chg (λy=>y=b) e e:=Chg.refl _ _;refine M8 10 mixed qK ?_;intro w1 h _;replace d:=h.keep d;replace E:=E.ext h;refine qT (Ah (v:=(.slice (some ⟨b,0,none⟩) ((n+7) / 8) ((n+7) / 8))) O) (qT (Ah (v:=(I6 (s:Int))) O) (qT (SA (k:=.i64) (a:=(s:Int)) (b:=8) (c:=((s / 8:Nat):Int)) O O qD ((by rw[j];exact A2 qO))) (qT (AC (b:=b) (o:=0) (len:=(n+7) / 8) (cap:=(n+7) / 8) (i:=s / 8) (o':=0+(s / 8)) O O O underlying162 MW qO qO) (qT (AD (v:=(.int .u8 ((DF (GC n M) (s / 8):Nat):Int))) O XD (d.cell (by unfold GW;rw[Nat.zero_add];simp[Tg M hs]))) (qT (Ah (v:=(I6 (s:Int))) O) (qT (VM (k:=.i64) (a:=(s:Int)) (b:=8) (c:=((s % 8:Nat):Int)) O O qD O) (qT (Wt (k:=.u8) (a:=1) (b:=((s % 8:Nat):Int)) (c:=((2 ^ (s % 8):Nat):Int)) (k':=.i64) O O qO (Rz g)) (qT (KJ (k:=.u8) (a:=((DF (GC n M) (s / 8):Nat):Int)) (b:=((2 ^ (s % 8):Nat):Int)) (v:=.int .u8 ((DF (GC n M) (s / 8) ||| 2 ^ (s % 8):Nat):Int)) O O qP (Xw hb l O (SP _ hb _ g).2)) (qT (AC (b:=b) (o:=0) (len:=(n+7) / 8) (cap:=(n+7) / 8) (i:=s / 8) (o':=0+(s / 8)) O O O underlying162 MW qO qO) (Dr (BB (b:=b) (o:=0+(s / 8)) (c':=GW n (λq=>M q || decide (q=s))) (v:=(.int .u8 ((DF (GC n M) (s / 8) ||| 2 ^ (s % 8):Nat):Int))) O O O MW d (by rw[Qk];omega) (by unfold GW;rw[<-Tf M hs];simp) ?_)))))))))));intro w2 f;replace E:=f.step E qQ;replace d:=f.blk;refine AA (Fg results179 ?_);exact ⟨O,E,d⟩
theorem L6 (f:World) (n s:Nat) (k:ByteArray) (hn:n<=100000) (hk:k.size=(n+7) / 8) (hs:s<n):CJ prog 202 #[.string k,.int .i64 ((s:Nat):Int)] f λv w=>v=.bool (Eh k s)∧Ao f w:=by
 have h:(((s:Nat):Int)).tdiv 8=((s / 8:Nat):Int):=by rw[Int.tdiv_eq_ediv_of_nonneg qO];omega
 have hr:(((s:Nat):Int)).tmod 8=((s % 8:Nat):Int):=by rw[Int.tmod_eq_emod_of_nonneg qO];omega
 have g:=Nat.mod_lt s (show 0<8 by decide);obtain ⟨v,e⟩:∃v,v=(k.data.toList.getD (s / 8) 0).toNat:=⟨_,O⟩;have d:v<256:=by rw[e];exact UInt8.toNat_lt _
 have hd:v / 2 ^ (s % 8)<256:=Nat.lt_of_le_of_lt (Nat.div_le_self _ _) d;have a:Eh k s=decide (v / 2 ^ (s % 8) % 2=1):=by rw[e];rfl
 rw[a];refine qR func202 O ntmps202 O (λE=>(Y (qA _ O (AA (Y (qM _ O (qM _ O (qV (SA (c:=((s / 8:Nat):Int)) O O qD ((by rw[h];exact A2 qO))) (qV (NW (n:=s / 8) (b:=k.data.toList.getD (s / 8) 0) (c:=(v:Int)) underlying202 O O (Te qO) (by rw[e])) (qM _ O (qV (VM (c:=((s % 8:Nat):Int)) O O qD O) (qV (IV (c:=((v / 2 ^ (s % 8):Nat):Int)) O O qO (Ry g)) (qV (KJ (v:=.int .u8 ((v / 2 ^ (s % 8) % 2:Nat):Int)) O O qP (XX hd qD (Nat.and_one_is_mod _) qO)) (qV (As O O) (qA _ O (AA (AS ?_)))))))))))))))));refine AV results202 (v:=(.bool (decide ((((v / 2 ^ (s % 8) % 2:Nat):Int):Int)=1)))) O ?_;exact ⟨CG (decide_eq_decide.2 qO),E⟩
end Go.Proofs
namespace Go.Proofs
open Go Go.Eng Go.Sort
set_option maxRecDepth 100000
def LK (b:Dfa) (k:ByteArray) (x s:Nat):Nat->Bool:=λq=>(List.range s).any λp=>Eh k p && decide (BN b ((p:Nat):Int) x=((q:Nat):Int))
def J9 (b:Dfa) (k:ByteArray) (x s:Nat):Bool:=(List.range s).any λp=>Eh k p && decide (0<=BN b ((p:Nat):Int) x)
theorem Lt (b:Dfa) (k:ByteArray) (x s q:Nat):LK b k x (s+1) q=(LK b k x s q || (Eh k s && decide (BN b ((s:Nat):Int) x=((q:Nat):Int)))):=by
 unfold LK;rw[List.range_succ,List.any_append];simp
theorem J8 (b:Dfa) (k:ByteArray) (x s:Nat):J9 b k x (s+1)=(J9 b k x s || (Eh k s && decide (0<=BN b ((s:Nat):Int) x))):=by
 unfold J9;rw[List.range_succ,List.any_append];simp
theorem P9 {b:Dfa} {k:ByteArray} {x s:Nat} (h:Eh k s=false∨BN b ((s:Nat):Int) x<0):LK b k x (s+1)=LK b k x s∧J9 b k x (s+1)=J9 b k x s:=by
 refine ⟨funext λq=>?_,?_⟩
 .rw[Lt];rcases h with h|h
  .rw[h];simp
  .rw[decide_eq_false (show ¬BN b ((s:Nat):Int) x=((q:Nat):Int) by omega)];simp
 .rw[J8];rcases h with h|h
  .rw[h];simp
  .rw[decide_eq_false (show ¬0<=BN b ((s:Nat):Int) x by omega)];simp
theorem Sf {b:Dfa} {k:ByteArray} {x s t:Nat} (h:Eh k s=true) (a:BN b ((s:Nat):Int) x=((t:Nat):Int)):(λq=>LK b k x s q || decide (q=t))=LK b k x (s+1)∧J9 b k x (s+1)=true:=by
 refine ⟨funext λq=>?_,?_⟩
 .rw[Lt,h,a,Bool.true_and];congr 1;exact decide_eq_decide.2 qO
 .rw[J8,h,a,decide_eq_true qO];simp
theorem JU (x:World) (n c:Nat) (b:Dfa) (P:List Value) (k:ByteArray) (ok:OkD n c b) (hb:B' x b P) (hn:n<=20000) (U:k.size=(n+7) / 8) :
 CJ prog 185 #[.agg P.toArray,.string k] x λv w=>v=.bool (HS b n k)∧Ao x w:=by
 have hal:=ok.al;obtain ⟨u,r,G,F,rfl,t,hnxt⟩:=hb;have e:=Iy (b:=b) (m:=n) (k:=k);obtain ⟨A,S⟩:∃A,A=HS b n k:=⟨_,O⟩;rw[<-S] at e⊢;refine qR func185 O ntmps185 O (λE=>(Y (BM (v:=(.agg #[(I6 b.start),(.slice u b.accept.length r),(.slice G b.next.length F)])) (c:=#[(I6 b.start),(.slice u b.accept.length r),(.slice G b.next.length F)]) qD O O ?_)));intro N wd K;replace E:=E.ext K.ext;have g:=K.blk;refine qA _ O (AA (AE (Y (qF N 0 1 O underlying52 O BG O (qV (AD O BX (g.cell O)) (qV (AH underlying22 O) (qM _ O (AA (AM (Am (λnn_ σ J=>∃(i:Nat),(∃jj_,σ=BQ jj_ [(1,(.string k)),(8,(.slice u b.accept.length r)),(9,(I6 (b.accept.length:Int))),(10,(I6 (i:Int)))])∧Chg AZ x J∧Az J N #[(I6 b.start),(.slice u b.accept.length r),(.slice G b.next.length F)] 52∧(i<=b.accept.length)∧(∀p,p<i->¬(0<=EX b (p:Int)∧Eh k p=true))∧nn_=b.accept.length - i) (n:=b.accept.length - 0) ?_ ?_))))))))))
 .exact ⟨0,Af.out ⟨O,O,O,O,trivial⟩,E,g,Nat.zero_le _,(λp I=>absurd I qO),O⟩
 .clear E g;rintro _ _ J ⟨i,⟨j1,rfl⟩,E,g,hi,j,rfl⟩;refine Y (qV (Av O O) (AA (AE (qC O (λD=>?_) (λD=>?_)))))
  .obtain ⟨y,Q⟩:=AL (l:=b.accept) (i:=i) qO;obtain ⟨V,L,B,C⟩:=BF t qO;subst B;have s:=EW Q;refine AK (AB (AE (AM (Y (qM _ O (qV (AC (b:=V) (o:=L) (len:=b.accept.length) (cap:=r) (i:=i) (o':=L+i) O O O underlying22 Ab qO qO) (qV (AD O Aa (E.cell (λf=>f) (C i y Q))) (qA _ O (qA _ O (AA (Y (qM _ O (qV (C3 O O) (qM _ O ?_))))))))))))));rcases Bool.eq_false_or_eq_true (decide ((0:Int)<=y)) with a|a
   .have d:=a;replace d:=of_decide_eq_true d;refine AF O O qD (Aw a) (qM _ O (AF O O qD (Aw a) (qM _ O (AF O O qD (Aw a) (qE O (AT func202 kQ kQ O) (L6 _ n i k qO U qO) ?_)))));rintro _ w9 ⟨rfl,M⟩;replace g:=M.keep g;replace E:=E.ext M;refine qV (Ac (v:=(.bool (Eh k i))) O (by rw[a];rfl)) (AA (A3 O (λq=>?_) (λq=>?_)))
    .have z:=q;refine Y (qA _ O (AA (AS (Ag (AO (AO (Ag (AO (AV results185 (v:=(.bool true)) O ?_)))))))));exact ⟨CG (e.2 ⟨i,qO,by rw[s];exact d,q⟩).symm,E⟩
    .have z:=q;refine AK (AP (AB (AG (qV (Aq O O (A2 qO)) (qM _ O (AA (AB ?_)))))));exact ⟨b.accept.length - (i+1),qO,i+1,Af.out ⟨O,O,O,O,trivial⟩,E,g,qO,(λp I=>by rcases Nat.lt_or_ge p i with h|h;exact j p h;obtain rfl:p=i:=qO;exact λH=>by rw[H.2] at q;cases q),O⟩
   .have d:=a;replace d:=of_decide_eq_false d;refine AJ O O qD (v:=.bool false) (Aw a) (Or.inl O) (AJ O O qD (v:=.bool false) (Aw a) (Or.inl O) (AJ O O qD (v:=.bool false) (Aw a) (Or.inl O) (qV (Ac (v:=(.bool false)) O (by rw[a];rfl)) (AA (AW O (AK (AP (AB (AG (qV (Aq O O (A2 qO)) (qM _ O (AA (AB ?_)))))))))))));exact ⟨b.accept.length - (i+1),qO,i+1,Af.out ⟨O,O,O,O,trivial⟩,E,g,qO,(λp I=>by rcases Nat.lt_or_ge p i with h|h;exact j p h;obtain rfl:p=i:=qO;exact λH=>by rw[s] at H;omega),O⟩
  .refine Ak (AR (AR (Ae (AB (Y (qA _ O (AA (AS (AV results185 (v:=(.bool false)) O (⟨CG ?_,E⟩))))))))));cases A with
   | false=>rfl
   | true=>
    obtain ⟨p,h1,T,R⟩:=e.1 O;exact absurd ⟨T,R⟩ (j p qO)
theorem MU (w0:World) (n c x:Nat) (b:Dfa) (dv:List Value) (k:ByteArray) (ok:OkD n c b) (hb:B' w0 b dv) (hn:n<=20000) (hk:k.size=(n+7) / 8) (hx:x<c) (hc:c<=16) :
  CJ prog 183 #[.agg dv.toArray,.string k,.int .i64 ((x:Nat):Int)] w0 λv w=>(∃g,v=.tuple #[.slice (some ⟨g,0,none⟩) ((n+7) / 8) ((n+7) / 8),.bool (D0 b n k x)]∧Az w g (GW n (GB b n k x)) 5∧w0.heap.size<=g)∧Ao w0 w:=by
 have ar:=ok.nl;subst ar;have hst:=ok.st;have ag:LK b k x 0=λ_=>false:=rfl;obtain ⟨aa,ac,na,nc,rfl,ay,ai⟩:=hb;obtain ⟨nb,no,rfl,av⟩:=Ca (n:=b.next.length) ai qO;refine qR func183 O ntmps183 O (λE=>(Y (BM (v:=(.agg #[(I6 b.start),(.slice aa b.accept.length ac),(.slice (some ⟨nb,no,none⟩) b.next.length nc)])) (c:=#[(I6 b.start),(.slice aa b.accept.length ac),(.slice (some ⟨nb,no,none⟩) b.next.length nc)]) qD O O ?_)));intro bd wd Nd;replace E:=E.ext Nd.ext;have Bd:=Nd.blk;refine qA _ O (qA _ O (AA (Y (qF bd 0 2 O underlying52 O CB O (qV (AD O B0 (Bd.cell O)) (qV (AH underlying50 O) (qE O (AT func181 kQ kQ O) ((KR _ b.next.length qO).mono (R':=λv w=>(∃g,v=.slice (some ⟨g,0,none⟩) ((b.next.length+7) / 8) ((b.next.length+7) / 8)∧Az w g (GW b.next.length (LK b k x 0)) 5∧wd.heap.size<=g)∧Ao wd w) (λv w h=>by rw[ag];exact h)) ?_)))))));rintro _ w9 ⟨⟨g,rfl,hG,hg0⟩,X9⟩;replace Bd:=X9.keep Bd;replace E:=E.ext X9;have hgd:bd<g:=by have:=Nd.eq;have:=Nd.size;omega
 have ax:w0.heap.size<=g:=by have:=Nd.ext.size;omega
 refine qA _ O (qA _ O (AA (AE (Y (qF bd 0 2 O underlying52 O CB O (qV (AD O B0 (Bd.cell O)) (qV (AH underlying50 O) (qM _ O (AA (AM (Am (λnn_ σ W1=>∃(i:Nat) (sm:Bool),(∃jj_,σ=BQ jj_ [(1,(.string k)),(2,(I6 (x:Int))),(3,(P6 bd 0)),(8,(.slice (some ⟨g,0,none⟩) ((b.next.length+7) / 8) ((b.next.length+7) / 8))),(17,(I6 (b.next.length:Int))),(18,(I6 (i:Int))),(9,(.bool sm))])∧Chg AZ w0 W1∧Az W1 bd #[(I6 b.start),(.slice aa b.accept.length ac),(.slice (some ⟨nb,no,none⟩) b.next.length nc)] 52∧Az W1 g (GW b.next.length (LK b k x i)) 5∧(i<=b.next.length)∧(sm=J9 b k x i)∧nn_=b.next.length - i) (n:=b.next.length - 0) ?_ ?_)))))))))))
 ·exact ⟨0,false,Af.out ⟨O,O,O,O,O,O,O,trivial⟩,E,Bd,hG,Nat.zero_le _,O,O⟩
 ·clear E Bd hG;rintro _ _ W1 ⟨i,sm,⟨j1,rfl⟩,E,Bd,hG,hi,aj,rfl⟩;refine Y (qV (Av O O) (AA (AE (qC O (λau=>?_) (λau=>?_)))))
  ·obtain ⟨row,ab⟩:=AL (l:=b.next) (i:=i) qO;have hrl:=(ok.row row (List.mem_of_getElem? ab)).1;obtain ⟨ra,rc,ad,aw⟩:=av i row ab;obtain ⟨b9,o9,aq,al⟩:=BF aw qO;subst aq;obtain ⟨y,hy⟩:=AL (l:=row) (i:=x) qO;have hyr:=(ok.row row (List.mem_of_getElem? ab)).2 y (List.mem_of_getElem? hy);have an:=FG ab hy;refine AK (AB (AE (AM (Y (qM _ O (qA _ O (AA (Y (qM _ O (qM _ O (qE O (AT func202 kQ kQ O) (L6 _ b.next.length i k qO hk qO) ?_)))))))))));rintro _ w19 ⟨rfl,ah⟩;replace Bd:=ah.keep Bd;replace hG:=ah.keep hG;replace E:=E.ext ah;refine qM _ O ?_;rcases Bool.eq_false_or_eq_true (Eh k i) with hh|hh
   ·have ap:=hh;refine AF O O qD (Aw hh) (qF bd 0 2 O underlying52 O CB O (AF O O qD (Aw hh) (qV (AD O B0 (Bd.cell O)) (AF O O qD (Aw hh) (qM _ O (AF O O qD (Aw hh) (qV (AC (b:=nb) (o:=no) (len:=b.next.length) (cap:=nc) (i:=i) (o':=no+i) O O O underlying50 BG qO qO) (AF O O qD (Aw hh) (qV (AD O BX (E.cell (λf=>f) ad)) (AF O O qD (Aw hh) (qM _ O (AF O O qD (Aw hh) (qV (AC (b:=b9) (o:=o9) (len:=row.length) (cap:=rc) (i:=x) (o':=o9+x) O O O underlying22 Ab qO qO) (AF O O qD (Aw hh) ?_))))))))))))));refine qV (AD O Aa (E.cell (λf=>f) (al x y hy))) (AF O O qD (Aw hh) (qV (C3 O O) (qV (Ac (v:=(.bool (decide ((0:Int)<=y)))) O (by rw[hh];rfl)) (AA (qC O (λao=>?_) (λao=>?_))))))
    ·obtain ⟨t,rfl⟩:=Int.eq_ofNat_of_zero_le ao;refine Y (qM _ O (qF bd 0 2 O underlying52 O CB O (qV (AD O B0 (Bd.cell O)) (qM _ O (qV (AC (b:=nb) (o:=no) (len:=b.next.length) (cap:=nc) (i:=i) (o':=no+i) O O O underlying50 BG qO qO) (qV (AD O BX (E.cell (λf=>f) ad)) (qM _ O (qV (AC (b:=b9) (o:=o9) (len:=row.length) (cap:=rc) (i:=x) (o':=o9+x) O O O underlying22 Ab qO qO) (qV (AD O Aa (E.cell (λf=>f) (al x _ hy))) (qE O (AT func179 kQ kQ O) (Tq _ b.next.length g t _ qO hG qO) ?_))))))))));rintro _ w29 ⟨rfl,am,ak⟩;replace Bd:=am.keep qO Bd;replace E:=E.step am (by intro x hx hm;omega);obtain ⟨ae,af⟩:=Sf (b:=b) (k:=k) (x:=x) (s:=i) (t:=t) hh an;rw[ae] at ak;refine AA (AG (qA _ O (AA (AP (AB (AG (qV (Aq O O (A2 qO)) (qM _ O (AA (AB ?_))))))))));exact ⟨b.next.length - (i+1),qO,i+1,true,Af.out ⟨O,O,O,O,O,O,O,trivial⟩,E,Bd,ak,qO,af.symm,O⟩
    ·obtain ⟨ae,af⟩:=P9 (b:=b) (k:=k) (x:=x) (s:=i) (.inr (by rw[an];omega));rw[<-ae] at hG;refine AK (AP (AB (AG (qV (Aq O O (A2 qO)) (qM _ O (AA (AB ?_)))))));exact ⟨b.next.length - (i+1),qO,i+1,sm,Af.out ⟨O,O,O,O,O,O,O,trivial⟩,E,Bd,hG,qO,(by rw[af];exact aj),O⟩
   ·have ap:=hh;obtain ⟨ae,af⟩:=P9 (b:=b) (k:=k) (x:=x) (s:=i) (.inl hh);rw[<-ae] at hG;refine AJ O O qD (v:=.bool false) (Aw hh) (Or.inl O) (AJ O O qD (v:=.bool false) (Aw hh) (Or.inl O) (AJ O O qD (v:=.bool false) (Aw hh) (Or.inl O) (AJ O O qD (v:=.bool false) (Aw hh) (Or.inl O) (AJ O O qD (v:=.bool false) (Aw hh) (Or.inl O) (AJ O O qD (v:=.bool false) (Aw hh) (Or.inl O) (AJ O O qD (v:=.bool false) (Aw hh) (Or.inl O) (AJ O O qD (v:=.bool false) (Aw hh) (Or.inl O) (AJ O O qD (v:=.bool false) (Aw hh) (Or.inl O) (qV (Ac (v:=(.bool false)) O (by rw[hh];rfl)) (AA (AW O (AK (AP (AB (AG (qV (Aq O O (A2 qO)) (qM _ O ?_)))))))))))))))));refine AA (AB ?_);exact ⟨b.next.length - (i+1),qO,i+1,sm,Af.out ⟨O,O,O,O,O,O,O,trivial⟩,E,Bd,hG,qO,(by rw[af];exact aj),O⟩
  ·have az:i=b.next.length:=qO
   subst az;refine Ak (AR (AR (Ae (AB (Y (qM _ O (qM _ O (qA _ O (qA _ O (AA (AS (Cl results183 (v:=(.slice (some ⟨g,0,none⟩) ((b.next.length+7) / 8) ((b.next.length+7) / 8))) (v':=(.bool sm)) O O ?_))))))))))));subst aj;exact ⟨⟨g,O,hG,ax⟩,E⟩
end Go.Proofs
namespace Go.Eng
open Go
abbrev Ra:=Int×ByteArray
def Kh (p:Ra):Value:=.agg #[.int .i64 p.1,.string p.2]
theorem R2 (k:Ra):Instr.sameBits 10000 (Kh k) (Kh k)=true:=by
 show Instr.sameBits (9999+1) (.agg _) (.agg _)=true;simp[Instr.sameBits,(MapKept.bytes_beq k.2 k.2).2 rfl]
theorem XG {P : Program} {t e f : TypeId} {g h s v k r : String} {p m : Bool} {u l : Nat} (o : P.underlying t = some (.struct #[⟨g, e, 0, p, s, k, u⟩, ⟨h, f, 1, m, v, r, l⟩])) (hs : P.stoodInHeld t = false) (z : P.underlying e = some (.int .i64)) (c : P.underlying f = some .string) (F : g ≠ "_") (H : h ≠ "_") (w : World) (a b : Ra) :
 (Op.equal t (Kh a) (Kh b)).run P w=.ok (decide (a=b)) w:=by
 have D:P.plainKey e=true:=by simp[Program.plainKey,z]
 have i:P.plainKey f=true:=by simp[Program.plainKey,c]
 have j:P.fieldsOf t=#[⟨g,e,0,p,s,k,u⟩,⟨h,f,1,m,v,r,l⟩]:=by simp[Program.fieldsOf,o]
 have B:∀(d:Nat) (x y:Int),(Op.equalIn (d+1) e (.int .i64 x) (.int .i64 y)).run P w=.ok (x == y) w:=λd x y=>by
  simp[Op.equalIn,run_underlying z]
 have C:∀(d:Nat) (x y:ByteArray),(Op.equalIn (d+1) f (.string x) (.string y)).run P w=.ok (x == y) w:=λd x y=>by
  simp[Op.equalIn,run_underlying c]
 show (Op.equalIn (9999+1) t (.agg _) (.agg _)).run P w=_;rw[run_equalIn_struct w 9999 t _ _ (by rw[j];exact o) hs,j];obtain ⟨A,I⟩:=a;obtain ⟨G,K⟩:=b;have J:∀(x:Int) (y:ByteArray),(part e #[.int .i64 x,.string y] 0).run P w=.ok (.int .i64 x) w:=λx y=>run_part_plain w D O;have n:∀(x:Int) (y:ByteArray),(part f #[.int .i64 x,.string y] 1).run P w=.ok (.string y) w:=λx y=>run_part_plain w i O;have b':∀x y:Int,(x == y)=decide (x=y):=λx y=>by rw[Bool.eq_iff_iff];simp
 have c':∀x y:ByteArray,(x == y)=decide (x=y):=λx y=>by rw[Bool.eq_iff_iff,MapKept.bytes_beq];simp
 simp only[Op.eqFields,F,H,ne_eq,not_false_eq_true,if_true,Sem.run_bind,J,n,Result.andThen_ok,B 9998,b',Prod.mk.injEq];by_cases q:A=G
 .by_cases E:I=K<;>simp[q,E,n,C 9998,c']
 .simp[q]
end Go.Eng
namespace Go.Proofs
open Go Go.Eng Go.Sort
set_option maxRecDepth 100000
def Wa (k:Ra):List Value:=[.int .i64 k.1,.string k.2]
theorem U2 (b:Bool) (w:World) (k:Ra):(Instr.checkKey b 10000 204 (Kh k)).run prog w=.ok () w:=by kernel_rfl
theorem PO:KeyOk prog 204 Kh:=QB (by rw[underlying204]) U2 (λw a b=>XG underlying204 qK underlying3 underlying202 qD qD w a b) R2
theorem Uo (w0:World) (first:Ra) (c most:Nat) (sv av:Value) (stp:Ra→Nat→Option Ra) (acc:Ra→Int) (hc:1≤c∧c≤16) (hm:1≤most∧most≤20000) (hac:∀k,RZ c stp first k→-1≤acc k∧acc k<2147483648)
  (hs:∀w k x,Ao w0 w→RZ c stp first k→x<c→CV prog sv #[.agg #[.int .i64 k.1,.string k.2],.int .i64 ((x:Nat):Int)] w fun r w'=>(∃q,r=.tuple #[.agg #[.int .i64 q.1,.string q.2],.bool (stp k x).isSome]∧∀b,stp k x=some b→q=b)∧Ao w w')
  (ha:∀w k,Ao w0 w→RZ c stp first k→CV prog av #[.agg #[.int .i64 k.1,.string k.2]] w fun r w'=>r=.int .i64 (acc k)∧Ao w w') :
  CJ prog 180 #[.agg #[.int .i64 first.1,.string first.2],.int .i64 ((c:Nat):Int),sv,av,.int .i64 ((most:Nat):Int)] w0 fun r w=>JW c most stp acc first w0.heap.size r w∧Ao w0 w:=by
 have c0:∀k,(Wa k).length=2:=fun _=>rfl;refine qR func180 rfl ntmps180 rfl (fun E=>(Y (BM (v:=(.agg #[(I6 first.1),(.string first.2)])) (c:=#[(I6 first.1),(.string first.2)]) qD rfl rfl ?_)));intro bf wf Nf;have Ff:=Nf.ge E;replace E:=E.ext Nf.ext;have Bf:=Nf.blk;refine BO (c:=#[(I6 0),(.slice none 0 0),(.slice none 0 0)]) qD CU rfl ?_;intro br wr Nr;have Fr:=Nr.ge E;have Or_bf:=Nr.lt Bf;replace Bf:=Nr.keep Bf;replace E:=E.ext Nr.ext;have Br:=Nr.blk;refine qA (.bool false) rfl (AA (Y (qV (AU (vs:=[(I6 first.1),(.string first.2)]) rfl GP DQ rfl (Bf.cells rfl)) (Ad (ps:=[(0,(.agg #[(I6 first.1),(.string first.2)]))]) (c:=#[(I6 first.1),(.string first.2)]) qD rfl underlying231 DQ I2 qD qD qK ?_))));intro bs ws Ns;have Fs:=Ns.ge E;have Os_bf:=Ns.lt Bf;have Os_br:=Ns.lt Br;replace Bf:=Ns.keep Bf;replace Br:=Ns.keep Br;replace E:=E.ext Ns.ext;have Bs:=Ns.blk;refine qA (.slice (some ⟨bs,0,none⟩) 1 1) rfl (AA (Y (Eg Kh DJ qD ?_)));intro bm wm Nm;have Fm:=Nm.ge E;have Om_bf:=Nm.lt Bf;have Om_br:=Nm.lt Br;have Om_bs:=Nm.lt Bs;replace Bf:=Nm.keep Bf;replace Br:=Nm.keep Br;replace Bs:=Nm.keep Bs;replace E:=E.ext Nm.ext;intro Mm;refine qV (AU (vs:=[(I6 first.1),(.string first.2)]) rfl GP DQ rfl (Bf.cells rfl)) (HB (k:=(first.1,first.2)) (v:=0) underlying232 (PO) Mm rfl rfl rfl ?_);intro w1 S1 H1;replace Bf:=S1.keep qO Bf;replace Br:=S1.keep qO Br;replace Bs:=S1.keep qO Bs;replace E:=S1.step E qQ;replace Mm:=H1;refine qM (.map (some bm)) rfl (qA (.map (some bm)) rfl (AA (Y (BO (c:=#[(I6 0),(.slice none 0 0),(.slice none 0 0)]) qD CU rfl ?_))));intro bd wd Nd;have Fd:=Nd.ge E;have Od_bf:=Nd.lt Bf;have Od_br:=Nd.lt Br;have Od_bs:=Nd.lt Bs;have Od_bm:=Nd.ltM Mm;replace Bf:=Nd.keep Bf;replace Br:=Nd.keep Br;replace Bs:=Nd.keep Bs;replace Mm:=Nd.keepM Mm;replace E:=E.ext Nd.ext;have Bd:=Nd.blk;refine AA (AE (Y (qA (I6 0) rfl (AA (AM ?_)))));obtain ⟨n1,dv⟩:∃n1,n1=bs:=⟨_,rfl⟩;obtain ⟨n2,ar⟩:∃n2,n2=(wd).heap.size:=⟨_,rfl⟩;have c8:br<n2∧bs<n2∧bm<n2∧bd<n2:=⟨by rw[ar];exact Br.lt,by rw[ar];exact Bs.lt,by rw[ar];exact Mm.lt,by rw[ar];exact Bd.lt⟩;have cd:w0.heap.size≤n1∧w0.heap.size≤n2:=qO
 have da:(wd).ownsRow n1 204 2 (.slice (some ⟨bs,0,none⟩) 1 1) 1 ([first].map Wa).flatten:=OA (base:=n1) Bs qO;refine Am (fun nn_ σ W2=>∃(i:Nat) (ab:List (List Int)) (ks:List Ra) (ac:List Int) (vs:List Value) (sa ea ag:Option Addr) (ae sn ec af:Nat),(∃jj_,σ=BQ jj_ [(1,(I6 (c:Int))),(2,sv),(3,av),(4,(I6 (most:Int))),(10,(P6 br 0)),(13,(.map (some bm))),(14,(P6 bd 0)),(15,(I6 (i:Int))),(12,(.slice sa sn ae))])∧Chg AZ w0 W2∧Az W2 br #[(I6 0),(.slice none 0 0),(.slice none 0 0)] 52∧BZ W2 bm Kh DJ (BD ks 0)∧Az W2 bd (#[Value.int .i64 0,.slice ea i ec,.slice ag i af]) 52∧(ExpP c stp first ks ab [])∧(ab.length=i)∧(ks.length≤most)∧(sn=ks.length)∧(i≤sn)∧(ac=(ks.take i).map acc)∧(W2.ownsRow n1 204 2 (.slice sa sn ae) sn (ks.map Wa).flatten)∧(OutSt W2 n2 (.slice ea i ec) (.slice ag i af) vs ac ab)∧(∀b,(Value.slice sa sn ae).ownBlock=some b→¬Ek (.slice ea i ec) (.slice ag i af) vs b∧b≠bm∧b≠bd)∧(n2≤W2.heap.size)∧nn_=most - i) (n:=most - 0) ?_ ?_
 ·exact ⟨0,[],[first],[],[],some ⟨bs,0,none⟩,none,none,1,1,0,0,Af.out ⟨rfl,rfl,rfl,rfl,rfl,rfl,rfl,rfl,rfl,trivial⟩,E,Br,Mm,Bd,ExpP.start _ _ _,rfl,hm.1,rfl,qO,rfl,da,OutSt.start _ _,(fun b hb=>⟨(fun h=>by rcases h with h|h|⟨i,v,h,_⟩;cases h;cases h;simp at h),(by have dk:bs=b:=Option.some.inj hb;omega),(by have dk:bs=b:=Option.some.inj hb;omega)⟩),qO,rfl⟩
 ·clear E Br Mm Bd;rintro _ _ W2 ⟨i,ab,ks,ac,vs,sa,ea,ag,ae,sn,ec,af,⟨j2,rfl⟩,E,Br,Mm,Bd,hC,bv,bb,a4,d3,a1,hS,hO,ah,ak,rfl⟩;refine AE (Y (qM (I6 (i:Int)) rfl (qM (.slice sa sn ae) rfl (qV (AH (ad:=sa) (n:=sn) (cap:=ae) underlying231 rfl) (qV (Av (k:=.i64) (a:=(i:Int)) (b:=(sn:Int)) rfl rfl) (AA (qC rfl (fun d6=>?_) (fun d6=>?_))))))))
  ·obtain ⟨k,am⟩:=AL (l:=ks) (i:=i) qO;have cy:=hC.rch k (List.mem_of_getElem? am);obtain ⟨sb,rfl,ee,hsc⟩:=Bj hS qO;obtain ⟨z0,hz0⟩:∃z0,z0=(W2).heap.size:=⟨_,rfl⟩;have dm:n2≤z0:=qO
   have bp:∀b,Ek (.slice ea i ec) (.slice ag i af) vs b→b<z0:=fun b hb=>by have:=(hO.lt hb).2;omega
   have c9:∀b,(Value.slice (some ⟨sb,0,none⟩) sn ae).ownBlock=some b→b<z0:=fun b hb=>by have:=(hS.lt b hb).2;omega
   refine AK (AB (AE (AM (Y (qM (I6 (c:Int)) rfl (E8 (n:=c) (z:=(I6 0)) (bytes:=8) qD underlying22 Ab GO CW rfl rfl rfl qO qO ?_))))));intro bq wq Nq;have Fq:=Nq.ge E;have Oq_br:=Nq.lt Br;have Oq_bm:=Nq.ltM Mm;have Oq_bd:=Nq.lt Bd;replace Br:=Nq.keep Br;replace Mm:=Nq.keepM Mm;replace Bd:=Nq.keep Bd;replace hS:=Aj hS Nq.ext;replace hO:=hO.ext Nq.ext;replace ak:=Nat.le_trans ak Nq.ext.size;replace E:=E.ext Nq.ext;have Bq:=Nq.blk;refine qA (.slice (some ⟨bq,0,none⟩) c c) rfl (AA (AE (Y (qM (I6 (c:Int)) rfl (qM (I6 0) rfl (AA (AM ?_)))))));have hqz:z0≤bq:=by have:=Nq.eq;omega
   rw[show List.replicate c (Value.int .i64 0)=(List.replicate c (0:Int)).map (Value.int .i64) by simp] at Bq;refine Am (fun nn_ σ W4=>∃(x:Nat) (R:List Int) (ks:List Ra) (sa:Option Addr) (ae sn:Nat),(∃jj_,σ=BQ jj_ [(1,(I6 (c:Int))),(2,sv),(3,av),(4,(I6 (most:Int))),(10,(P6 br 0)),(13,(.map (some bm))),(14,(P6 bd 0)),(15,(I6 (i:Int))),(16,(.slice (some ⟨bq,0,none⟩) c c)),(35,(I6 (c:Int))),(36,(I6 (x:Int))),(12,(.slice sa sn ae))])∧Chg AZ w0 W4∧Az W4 br #[(I6 0),(.slice none 0 0),(.slice none 0 0)] 52∧BZ W4 bm Kh DJ (BD ks 0)∧Az W4 bd (#[Value.int .i64 0,.slice ea i ec,.slice ag i af]) 52∧Az W4 bq ((R.map (Value.int .i64)).toArray) 3∧(x≤c)∧(R.length=c)∧(ExpP c stp first ks ab (R.take x))∧(ks.length≤most)∧(ks[i]?=some k)∧(sn=ks.length)∧((ks.take i).map acc=ac)∧(W4.ownsRow n1 204 2 (.slice sa sn ae) sn (ks.map Wa).flatten)∧(OutSt W4 n2 (.slice ea i ec) (.slice ag i af) vs ac ab)∧(∀b,(Value.slice sa sn ae).ownBlock=some b→¬Ek (.slice ea i ec) (.slice ag i af) vs b∧b≠bm∧b≠bd∧b≠bq)∧(n2≤W4.heap.size)∧nn_=c - x) (n:=c - 0) ?_ ?_
   ·exact ⟨0,List.replicate c 0,ks,some ⟨sb,0,none⟩,ae,sn,Af.out ⟨rfl,rfl,rfl,rfl,rfl,rfl,rfl,rfl,rfl,rfl,rfl,rfl,trivial⟩,E,Br,Mm,Bd,Bq,Nat.zero_le _,qP,(by simpa using hC),bb,am,a4,a1.symm,hS,hO,(fun b hb=>⟨(ah b hb).1,(ah b hb).2.1,(ah b hb).2.2,fun e=>by have:=c9 b hb;omega⟩),ak,rfl⟩
   ·clear E Br Mm Bd Bq;rintro _ _ W4 ⟨x,R,ks,sa,ae,sn,⟨j4,rfl⟩,E,Br,Mm,Bd,Bq,hx,bg,hC,bb,am,a4,bk,hS,hO,ah,ak,rfl⟩;refine Y (qV (Av (k:=.i64) (a:=(x:Int)) (b:=(c:Int)) rfl rfl) (AA (AE (qC rfl (fun cm=>?_) (fun cm=>?_)))))
    ·obtain ⟨aj,rfl,_,ba⟩:=Bj hS (by have:=AI am;omega);have ei:i<sn:=by have:=AI am;omega
     have cq:A' (W4) aj (0+i*2) [.int .i64 k.1,.string k.2]:=EF c0 ba am;refine AK (AB (AE (AM (Y (qM (I6 (x:Int)) rfl (qA (I6 (x:Int)) rfl (AA (Y (qM sv rfl (qM (.slice (some ⟨aj,0,none⟩) sn ae) rfl (qM (I6 (i:Int)) rfl (qV (AC (b:=aj) (o:=0) (len:=sn) (cap:=ae) (i:=i) (o':=0+i*2) rfl rfl rfl underlying231 DQ qO qO) (qV (AU (vs:=[(I6 k.1),(.string k.2)]) rfl GP DQ rfl (cq)) (qM (I6 (x:Int)) rfl (De (fv:=sv) (vs:=[(.agg #[(I6 k.1),(.string k.2)]),(I6 (x:Int))]) qD rfl rfl (hs _ k x E cy qO) ?_)))))))))))))));rintro _ w9 ⟨⟨q,rfl,hq⟩,X9⟩;replace Br:=X9.keep Br;replace Mm:=X9.keepM Mm;replace Bd:=X9.keep Bd;replace Bq:=X9.keep Bq;replace E:=E.ext X9;have hS:=Aj hS X9;have hO:=hO.ext X9;have ak:=Nat.le_trans ak X9.size;obtain ⟨zz,hzz⟩:∃zz,zz=(w9).heap.size:=⟨_,rfl⟩;have ck:∀b,(Value.slice (some ⟨aj,0,none⟩) sn ae).ownBlock=some b→b<zz:=fun b hb=>by have:=(hS.lt b hb).2;omega
     have a9:(R.take x).length=x:=by simp;omega
     have a6:ks[ab.length]?=some k:=by rw[bv];exact am
     have dd:=CX (L:=R) (s:=x) (x:=-1) qO;refine qM (.tuple #[(.agg #[(I6 q.1),(.string q.2)]),(.bool ((stp k x).isSome))]) rfl (qV (Ai (vs:=#[(.agg #[(I6 q.1),(.string q.2)]),(.bool ((stp k x).isSome))]) (v:=(.agg #[(I6 q.1),(.string q.2)])) rfl rfl) (qV (Ai (vs:=#[(.agg #[(I6 q.1),(.string q.2)]),(.bool ((stp k x).isSome))]) (v:=(.bool ((stp k x).isSome))) rfl rfl) (Au (v:=(.agg #[(I6 q.1),(.string q.2)])) (c:=#[(I6 q.1),(.string q.2)]) (n:=2) qD I2 rfl DQ rfl rfl rfl qS ?_)));intro bz wz Nz;have Fz:=Nz.ge E;have Oz_br:=Nz.lt Br;have Oz_bm:=Nz.ltM Mm;have Oz_bd:=Nz.lt Bd;have Oz_bq:=Nz.lt Bq;replace Br:=Nz.keep Br;replace Mm:=Nz.keepM Mm;replace Bd:=Nz.keep Bd;replace Bq:=Nz.keep Bq;replace hS:=Aj hS Nz.ext;replace hO:=hO.ext Nz.ext;replace ak:=Nat.le_trans ak Nz.ext.size;replace E:=E.ext Nz.ext;have Bz:=Nz.blk;refine qA (.bool ((stp k x).isSome)) rfl (AA (AE (Y (qM (.slice (some ⟨bq,0,none⟩) c c) rfl (qM (I6 (x:Int)) rfl (qV (AC (b:=bq) (o:=0) (len:=c) (cap:=c) (i:=x) (o':=0+x) rfl rfl rfl underlying22 Ab qO qO) (BB (b:=bq) (o:=0+x) (c':=((R.set x (-1)).map (Value.int .i64)).toArray) (v:=(I6 (-1))) rfl rfl rfl Ab Bq (by simp;omega) (C7 _) ?_)))))));intro w6 S6;replace hS:=Ax hS S6.chg fun b hb h=>(ah b hb).2.2.2 h;replace hO:=hO.chg S6.chg fun b hb h=>by have:=bp b hb;have h':b=bq:=h;omega
     replace ak:=Nat.le_trans ak S6.chg.size;replace Br:=S6.keep qO Br;replace Mm:=S6.keepM qO Mm;replace Bd:=S6.keep qO Bd;replace Bz:=S6.keep qO Bz;replace E:=S6.step E qQ;replace Bq:=S6.blk;refine AA (Y (qM (.bool ((stp k x).isSome)) rfl (qV (Cj (b:=(stp k x).isSome) rfl) (AA (A3 (b:=!((stp k x).isSome)) rfl (fun ax=>?_) (fun ax=>?_))))))
     ·have cg:=ax;replace ax:=by simpa using ax
      have ch:stp k x=none:=by simpa using ax
      have du:GT stp ks k (R.take x).length (-1):=by unfold GT;rw[a9,ch]
      refine Ak (AR (Ae (AB (AG (qV (Aq (k:=.i64) (a:=(x:Int)) (b:=1) (c:=(x:Int)+1) rfl rfl (A2 qO)) (qM (I6 ((x:Int)+1)) rfl (AA (AB ?_))))))));exact ⟨c - (x+1),qO,x+1,R.set x (-1),ks,some ⟨aj,0,none⟩,ae,sn,Af.out ⟨rfl,rfl,rfl,rfl,rfl,rfl,rfl,rfl,rfl,rfl,rfl,rfl,trivial⟩,E,Br,Mm,Bd,Bq,qO,(by simp[bg]),(by rw[dd];exact hC.add a6 du),bb,am,a4,bk,hS,hO,ah,ak,rfl⟩
     ·have cg:=ax;replace ax:=by simpa using ax
      obtain ⟨q',cl⟩:=Option.isSome_iff_exists.1 (show (stp k x).isSome=true by simpa using ax);have eg:=hq q' cl;subst eg;refine AK (AB (Y (qM (.map (some bm)) rfl (qV (AU (vs:=[(I6 q.1),(.string q.2)]) rfl GP DQ rfl (Bz.cells rfl)) (B_ (v:=(.tuple #[(I6 ((A_ (BD ks 0) (q.1,q.2)).getD 0)),(.bool ((A_ (BD ks 0) (q.1,q.2)).isSome))])) rfl rfl qD (FL (k:=(q.1,q.2)) (z:=0) underlying232 (PO) CW Mm rfl rfl) (qM (.tuple #[(I6 ((A_ (BD ks 0) (q.1,q.2)).getD 0)),(.bool ((A_ (BD ks 0) (q.1,q.2)).isSome))]) rfl (qV (Ai (vs:=#[(I6 ((A_ (BD ks 0) (q.1,q.2)).getD 0)),(.bool ((A_ (BD ks 0) (q.1,q.2)).isSome))]) (v:=(I6 ((A_ (BD ks 0) (q.1,q.2)).getD 0))) rfl rfl) (qV (Ai (vs:=#[(I6 ((A_ (BD ks 0) (q.1,q.2)).getD 0)),(.bool ((A_ (BD ks 0) (q.1,q.2)).isSome))]) (v:=(.bool ((A_ (BD ks 0) (q.1,q.2)).isSome))) rfl rfl) (qA (I6 ((A_ (BD ks 0) (q.1,q.2)).getD 0)) rfl (qA (.bool ((A_ (BD ks 0) (q.1,q.2)).isSome)) rfl (AA (GR (fun σ W8=>∃(aw:List Ra) (j:Nat) (bn:Option Addr) (bo a7:Nat),(∃jj_,σ=BQ jj_ [(1,(I6 (c:Int))),(2,sv),(3,av),(4,(I6 (most:Int))),(10,(P6 br 0)),(13,(.map (some bm))),(14,(P6 bd 0)),(15,(I6 (i:Int))),(16,(.slice (some ⟨bq,0,none⟩) c c)),(17,(I6 (x:Int))),(35,(I6 (c:Int))),(36,(I6 (x:Int))),(12,(.slice bn a7 bo)),(20,(I6 (j:Int)))])∧Chg AZ w0 W8∧Az W8 br #[(I6 0),(.slice none 0 0),(.slice none 0 0)] 52∧BZ W8 bm Kh DJ (BD aw 0)∧Az W8 bd (#[Value.int .i64 0,.slice ea i ec,.slice ag i af]) 52∧Az W8 bq (((R.set x (-1)).map (Value.int .i64)).toArray) 3∧Az W8 bz #[(I6 q.1),(.string q.2)] 204∧(ExpP c stp first aw ab (R.take x++[(j:Int)]))∧(aw.length≤most)∧(aw[i]?=some k)∧(a7=aw.length)∧((aw.take i).map acc=ac)∧(W8.ownsRow n1 204 2 (.slice bn a7 bo) a7 (aw.map Wa).flatten)∧(OutSt W8 n2 (.slice ea i ec) (.slice ag i af) vs ac ab)∧(∀b,(Value.slice bn a7 bo).ownBlock=some b→¬Ek (.slice ea i ec) (.slice ag i af) vs b∧b≠bm∧b≠bd∧b≠bq)∧(n2≤W8.heap.size)) ?_ ?_))))))))))))
      ·skip
       refine Y (qM (.bool ((A_ (BD ks 0) (q.1,q.2)).isSome)) rfl (qV (Cj (b:=(A_ (BD ks 0) (q.1,q.2)).isSome) rfl) (AA (A3 (b:=!((A_ (BD ks 0) (q.1,q.2)).isSome)) rfl (fun ai=>?_) (fun ai=>?_)))))
       ·have bw:=ai;replace ai:=by simpa using ai
        have de:A_ (BD ks 0) q=none:=by simpa using ai
        obtain ⟨ca,b4⟩:=IC de;have b3:=hC.new a6 qO (by rw[a9];exact cl) ca;refine Y (qM (.slice (some ⟨aj,0,none⟩) sn ae) rfl (qV (AH (ad:=some ⟨aj,0,none⟩) (n:=sn) (cap:=ae) underlying231 rfl) (qA (I6 (sn:Int)) rfl (AA (AE (Y (qM (I6 (sn:Int)) rfl (qM (I6 (most:Int)) rfl (qV (As (k:=.i64) (a:=(sn:Int)) (b:=(most:Int)) rfl rfl) (AA (qC rfl (fun bt=>?_) (fun bt=>?_))))))))))))
        ·refine Y (qV (BU (ps:=[]) (v:=(.agg #[(I6 0),(.slice none 0 0),(.slice none 0 0)])) rfl qK) (Al (b:=br) (o:=0) (c':=#[(I6 0),(.slice none 0 0),(.slice none 0 0)]) rfl rfl qS Ap rfl Br qL rfl ?_));intro w11 bi;replace Mm:=bi.keepM qO Mm;replace Bd:=bi.keep qO Bd;replace Bq:=bi.keep qO Bq;replace Bz:=bi.keep qO Bz;replace E:=bi.step E qQ;replace Br:=bi.blk;refine qA (.bool false) rfl (AA (AS (AO (AO (Ag (AO (AO (Ag (AO (Ag (AO (AO (Ag (AO (BJ results180 (vs:=[(.int .i64 0),(.slice none 0 0),(.slice none 0 0)]) (b:=br) (v':=(.bool false)) rfl BC Ap rfl (Br.cells rfl) rfl ?_)))))))))))))));exact ⟨.inr ⟨fun hF=>by have h9:=hF _ b3.nd b3.rch;rw[List.length_append,List.length_singleton] at h9;omega,rfl⟩,E⟩
        ·refine AK (AB (Y (qM (.map (some bm)) rfl (qV (AU (vs:=[(I6 q.1),(.string q.2)]) rfl GP DQ rfl (Bz.cells rfl)) (qM (I6 (sn:Int)) rfl (DM (k:=(q.1,q.2)) (v:=(sn:Int)) underlying232 (PO) Mm rfl rfl rfl ?_))))));intro w12 a2 dn;replace hS:=Ax hS a2.chg fun b hb h=>(ah b hb).2.1 h;replace hO:=hO.chg a2.chg fun b hb h=>by have:=(hO.lt hb).1;have h':b=bm:=h;omega
         replace ak:=Nat.le_trans ak a2.chg.size;replace Br:=a2.keep qO Br;replace Bd:=a2.keep qO Bd;replace Bq:=a2.keep qO Bq;replace Bz:=a2.keep qO Bz;replace E:=a2.step E qQ;replace Mm:=dn;refine AA (AG (qM (.slice (some ⟨aj,0,none⟩) sn ae) rfl (qV (AU (vs:=[(I6 q.1),(.string q.2)]) rfl GP DQ rfl (Bz.cells rfl)) (Ad (ps:=[(0,(.agg #[(I6 q.1),(.string q.2)]))]) (c:=#[(I6 q.1),(.string q.2)]) qD rfl underlying231 DQ I2 qD qD qK ?_))));intro b13 ds al;have F13:=al.ge E;have O13_br:=al.lt Br;have O13_bm:=al.ltM Mm;have O13_bd:=al.lt Bd;have O13_bq:=al.lt Bq;have O13_bz:=al.lt Bz;replace Br:=al.keep Br;replace Mm:=al.keepM Mm;replace Bd:=al.keep Bd;replace Bq:=al.keep Bq;replace Bz:=al.keep Bz;replace hS:=Aj hS al.ext;replace hO:=hO.ext al.ext;replace ak:=Nat.le_trans ak al.ext.size;replace E:=E.ext al.ext;have dq:=al.blk;have dx:bq<(ds).heap.size:=Bq.lt;refine BT (base:=n1) (n:=sn) (m:=1) (xs:=(ks.map Wa).flatten) (news:=[(I6 q.1),(.string q.2)]) (size:=2) (bytes:=24) (v:=(.slice (some ⟨aj,0,none⟩) sn ae)) qD underlying231 DQ WO I2 rfl qD rfl hS rfl (rfl) (dq.cells rfl) qS (by unfold maxLen;omega) qO (qO) ?_;intro v7 d9 ct ay d4;replace Br:=ay.keep (fun h=>by have:=(hS.lt _ h).1;omega) Br;replace Mm:=ay.keepM (fun h=>(ah _ h).2.1 rfl) Mm;replace Bd:=ay.keep (fun h=>(ah _ h).2.2.1 rfl) Bd;replace Bq:=ay.keep (fun h=>(ah _ h).2.2.2 rfl) Bq;replace Bz:=ay.keep (fun h=>(by have:=ck _ h;have:=Nz.eq;omega)) Bz;replace E:=E.step ay (fun x hx h=>absurd (hS.lt x h).1 qO);obtain ⟨cv,cs,rfl⟩:=A9 ct;replace Mm:BZ (d9) bm Kh DJ (DA (BD ks 0) q ((sn:Nat):Int)):=Mm;rw[a4,b4] at Mm;refine qA (.slice cv (sn+1) cs) rfl (AA (AB ?_));exact ⟨ks++[q],sn,cv,cs,sn+1,Af.out ⟨rfl,rfl,rfl,rfl,rfl,rfl,rfl,rfl,rfl,rfl,rfl,rfl,rfl,rfl,trivial⟩,E,Br,Mm,Bd,Bq,Bz,(by rw[a4];exact b3),(by rw[List.length_append,List.length_singleton];omega),(by rw[List.getElem?_append_left (AI am)];exact am),(by simp;omega),(by rw[List.take_append_of_le_length (by have:=AI am;omega)];exact bk),(by rw[List.map_append,List.flatten_append];exact ct),hO.chg ay (fun b hb h=>(ah b h).1 hb),(fun b hb=>by rcases d4 b hb with h9|h9;exact ah b h9;exact ⟨fun ho=>by have:=(hO.lt ho).2;omega,qO,qO,qO⟩),Nat.le_trans ak ay.size⟩
       ·have bw:=ai;replace ai:=by simpa using ai
        have c6:(A_ (BD ks 0) q).isSome=true:=by simpa using ai
        obtain ⟨v9,cu⟩:=Option.isSome_iff_exists.1 c6;obtain ⟨j9,rfl,d8⟩:=JJ cu;rw[show (A_ (BD ks 0) (q.1,q.2)).getD 0=((j9:Nat):Int) from by show (A_ (BD ks 0) q).getD 0=_;rw[cu];rfl];refine AK (AB ?_);exact ⟨ks,j9,some ⟨aj,0,none⟩,ae,sn,Af.out ⟨rfl,rfl,rfl,rfl,rfl,rfl,rfl,rfl,rfl,rfl,rfl,rfl,rfl,rfl,trivial⟩,E,Br,Mm,Bd,Bq,Bz,hC.add a6 (by unfold GT;rw[a9,cl];exact ⟨j9,rfl,d8⟩),bb,am,a4,bk,hS,hO,ah,ak⟩
      ·clear E Br Mm Bd Bq Bz;rintro _ W8 ⟨aw,j,bn,bo,a7,⟨j8,rfl⟩,E,Br,Mm,Bd,Bq,Bz,ed,b7,b6,cb,cf,cn,ci,b1,a5⟩;have cc:=CX (L:=R.set x (-1)) (s:=x) (x:=((j:Nat):Int)) (by simp;omega);refine AG (qM (.slice (some ⟨bq,0,none⟩) c c) rfl (qM (I6 (x:Int)) rfl (qM (I6 (j:Int)) rfl (qV (AC (b:=bq) (o:=0) (len:=c) (cap:=c) (i:=x) (o':=0+x) rfl rfl rfl underlying22 Ab qO qO) (BB (b:=bq) (o:=0+x) (c':=(((R.set x (-1)).set x (j:Int)).map (Value.int .i64)).toArray) (v:=(I6 (j:Int))) rfl rfl rfl Ab Bq (by simp;omega) (C7 _) ?_)))));intro w14 au;replace cn:=Ax cn au.chg fun b hb h=>(b1 b hb).2.2.2 h;replace ci:=ci.chg au.chg fun b hb h=>by have:=bp b hb;have h':b=bq:=h;omega
       replace a5:=Nat.le_trans a5 au.chg.size;replace Br:=au.keep qO Br;replace Mm:=au.keepM qO Mm;replace Bd:=au.keep qO Bd;replace Bz:=au.keep qO Bz;replace E:=au.step E qQ;replace Bq:=au.blk;refine AA (AP (AB (AG (qV (Aq (k:=.i64) (a:=(x:Int)) (b:=1) (c:=(x:Int)+1) rfl rfl (A2 qO)) (qM (I6 ((x:Int)+1)) rfl (AA (AB ?_)))))));exact ⟨c - (x+1),qO,x+1,(R.set x (-1)).set x ((j:Nat):Int),aw,bn,bo,a7,Af.out ⟨rfl,rfl,rfl,rfl,rfl,rfl,rfl,rfl,rfl,rfl,rfl,rfl,trivial⟩,E,Br,Mm,Bd,Bq,qO,(by simp[bg]),(by rw[cc,List.take_set_of_le (Nat.le_refl x)];exact ed),b7,b6,cb,cf,cn,ci,b1,a5,rfl⟩
    ·have c4:x=c:=qO
     rw[c4,show R.take c=R by rw[←bg,List.take_length]] at hC;obtain ⟨n4,c1⟩:∃n4,n4=(W4).heap.size:=⟨_,rfl⟩;have ei:=AI am;obtain ⟨aj,rfl,_,ba⟩:=Bj hS qO;have cq:A' (W4) aj (0+i*2) [.int .i64 k.1,.string k.2]:=EF c0 ba am;have b2:ac.length=i:=by rw[←bk,List.length_map,List.length_take];omega
     have an:(W4).ownsRow n2 DP 1 (.slice ea i ec) i (ac.map (Value.int .i64)):=by have h9:=hO.e;rwa [b2] at h9
     have ap:(W4).ownsRow n2 Co 1 (.slice ag i af) i vs:=hO.n.on (by rw[List.length_map];omega);have dj:=bb;have d1:=Bq.lt;have dl:=GZ (base:=bq) Bq (Nat.le_refl _) bg;refine Ak (AR (AR (Ae (AB ?_))));obtain ⟨ce,aa⟩:∃Fs:List C1,Fs=[(fun _ v _=>v=(P6 bd 2)),(fun _ v _=>v=(.slice ag i af)),(fun _ v _=>v=(.slice (some ⟨bq,0,none⟩) c c)),(fun _=>C0 Co #[.slice (some ⟨bq,0,none⟩) c c] n4),(fun _=>Cd n2 Co 1 (i+1) (vs++[Value.slice (some ⟨bq,0,none⟩) c c]) (.slice ag i af) n4),(fun _ v _=>v=(P6 bd 1)),(fun _ v _=>v=(.slice ea i ec)),(fun _ v _=>v=av),(fun _ v _=>v=(.slice (some ⟨aj,0,none⟩) sn ae)),(fun _ v _=>v=(I6 (i:Int))),(fun _ v _=>v=(.pointer (some ⟨aj,0+i*2,none⟩))),(fun _ v _=>v=(.agg #[(I6 k.1),(.string k.2)])),(fun _ v _=>v=(I6 (acc k))),(fun _=>C0 DP #[.int .i64 (acc k)] n4),(fun s v w=>Cd n2 DP 1 (i+1) (ac.map (Value.int .i64)++[Value.int .i64 (acc k)]) (.slice ea i ec) n4 v w∧∀b,(s 84).ownBlock=some b→v.ownBlock≠some b),(fun _ v _=>v=(P6 bd 2))]:=⟨_,rfl⟩;refine Hq (two 4 14 (fun b=>(Value.slice ag i af).ownBlock=some b) (fun b=>(Value.slice ea i ec).ownBlock=some b)) 16 [80,81,82,83,84,85,86,87,88,89,90,91,92,93,94,95] [[],[0],[],[2],[1,3],[],[5],[],[],[],[8,9],[10],[4,7,11],[12],[6,12,13],[0,1,2,3,4,5,6]] [[],[0],[],[2],[1,0,3,2],[],[5],[],[],[],[8,9],[10,8,9],[4,1,0,3,2,7,11,10,8,9],[12,4,1,0,3,2,7,11,10,8,9],[6,5,12,4,1,0,3,2,7,11,10,8,9,13],[0,1,2,3,4,5,6]] ce aa qK mixed qK qK qK ?_ ?_
     ·intro wd X0;refine DagStepsX.cons (A8.eq) (fun _ _ _ _ _ h=>h) (fun s' w' X U H=>?_) ?_
      ·exact AY (AN (b:=bd) (o:=0) (o':=2) (U 14 rfl) underlying52 rfl CB rfl) (Chg.refl _ _) rfl
      refine DagStepsX.cons (A8.eq) (fun _ _ _ _ _ h=>h) (fun s' w' X U H=>?_) ?_
      ·have dc:=H 0 rfl 80 _ rfl (by rw[aa];rfl);exact AY (AD (v:=(.slice ag i af)) dc B0 ((Chg.keep X (fun h=>(fun h=>h.elim (fun h=>by have:=(ap.lt _ h).1;omega) (fun h=>by have:=(an.lt _ h).1;omega)) (C5.or h)) (X0.keep Bd)).cell rfl)) (Chg.refl _ _) rfl
      refine DagStepsX.cons (A8.eq) (fun _ _ _ _ _ h=>h) (fun s' w' X U H=>?_) ?_
      ·exact AY (Ah (v:=(.slice (some ⟨bq,0,none⟩) c c)) (U 16 rfl)) (Chg.refl _ _) rfl
      refine DagStepsX.cons (C6 (fun y h=>by have:=(ap.lt y h).2;omega) (fun y h=>by have:=(an.lt y h).2;omega)) (F_.const) (fun s' w' X U H=>?_) ?_
      ·have c5:=H 2 rfl 82 _ rfl (by rw[aa];rfl);exact Cq (hs:=n4) underlying50 BG EG c5 qD qD qK (by have:=X0.size;have:=X.size;omega)
      refine DagStepsX.cons (HQ (fun k hk hm=>hk.elim (fun h=>hO.en k hm h) (fun h=>by have:=(an.lt k hm).2;omega))) (F_.const) (fun s' w' X U H=>?_) ?_
      ·have db:=H 1 rfl 81 _ rfl (by rw[aa];rfl);obtain ⟨b83,dw,ef,g83⟩:=(show ((fun _=>C0 Co #[.slice (some ⟨bq,0,none⟩) c c] n4):C1) s' (s' 83) w' from H 3 rfl 83 ((fun _=>C0 Co #[.slice (some ⟨bq,0,none⟩) c c] n4)) rfl (by rw[aa];rfl));exact CL (hs:=n4) underlying50 BG K6 EG rfl qD db (Aj (Aj ap X0) (X.mono (fun y _ h=>C5.none rfl rfl h))) dw rfl (ef.cells rfl) qS (by unfold maxLen;omega) qO (by have:=X0.size;have:=X.size;omega) (fun y h=>h) (by have:=X0.size;have:=X.size;omega)
      refine DagStepsX.cons (A8.eq) (fun _ _ _ _ _ h=>h) (fun s' w' X U H=>?_) ?_
      ·exact AY (AN (b:=bd) (o:=0) (o':=1) (U 14 rfl) underlying52 rfl BG rfl) (Chg.refl _ _) rfl
      refine DagStepsX.cons (A8.eq) (fun _ _ _ _ _ h=>h) (fun s' w' X U H=>?_) ?_
      ·have dr:=H 5 rfl 85 _ rfl (by rw[aa];rfl);exact AY (AD (v:=(.slice ea i ec)) dr BX ((Chg.keep X (fun h=>(fun h=>h.elim (fun h=>by have:=(ap.lt _ h).1;omega) (fun h=>by have:=(an.lt _ h).1;omega)) (C5.or h)) (X0.keep Bd)).cell rfl)) (Chg.refl _ _) rfl
      refine DagStepsX.cons (A8.eq) (fun _ _ _ _ _ h=>h) (fun s' w' X U H=>?_) ?_
      ·exact AY (Ah (v:=av) (U 3 rfl)) (Chg.refl _ _) rfl
      refine DagStepsX.cons (A8.eq) (fun _ _ _ _ _ h=>h) (fun s' w' X U H=>?_) ?_
      ·exact AY (Ah (v:=(.slice (some ⟨aj,0,none⟩) sn ae)) (U 12 rfl)) (Chg.refl _ _) rfl
      refine DagStepsX.cons (A8.eq) (fun _ _ _ _ _ h=>h) (fun s' w' X U H=>?_) ?_
      ·exact AY (Ah (v:=(I6 (i:Int))) (U 15 rfl)) (Chg.refl _ _) rfl
      refine DagStepsX.cons (A8.eq) (fun _ _ _ _ _ h=>h) (fun s' w' X U H=>?_) ?_
      ·have d5:=H 8 rfl 88 _ rfl (by rw[aa];rfl);have d7:=H 9 rfl 89 _ rfl (by rw[aa];rfl);exact AY (AC (b:=aj) (o:=0) (len:=sn) (cap:=ae) (i:=i) (o':=0+i*2) d5 d7 rfl underlying231 DQ qO qO) (Chg.refl _ _) rfl
      refine DagStepsX.cons (A8.eq) (fun _ _ _ _ _ h=>h) (fun s' w' X U H=>?_) ?_
      ·have dy:=H 10 rfl 90 _ rfl (by rw[aa];rfl);exact AY (AU (vs:=[(I6 k.1),(.string k.2)]) dy GP DQ rfl (fun j v hv=>Chg.cell X (fun h=>(C5.or h).elim (fun h=>(ah _ rfl).1 (.inr (.inl h))) (fun h=>(ah _ rfl).1 (.inl h))) (X0.cell (cq j v hv)))) (Chg.refl _ _) rfl
      refine DagStepsX.cons (A8.eq) (fun _ _ _ _ _ h=>h) (fun s' w' X U H=>?_) ?_
      ·have c7:=H 7 rfl 87 _ rfl (by rw[aa];rfl);have dz:=H 11 rfl 91 _ rfl (by rw[aa];rfl);exact HV (fv:=av) (vs:=[.agg #[.int .i64 k.1,.string k.2]]) c7 (LL dz) ((ha w' k ((E.ext X0).step X (fun y hy h=>(C5.or h).elim (fun h=>by have:=(ap.lt y h).1;omega) (fun h=>by have:=(an.lt y h).1;omega))) cy).mono (fun v w h=>⟨h.1,Ao.chg h.2⟩))
      refine DagStepsX.cons (C6 (fun y h=>by have:=(ap.lt y h).2;omega) (fun y h=>by have:=(an.lt y h).2;omega)) (F_.const) (fun s' w' X U H=>?_) ?_
      ·have di:=H 12 rfl 92 _ rfl (by rw[aa];rfl);exact Cq (hs:=n4) underlying22 Ab CW di qD qD qK (by have:=X0.size;have:=X.size;omega)
      refine DagStepsX.cons (HP rfl) (fun s1 s2 h v w h2=>⟨h2.1,by have:=h 4 84 rfl rfl;rw[this];exact h2.2⟩) (fun s' w' X U H=>?_) ?_
      ·have eb:=H 6 rfl 86 _ rfl (by rw[aa];rfl);obtain ⟨b93,d0,dh,g93⟩:=(show ((fun _=>C0 DP #[.int .i64 (acc k)] n4):C1) s' (s' 93) w' from H 13 rfl 93 ((fun _=>C0 DP #[.int .i64 (acc k)] n4)) rfl (by rw[aa];rfl));exact Hp (H 4 rfl 84 _ rfl (by rw[aa];rfl)) (CL (hs:=w'.heap.size) underlying22 Ab GO CW rfl qD eb (Ax (Aj an X0) (X.mono (fun y _ h=>C5.fst rfl h)) (fun k hk hm=>hO.en k hk hm)) d0 rfl (dh.cells rfl) qS (by unfold maxLen;omega) qO (by have:=X0.size;have:=X.size;omega) (fun y h=>h) (Nat.le_refl _)) (by have:=X0.size;have:=X.size;omega) (fun k h1 h2=>h1.elim (fun h=>hO.en k h2 h) (fun h=>by have:=(an.lt k h2).2;omega))
      refine DagStepsX.cons (A8.eq) (fun _ _ _ _ _ h=>h) (fun s' w' X U H=>?_) ?_
      ·exact AY (AN (b:=bd) (o:=0) (o':=2) (U 14 rfl) underlying52 rfl CB rfl) (Chg.refl _ _) rfl
      exact DagStepsX.nil
     ·intro s' df cx X0 az U H;replace az:=az.mono (M':=fun y=>(fun b=>(Value.slice ag i af).ownBlock=some b) y∨(fun b=>(Value.slice ea i ec).ownBlock=some b) y) (fun y _ h=>by obtain ⟨j,h⟩:=h;rcases E5 h with h|h;exact .inl h.2;exact .inr h.2);obtain ⟨⟨a8,be,cz⟩,c2,b8⟩:=(show ((fun _=>Cd n2 Co 1 (i+1) (vs++[Value.slice (some ⟨bq,0,none⟩) c c]) (.slice ag i af) n4):C1) s' (s' 84) cx from H 4 84 ((fun _=>Cd n2 Co 1 (i+1) (vs++[Value.slice (some ⟨bq,0,none⟩) c c]) (.slice ag i af) n4)) rfl (by rw[aa];rfl));obtain ⟨⟨⟨bj,bh,cw⟩,c3,cp⟩,b9⟩:=(show ((fun s v w=>Cd n2 DP 1 (i+1) (ac.map (Value.int .i64)++[Value.int .i64 (acc k)]) (.slice ea i ec) n4 v w∧∀b,(s 84).ownBlock=some b→v.ownBlock≠some b):C1) s' (s' 94) cx from H 14 94 ((fun s v w=>Cd n2 DP 1 (i+1) (ac.map (Value.int .i64)++[Value.int .i64 (acc k)]) (.slice ea i ec) n4 v w∧∀b,(s 84).ownBlock=some b→v.ownBlock≠some b)) rfl (by rw[aa];rfl));have dp:s' 95=(.pointer (some ⟨bd,2,none⟩)):=H 15 95 ((fun _ v _=>v=(.pointer (some ⟨bd,2,none⟩)))) rfl (by rw[aa];rfl);obtain ⟨j15,rfl⟩:=Af.out (σ:=s') (l:=[(1,(.int .i64 ((c:Nat):Int))),(2,sv),(3,av),(4,(.int .i64 ((most:Nat):Int))),(10,(.pointer (some ⟨br,0,none⟩))),(12,(.slice (some ⟨aj,0,none⟩) sn ae)),(13,(.map (some bm))),(14,(.pointer (some ⟨bd,0,none⟩))),(15,(.int .i64 ((i:Nat):Int))),(84,(.slice a8 (i+1) be)),(94,(.slice bj (i+1) bh)),(95,(.pointer (some ⟨bd,2,none⟩)))]) ⟨U 1 rfl,U 2 rfl,U 3 rfl,U 4 rfl,U 10 rfl,U 12 rfl,U 13 rfl,U 14 rfl,U 15 rfl,cz,cw,dp,trivial⟩;clear U H;replace Br:=Chg.keep az (fun h=>h.elim (fun h=>by have:=(ap.lt _ h).1;omega) (fun h=>by have:=(an.lt _ h).1;omega)) (X0.keep Br);replace Mm:=Chg.keepM az (fun h=>h.elim (fun h=>by have:=(ap.lt _ h).1;omega) (fun h=>by have:=(an.lt _ h).1;omega)) (X0.keepM Mm);replace Bd:=Chg.keep az (fun h=>h.elim (fun h=>by have:=(ap.lt _ h).1;omega) (fun h=>by have:=(an.lt _ h).1;omega)) (X0.keep Bd);replace Bq:=Chg.keep az (fun h=>h.elim (fun h=>by have:=bp _ (.inr (.inl h));omega) (fun h=>by have:=bp _ (.inl h);omega)) (X0.keep Bq);have cr:=Chg.trans (Ao.chg X0) az;replace E:=(E.ext X0).step az (fun y hy h=>h.elim (fun h=>by have:=(ap.lt y h).1;omega) (fun h=>by have:=(an.lt y h).1;omega));rw[cz] at c2 b8 b9;rw[cw] at c3 cp b9;have bc:=hO.push (y:=acc k) (N':=.slice a8 (i+1) be) (E':=.slice bj (i+1) bh) dl bg.symm qO (fun b hb=>by have:=bp b hb;omega) cr (by rw[bv];exact c2) (fun k hk=>by rw[←c1];exact b8 k hk) (by rw[b2,List.map_append];exact c3) (fun k hk=>by rw[←c1];exact cp k hk) b9;have bx:=Ax hS cr (fun b hb h=>h.elim (fun h=>(ah b hb).1 (.inr (.inl h))) (fun h=>(ah b hb).1 (.inl h)));have ao:=Nat.le_trans ak cr.size;have co:∀b,(Value.slice (some ⟨aj,0,none⟩) sn ae).ownBlock=some b→¬Ek (.slice bj (i+1) bh) (.slice a8 (i+1) be) (vs++[.slice (some ⟨bq,0,none⟩) c c]) b∧b≠bm∧b≠bd:=fun b hb=>⟨fun ho=>IY ⟨(ah b hb).1,(ah b hb).2.2.2⟩ (by have:=(hS.lt b hb).2;omega) b8 cp ho,(ah b hb).2.1,(ah b hb).2.2.1⟩;refine BB (b:=bd) (o:=2) (c':=#[(I6 0),(.slice ea i ec),(.slice a8 (i+1) be)]) (v:=(.slice a8 (i+1) be)) rfl rfl rfl CB Bd qP rfl ?_;intro w16 a3;replace bc:=bc.chg a3.chg fun b hb h=>by have:=(bc.lt hb).1;have h':b=bd:=h;omega
      replace bx:=Ax bx a3.chg fun b hb h=>(ah b hb).2.2.1 h;replace ao:=Nat.le_trans ao a3.chg.size;replace Br:=a3.keep qO Br;replace Mm:=a3.keepM qO Mm;replace Bq:=a3.keep qO Bq;replace E:=a3.step E qQ;replace Bd:=a3.blk;refine qF bd 0 1 rfl underlying52 rfl BG rfl (BB (b:=bd) (o:=1) (c':=#[(I6 0),(.slice bj (i+1) bh),(.slice a8 (i+1) be)]) (v:=(.slice bj (i+1) bh)) rfl rfl rfl BG Bd qP rfl ?_);intro w17 a0;replace bc:=bc.chg a0.chg fun b hb h=>by have:=(bc.lt hb).1;have h':b=bd:=h;omega
      replace bx:=Ax bx a0.chg fun b hb h=>(ah b hb).2.2.1 h;replace ao:=Nat.le_trans ao a0.chg.size;replace Br:=a0.keep qO Br;replace Mm:=a0.keepM qO Mm;replace Bq:=a0.keep qO Bq;replace E:=a0.step E qQ;replace Bd:=a0.blk;refine AA (AP (AB (AG (qM (I6 (i:Int)) rfl (qV (Aq (k:=.i64) (a:=(i:Int)) (b:=1) (c:=(i:Int)+1) rfl rfl (A2 qO)) (qA (I6 ((i:Int)+1)) rfl (AA (AB ?_))))))));exact ⟨most - (i+1),qO,i+1,ab++[R],ks,ac++[acc k],vs++[.slice (some ⟨bq,0,none⟩) c c],some ⟨aj,0,none⟩,bj,a8,ae,sn,bh,be,Af.out ⟨rfl,rfl,rfl,rfl,rfl,rfl,rfl,rfl,rfl,trivial⟩,E,Br,Mm,Bd,hC.rowed bg,(by simp[bv]),bb,a4,qO,(by rw[Ed am,List.map_append,bk];rfl),bx,bc,co,ao,rfl⟩
  ·have dt:i=ks.length:=qO
   have cj:ab.length=ks.length:=qO
   obtain ⟨b5,eh⟩:=hC.done (acc:=acc) cj (fun k hk=>(hac k (hC.rch k hk)).1);have aq:ac=ks.map acc:=by rw[a1,dt,List.take_length]
   refine Ak (AR (AR (Ae (AB (Y (qV (AU (vs:=[(I6 0),(.slice ea i ec),(.slice ag i af)]) rfl BC Ap rfl (Bd.cells rfl)) (Al (b:=br) (o:=0) (c':=#[(I6 0),(.slice ea i ec),(.slice ag i af)]) rfl rfl qS Ap rfl Br qL rfl ?_)))))));intro w18 b0;replace hO:=hO.chg b0.chg fun b hb h=>by have:=(hO.lt hb).1;have h':b=br:=h;omega
   replace Mm:=b0.keepM qO Mm;replace Bd:=b0.keep qO Bd;replace E:=b0.step E qQ;replace Br:=b0.blk;refine qA (.bool true) rfl (AA (AS (BJ results180 (vs:=[(.int .i64 0),(.slice ea i ec),(.slice ag i af)]) (b:=br) (v':=(.bool true)) rfl BC Ap rfl (Br.cells rfl) rfl (⟨.inl ⟨(hC.all cj).mono bb,⟨0,ac,ab⟩,_,fun mx dg=>⟨?_,?_,rfl,?_,?_⟩,rfl,?_⟩,E⟩))))
   ·rw[aq];show OkD ab.length c _;rw[cj];exact b5
   ·show ab.length≤mx;have:=dg ks hC.nd hC.rch;omega
   ·rw[aq];exact eh
   ·intro x hx;have hx:x∈ac:=hx;rw[aq] at hx;obtain ⟨u,hu,rfl⟩:=List.mem_map.1 hx;exact (hac u (hC.rch u hu)).2
   ·have bu:ac.length=i:=by rw[aq,List.length_map];omega
    exact ⟨ea,ec,ag,af,vs,by show Value.agg #[_,_,_]=.agg #[_,.slice ea ac.length ec,.slice ag ab.length af];rw[bu,bv],by show OutSt _ _ (.slice ea ac.length ec) (.slice ag ab.length af) vs ac ab;rw[bu,bv];exact hO.low cd.2⟩
end Go.Proofs
namespace Go.Eng
open Go
section
variable {Ms : Nat → Nat → Prop} {Rs : Nat → World → World → Prop} {cl : List (List Nat)} {i : Nat} {ws ds : List Nat}
theorem CS.eq {u:Value}:CS Ms Rs cl i ws (λ_ _ v _=>v=u):=λ_ _ _ _ _ _ _ _ _ _ _ _ _ h=>h
theorem CS.chg {F:El} {U:Nat->Prop} (c:∀v w w',Chg U w w'->F v w->F v w') (b:∀p y,p≠i->ws.contains p=false->Ms p y->U y):CS Ms Rs cl i ws (λ_ _=>F):=
 λp e a _ _ v w w' _ _ _ x _ h=>c v w w' (x.mono λy _ d=>b p y e a d) h
theorem CS.till {F:El} {U:Nat->Prop} {c:Nat} (k:∀v w w',Chg U w w'->F v w->F v w') (j:∀p y,p≠i->ws.contains p=false->p≠c->(cl.getD p []).contains c=false->Ms p y->U y):CS Ms Rs cl i ws (λS _ v w=>S c=false->F v w):=
 λp m f S _ v w w' _ _ g x _ h a=>by
  have b:p≠c:=λe=>by subst e;rw[FN] at a;cases a
  rw[Hf (Ne.symm b)] at a;have d:(cl.getD p []).contains c=false:=by cases e:(cl.getD p []).contains c;rfl;have:=g c e;rw[this] at a;cases a
  exact k v w w' (x.mono λy _ l=>j p y m f b d l) (h a)
end
def VX:List (Nat×(World->World->Prop))->Nat->World->World->Prop
  | [],_,_,_=>True
  | p::r,j,w,w'=>(j=p.1->p.2 w w')∧VX r j w w'
def Tz (T:TypeId) (w w':World):Prop:=∀b c t,Az w b c t->t≠T->Az w' b c t
theorem WI {T:TypeId} {w w':World} {g:Nat} {c:Array Value} (a:Az w g c T) (C:Chg (λy=>y=g) w w'):Tz T w w':=λb c' t hb e=>
 Chg.keep C (λh=>by
  have d:b=g:=h;subst d;unfold Az at hb a;rw[a] at hb;simp at hb;exact e hb.2.symm) hb
section
variable {M : Nat → Prop} {ch : List PanicEntry} {X : World → Prop} {P : Program} {N : Nat} {o : Oper} {R : El} {σ : CN} {w : World} {c i : Nat} {T : World → World → Prop}
theorem V' (h:Cs M P N o R σ w):HU M ch X P N o (λv a=>R v a∧VX [] i w a) σ w:=(Cs.x h).weak λ_ _ _ h=>⟨h,trivial⟩
theorem Xj (h:HU M ch X P N o R σ w):HU M ch X P N o (λv a=>R v a∧VX [] i w a) σ w:=h.weak λ_ _ _ h=>⟨h,trivial⟩
theorem L7 (hi:Nat.beq i c=false) (h:Cs M P N o R σ w):HU M ch X P N o (λv a=>R v a∧VX [(c,T)] i w a) σ w:=(Cs.x h).weak λ_ _ _ h=>⟨h,⟨λe=>absurd (show i=c from e) (λb=>by subst b;rw[Nat.beq_refl] at hi;cases hi),trivial⟩⟩
theorem Xy (h:Cs M P N o (λv a=>R v a∧T w a) σ w):HU M ch X P N o (λv a=>R v a∧VX [(c,T)] c w a) σ w:=(Cs.x h).weak λ_ _ _ h=>⟨h.1,⟨λ_=>h.2,trivial⟩⟩
end
theorem CS.till1 {cl:List (List Nat)} {Ms:Nat->Nat->Prop} {i c b:Nat} {ws:List Nat} {F:El} {U:Nat->Prop} {T:World->World->Prop} (l:∀v w w',T w w'->F v w->F v w') (n:∀v w w',Chg U w w'->F v w->F v w') (m:∀p y,p≠i->p≠c->ws.contains p=false->p≠b->(cl.getD p []).contains b=false->Ms p y->U y):CS Ms (VX [(c,T)]) cl i ws (λS _ v w=>S b=false->F v w):=
 λp q j S _ v w w' _ _ k x r h a=>by
  have d:p≠b:=λe=>by subst e;rw[FN] at a;cases a
  rw[Hf (Ne.symm d)] at a;have f:(cl.getD p []).contains b=false:=by cases e:(cl.getD p []).contains b;rfl;have:=k b e;rw[this] at a;cases a
  by_cases g:p=c
  .exact l v w w' (r.1 g) (h a)
  .exact n v w w' (x.mono λy _ o=>m p y q g j d f o) (h a)
section
variable {Ms : Nat → Nat → Prop} {Rs : Nat → World → World → Prop} {cl : List (List Nat)} {i : Nat} {ws : List Nat}
theorem CS.tup {c:Nat} {rest:List Value} {G:El} {U:Nat->Prop} (f:∀v w w',Chg U w w'->G v w->G v w') (g:∀p y,p≠i->ws.contains p=false->p≠c->Ms p y->U y):CS Ms Rs cl i ws (G_ c rest G):=
 λp m d S _ v w w' _ _ _ x _ h=>by
  obtain ⟨u,k,j⟩:=h;refine ⟨u,k,λb=>?_⟩;have a:p≠c:=λe=>by subst e;rw[FN] at b;cases b
  rw[Hf (Ne.symm a)] at b;exact f u w w' (x.mono λy _ l=>g p y m d a l) (j b)
theorem CS.put {k n:Nat} {T:TypeId} {G:El} (d:∀v w w',Ao w w'->G v w->G v w') (e:∀p y,p≠i->ws.contains p=false->Ms p y->False):CS Ms Rs cl i ws (Jn k n T G):=
 λp o c _ _ v w w' _ _ _ x _ h=>by
  obtain ⟨b,vs,j,g,f,l⟩:=h;have a:Ao w w':=x.mono λy _ m=>(e p y o c m).elim;exact ⟨b,vs,j,g,Ao.keep a f,d _ _ _ a l⟩
end
theorem WT {t T:TypeId} {cs:Array Value} {n:Nat} (a:t≠T):∀v w w',Tz T w w'->M7 t cs n v w->M7 t cs n v w':=by
 rintro v w w' h ⟨b,e,B,g⟩;exact ⟨b,e,h b cs t B a,g⟩
end Go.Eng
namespace Go.Proofs
open Go Go.Eng Go.Sort
set_option maxRecDepth 100000
theorem Ph (a:World) (n b:Nat) (s:Int) (M:Nat->Bool) (c:n<=100000) (d:Az a b (GW n M) 5) (hs:0<=s∧s<n):CJ prog 179 #[.slice (some ⟨b,0,none⟩) ((n+7) / 8) ((n+7) / 8),.int .i64 s] a λv w=>v=.tuple #[]∧Chg (λy=>y=b) a w∧Az w b (GW n λq=>M q || decide (((q:Nat):Int)=s)) 5:=by
 obtain ⟨t,rfl⟩:=Int.eq_ofNat_of_zero_le hs.1;have e:(λq=>M q || decide (((q:Nat):Int)=((t:Nat):Int)))=λq=>M q || decide (q=t):=funext λq=>by
  congr 1;exact decide_eq_decide.2 qO
 rw[e];exact Tq a n b t M c d qO
theorem Uq {a b:Dfa} {s:Int} {M:Nat->Bool} (h:0<=EX a s):(λq=>M q || decide (((q:Nat):Int)=b.start))=Fi a b s M:=funext λq=>by
 unfold Fi;rw[decide_eq_true h,Bool.true_and]
theorem WE {a b:Dfa} {s:Int} {M:Nat->Bool} (h:¬0<=EX a s):M=Fi a b s M:=funext λq=>by
 unfold Fi;rw[decide_eq_false h,Bool.false_and,Bool.or_false]
theorem Tc (w0:World) (n m c:Nat) (a b:Dfa) (av bv:List Value) (ba bb g:Nat) (s:Int) (M:Nat→Bool) (oka:OkD n c a) (okb:OkD m c b) (ha:B' w0 a av) (hb:B' w0 b bv) (hBa:Az w0 ba av.toArray 52) (hBb:Az w0 bb bv.toArray 52) (hG:Az w0 g (GW m M) 5) (hs:s<n) (hm:m≤20000) (hg:g≠ba∧g≠bb) :
  CJ prog 178 #[.int .i64 s,.slice (some ⟨g,0,none⟩) ((m+7) / 8) ((m+7) / 8),.pointer (some ⟨ba,0,none⟩),.pointer (some ⟨bb,0,none⟩)] w0 fun v w=>v=.agg #[.int .i64 s,.string (Cn m (Fi a b s M))]∧Chg (fun y=>y=g) w0 w:=by
 have hal:=oka.al;have hst:=okb.st;have hgl:=hG.lt;have ae:=hBa.lt;have ah:=hBb.lt;have af:=ha;obtain ⟨aa,ac,na,nc,rfl,_,_⟩:=af;have ag:=hb;obtain ⟨aa2,ac2,na2,nc2,rfl,_,_⟩:=ag;refine F9 func178 rfl ntmps178 (Jo rfl) ?_;have E:Chg (fun y=>y=g) w0 w0:=Chg.refl _ _;refine Y (BO (c:=#[(I6 0),(.string ByteArray.empty)]) qD I2 rfl ?_);intro bo wo No;have Fo:=No.ge E;have Oo_ba:=No.lt hBa;have Oo_bb:=No.lt hBb;have Oo_g:=No.lt hG;replace hBa:=No.keep hBa;replace hBb:=No.keep hBb;replace hG:=No.keep hG;replace E:=E.ext No.ext;have Bo:=No.blk;refine AA (AE (Y (qV (AU (vs:=[(I6 a.start),(.slice aa a.accept.length ac),(.slice na a.next.length nc)]) rfl BC Ap rfl (hBa.cells rfl)) (qM _ rfl (qE rfl (AT func107 kQ kQ rfl) (Mx _ a _ s (ha.ext No.ext) qO) ?_)))));rintro _ w9 ⟨rfl,X9⟩;replace hBa:=X9.keep hBa;replace hBb:=X9.keep hBb;replace hG:=X9.keep hG;replace Bo:=X9.keep Bo;replace E:=E.ext X9;refine qV (C3 rfl rfl) (AA (qC rfl (fun h0=>?_) (fun h0=>?_)))
 ·refine AG (qM _ rfl (qF bb 0 0 rfl underlying52 rfl Ab rfl (qV (AD rfl Aa (hBb.cell rfl)) (qE rfl (AT func179 kQ kQ rfl) (Ph _ m g b.start M qO hG qO) ?_))));rintro _ w19 ⟨rfl,ad,ab⟩;replace hBa:=ad.keep qO hBa;replace hBb:=ad.keep qO hBb;replace Bo:=ad.keep qO Bo;replace E:=E.step ad (by intro x hx hm;omega);rw[Uq h0] at ab;refine AA (AB (Y (qM _ rfl (qM _ rfl (qV (DS (l:=GN m (Fi a b s M)) underlying162 underlying5 underlying202 rfl ab (ET m _)) (qV (BU (ps:=[(0,(I6 s)),(1,(.string (Cn m (Fi a b s M))))]) (v:=(.agg #[(I6 s),(.string (Cn m (Fi a b s M)))])) rfl qK) (Al (b:=bo) (o:=0) (c':=#[(I6 s),(.string (Cn m (Fi a b s M)))]) rfl rfl qS DQ rfl Bo qL rfl ?_)))))));intro w2 S2;replace hBa:=S2.keep qO hBa;replace hBb:=S2.keep qO hBb;replace E:=S2.step E qQ;replace Bo:=S2.blk;refine AA (AS (Cp results178 (vs:=[(.int .i64 s),(.string (Cn m (Fi a b s M)))]) (b:=bo) rfl GP DQ rfl (Bo.cells rfl) ?_));exact ⟨rfl,E⟩
 ·have ab:=hG;rw[WE (a:=a) (b:=b) (M:=M) h0] at ab;refine AK (AB (Y (qM _ rfl (qM _ rfl (qV (DS (l:=GN m (Fi a b s M)) underlying162 underlying5 underlying202 rfl ab (ET m _)) (qV (BU (ps:=[(0,(I6 s)),(1,(.string (Cn m (Fi a b s M))))]) (v:=(.agg #[(I6 s),(.string (Cn m (Fi a b s M)))])) rfl qK) (Al (b:=bo) (o:=0) (c':=#[(I6 s),(.string (Cn m (Fi a b s M)))]) rfl rfl qS DQ rfl Bo qL rfl ?_)))))));intro w3 S3;replace hBa:=S3.keep qO hBa;replace hBb:=S3.keep qO hBb;replace hG:=S3.keep qO hG;replace E:=S3.step E qQ;replace Bo:=S3.blk;refine AA (AS (Cp results178 (vs:=[(.int .i64 s),(.string (Cn m (Fi a b s M)))]) (b:=bo) rfl GP DQ rfl (Bo.cells rfl) ?_));exact ⟨rfl,E⟩
theorem Rn (a b:Dfa) (m:Nat) (p:Int×ByteArray) (x:Nat):(Ee a b m p x).isSome=(decide (0<=BN a p.1 x) || D0 b m p.2 x)∧∀q,Ee a b m p x=some q->(BN a p.1 x,Cn m (Fi a b (BN a p.1 x) (GB b m p.2 x)))=q:=by
 unfold Ee;by_cases h:0<=BN a p.1 x∨D0 b m p.2 x=true
 .rw[if_pos h];refine ⟨?_,λq e=>Option.some.inj e⟩;rcases h with h|h
  .simp[h]
  .simp[h]
 .rw[if_neg h];refine ⟨?_,λq e=>by cases e⟩;have d:¬0<=BN a p.1 x:=λf=>h (.inl f);have c:D0 b m p.2 x=false:=by cases e:D0 b m p.2 x;rfl;exact absurd (.inr e) h
  rw[decide_eq_false d,c];rfl
theorem WM (w0:World) (n m c:Nat) (a b:Dfa) (av bv:List Value) (ba bb be x:Nat) (p:Int×ByteArray) (oka:OkD n c a) (okb:OkD m c b) (ha:B' w0 a av) (hb:B' w0 b bv) (hBa:Az w0 ba av.toArray 52) (hBb:Az w0 bb bv.toArray 52) (hBe:Az w0 be #[.func (.func 178) #[] #[.pointer (some ⟨ba,0,none⟩),.pointer (some ⟨bb,0,none⟩)]] 206) (hm:m≤20000) (hp:p.1<n) (hk:p.2.size=(m+7) / 8) (hx:x<c) (hc:c≤16) :
  CJ prog 182 #[.agg #[.int .i64 p.1,.string p.2],.int .i64 ((x:Nat):Int),.pointer (some ⟨ba,0,none⟩),.pointer (some ⟨bb,0,none⟩),.pointer (some ⟨be,0,none⟩)] w0 fun v w=>(∃q:Int×ByteArray,v=.tuple #[.agg #[.int .i64 q.1,.string q.2],.bool (Ee a b m p x).isSome]∧∀r,Ee a b m p x=some r→q=r)∧Ao w0 w:=by
 have ap:=ha;obtain ⟨aa,ac,na,nc,rfl,_,_⟩:=ap;have ak:=hb;obtain ⟨ai,al,aj,am,rfl,_,_⟩:=ak;have an:=hBa.lt;have ao:=hBb.lt;obtain ⟨h1,h2⟩:=Rn a b m p x;obtain ⟨s,hs⟩:∃s,s=BN a p.1 x:=⟨_,rfl⟩;rw[←hs] at h1 h2;have ah:s<n:=by rw[hs];exact oka.to.2
 refine qR func182 rfl ntmps182 rfl (fun E=>(Y (BM (v:=(.agg #[(I6 p.1),(.string p.2)])) (c:=#[(I6 p.1),(.string p.2)]) qD rfl rfl ?_)));intro bq wq Nq;have Fq:=Nq.ge E;have Oq_ba:=Nq.lt hBa;have Oq_bb:=Nq.lt hBb;have Oq_be:=Nq.lt hBe;replace hBa:=Nq.keep hBa;replace hBb:=Nq.keep hBb;replace hBe:=Nq.keep hBe;replace E:=E.ext Nq.ext;have Bq:=Nq.blk;refine BO (c:=#[(I6 0),(.string ByteArray.empty)]) qD I2 rfl ?_;intro br wr Nr;have Fr:=Nr.ge E;have Or_ba:=Nr.lt hBa;have Or_bb:=Nr.lt hBb;have Or_be:=Nr.lt hBe;have Or_bq:=Nr.lt Bq;replace hBa:=Nr.keep hBa;replace hBb:=Nr.keep hBb;replace hBe:=Nr.keep hBe;replace Bq:=Nr.keep Bq;replace E:=E.ext Nr.ext;have Br:=Nr.blk;refine qA _ rfl (AA (Y (qV (AU (vs:=[(I6 a.start),(.slice aa a.accept.length ac),(.slice na a.next.length nc)]) rfl BC Ap rfl (hBa.cells rfl)) (qF bq 0 0 rfl underlying204 rfl Ab rfl (qV (AD rfl Aa (Bq.cell rfl)) (qM _ rfl (qE rfl (AT func106 kQ kQ rfl) ((Mw _ n c a _ p.1 (x:Int) oka (ha.ext E) hp qO).mono (R':=fun v w=>v=.int .i64 s∧Ao _ w) (fun v w h=>⟨by rw[hs];exact h.1,h.2⟩)) ?_)))))));rintro _ w9 ⟨rfl,X9⟩;replace hBa:=X9.keep hBa;replace hBb:=X9.keep hBb;replace hBe:=X9.keep hBe;replace Bq:=X9.keep Bq;replace Br:=X9.keep Br;replace E:=E.ext X9;have hw9:=E.size;refine qA _ rfl (AA (Y (qV (AU (vs:=[(I6 b.start),(.slice ai b.accept.length al),(.slice aj b.next.length am)]) rfl BC Ap rfl (hBb.cells rfl)) (qF bq 0 1 rfl underlying204 rfl Rw rfl (qV (AD rfl QJ (Bq.cell rfl)) (qM _ rfl (qE rfl (AT func183 kQ kQ rfl) (MU _ m c x b _ p.2 okb (hb.ext E) hm hk hx hc) ?_)))))));rintro _ w19 ⟨⟨g,rfl,hG,hg0⟩,ab⟩;replace hBa:=ab.keep hBa;replace hBb:=ab.keep hBb;replace hBe:=ab.keep hBe;replace Bq:=ab.keep Bq;replace Br:=ab.keep Br;replace E:=E.ext ab;have hqr:bq<w9.heap.size∧br<w9.heap.size:=⟨by have:=Nq.eq;have:=Nq.size;have:=Nr.ext.size;have:=X9.size;omega,by have:=Nr.eq;have:=Nr.size;have:=X9.size;omega⟩;refine qM _ rfl (qV (Ai rfl rfl) (qV (Ai rfl rfl) (qA _ rfl (qA _ rfl (AA (Y (qV (AD rfl QI (hBe.cell rfl)) (qM _ rfl (qM _ rfl (qE rfl (D_ rfl func178 kQ kQ rfl rfl) (Tc _ n m c a b _ _ ba bb g s (GB b m p.2 x) oka okb (ha.ext E) (hb.ext E) hBa hBb hG ah hm ⟨qO,qO⟩) ?_))))))))));rintro _ w29 ⟨rfl,ad⟩;replace hBa:=ad.keep qO hBa;replace hBb:=ad.keep qO hBb;replace hBe:=ad.keep qO hBe;replace Bq:=ad.keep qO Bq;replace Br:=ad.keep qO Br;replace E:=E.step ad (by intro x hx hm;omega);refine qM _ rfl ?_;obtain ⟨e1,ae⟩:∃e,(decide ((0:Int)≤s))=e:=⟨_,rfl⟩;refine qV ((C3 rfl rfl).trans (by rw[ae];try rfl)) (qM _ rfl ?_);obtain ⟨e2,ag⟩:∃e,(D0 b m p.2 x)=e:=⟨_,rfl⟩;refine qG (.bool e1) (nU e1 (.bool e2)) (by cases e1<;>first|exact gA|exact gB|exact .inl ⟨rfl,Ah (Aw ag)⟩) ?_;obtain ⟨e3,af⟩:∃e,(e1 || e2)=e:=⟨_,rfl⟩;refine qV (Ac (v:=.bool e3) rfl (by rw[←af];cases e1<;>rfl)) (Al (b:=br) (o:=0) (c':=#[(I6 s),(.string (Cn m (Fi a b s (GB b m p.2 x))))]) rfl rfl qS DQ rfl Br qL rfl ?_);intro w4 S4;replace hBa:=S4.keep qO hBa;replace hBb:=S4.keep qO hBb;replace hBe:=S4.keep qO hBe;replace Bq:=S4.keep qO Bq;replace E:=S4.step E qQ;replace Br:=S4.blk;refine qA _ rfl (AA ?_);subst af;subst ag;subst ae;refine AS (BJ results182 (vs:=[(.int .i64 s),(.string (Cn m (Fi a b s (GB b m p.2 x))))]) (b:=br) (v':=(.bool ((decide ((0:Int)≤s)) || (D0 b m p.2 x)))) rfl GP DQ rfl (Br.cells rfl) rfl ?_);exact ⟨⟨(s,Cn m (Fi a b s (GB b m p.2 x))),by rw[h1],h2⟩,E⟩
theorem WL (e:World) (m c:Nat) (b:Dfa) (q:List Value) (r:Nat) (p:Int×ByteArray) (n:OkD m c b) (hb:B' e b q) (a:Az e r q.toArray 52) (u:m<=20000) (t:p.2.size=(m+7) / 8) :
 CJ prog 184 #[.agg #[.int .i64 p.1,.string p.2],.pointer (some ⟨r,0,none⟩)] e λv w=>v=.int .i64 (G' b m p)∧Ao e w:=by
 have o:=hb;obtain ⟨h,f,i,j,rfl,_,_⟩:=o;refine qR func184 O ntmps184 O (λE=>(Y (BM (v:=(.agg #[(I6 p.1),(.string p.2)])) (c:=#[(I6 p.1),(.string p.2)]) qD O O ?_)));intro s wq g;replace a:=g.keep a;replace E:=E.ext g.ext;have k:=g.blk;refine qA _ O (AA (Y (qV (AU (vs:=[(I6 b.start),(.slice h b.accept.length f),(.slice i b.next.length j)]) O BC Ap O (a.cells O)) (qF s 0 1 O underlying204 O Rw O (qV (AD O QJ (k.cell O)) (qE O (AT func185 kQ kQ O) (JU _ m c b _ p.2 n (hb.ext E) u t) ?_))))));rintro _ w9 ⟨rfl,l⟩;refine qE O (AT func161 kQ kQ O) (HJ (HS b m p.2) _) ?_;rintro _ w19 ⟨rfl,d⟩;replace a:=d.keep (l.keep a);replace k:=d.keep (l.keep k);replace E:=(E.ext l).ext d;refine qA _ O (AA (AS (AV results184 (v:=(.int .i64 (if HS b m p.2=true then 0 else -1))) O ?_)));exact ⟨O,E⟩
end Go.Proofs
