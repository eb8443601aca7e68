/- Contracts and plain lemmas, part 2. -/
import Derived.Test.YtdbomjjhpidajaaGreatDoorZb1
open Go.Proofs.Tryz
set_option maxHeartbeats 16000000
namespace Go.Proofs
open Go Go.Eng Go.Sort
set_option maxRecDepth 100000
abbrev TDI:Nat:=3
abbrev zDf:Nat:=22
def zKY (l:List Int):Nat×List Value:=(l.length,l.map (Value.int .i64))
theorem zTj (n:Nat):(List.replicate n ([]:List Int)).map zKY=List.replicate n (0,[]):=by simp[zKY]
theorem zJj (l:List Int):(l.map zND).flatten=l.map (Value.int .i64):=by
  induction l with
  | nil=>rfl
  | cons x l ih=>simp[zND];simpa[zND] using ih
theorem zEe {w:World} {base n:Nat} {v:Value} {l:List Int} (h:w.ownsRow base TDI 1 v n (l.map (Value.int .i64))) (hn:n=l.length):zBa w v l:=by
 rw[←zJj] at h;exact zCz h (by intro x hx;simp only[List.mem_map] at hx;obtain ⟨p,_,rfl⟩:=hx;rfl) (by simp[hn]) qD
theorem zKF {n c:Nat} {d:Dfa} (ok:OkD n c d) {s k:Nat} {row:List Int} {x:Int} (hr:d.next[s]?=some row) (hx:row[k]?=some x):toD d ((s:Nat):Int) k=x∧k<c∧s<n∧-1≤x∧x<n:=by
 have h1:=ok.row row (List.mem_of_getElem? hr);exact ⟨zEq hr hx,by rw[←h1.1];exact zAE hx,by rw[←ok.nl];exact zAE hr,(h1.2 x (List.mem_of_getElem? hx)).1,(h1.2 x (List.mem_of_getElem? hx)).2⟩
theorem zRu (n:Nat) (into:List (List Int)):zIy into (List.replicate n false) []:=fun t h=>by
 have:=(List.mem_replicate.1 (List.mem_of_getElem? h)).2;cases this
theorem zMN {M:List Bool} {k:Nat} (b:Bool):((M.map Value.bool).toArray).setIfInBounds (0+k) (.bool b)=((M.set k b).map Value.bool).toArray:=by
 apply Array.ext';rw[Array.toList_setIfInBounds,Nat.zero_add,←List.map_set]
theorem zYw {α:Type} {l:List α} (h:0<l.length):∃o c,l=o++[c]:=⟨l.dropLast,l.getLast (List.ne_nil_of_length_pos h),(List.dropLast_concat_getLast _).symm⟩
theorem zYD (w0:World) (n c:Nat) (d:Dfa) (dv:List Value) (ok:OkD n c d) (h:zBV w0 d dv) (hn:n≤20000∧c≤16) :
  Ret prog 106 #[.agg dv.toArray] w0 fun r w=>(∃M b,LiveOf n c d M∧r=.slice (some ⟨b,0,none⟩) n n∧w0.heap.size≤b∧Blk w b (M.map Value.bool).toArray 4)∧Ext w0 w:=by
 obtain ⟨aa,ac,na,nc,rfl,a5,a6⟩:=h;have b9:=ok.nl;have cd:=ok.al;have hnc:n*c≤320000:=by have:=Nat.mul_le_mul hn.1 hn.2;omega
 rw[cd] at a5;rw[b9] at a6;rw[cd,b9];refine qR func106 rfl ntmps106 rfl (fun E=>(zAA (zBY (v:=(.agg #[(I6 d.start),(.slice aa n ac),(.slice na n nc)])) (c:=#[(I6 d.start),(.slice aa n ac),(.slice na n nc)]) qD rfl rfl ?_)));intro bd wd Nd;replace E:=E.ext Nd.ext;have Bd:=Nd.blk;refine qA _ rfl (zAB (zAA (qF bd 0 2 rfl underlying34 rfl zBr rfl (qV (zAG rfl zBh (Bd.cell rfl)) (qV (zAK underlying32 rfl) (zEQ (n:=n) (z:=(.slice none 0 0)) (bytes:=24) qD underlying32 zBE zNN zEj rfl rfl rfl qO qO ?_))))));intro bi wi Ni;replace Bd:=Ni.keep Bd;replace E:=E.ext Ni.ext;have Bi:=Ni.blk;refine qA _ rfl (zAB (zAH (zAA (qF bd 0 2 rfl underlying34 rfl zBr rfl (qV (zAG rfl zBh (Bd.cell rfl)) (qV (zAK underlying32 rfl) (qM _ rfl (zAB (zAT ?_)))))))));obtain ⟨n1,c8⟩:∃n1,n1=wd.heap.size:=⟨_,rfl⟩;have hw1:w0.heap.size≤n1:=by have:=Nd.ext.size;omega
 have a7:n1≤bi:=by have:=Ni.eq;omega
 have c5:bd<n1:=by have:=Nd.eq;have:=Nd.size;omega
 have a1:=GSt.made (To:=zDf) (e:=TDI) (sz:=1) (base:=n1) (n:=n) Bi a7 qO a7;have ch:n1≤wi.heap.size:=by have:=Ni.ext.size;omega
 refine zAo (fun nn_ σ W1=>∃(s:Nat) (ae:List (List Int)) (vs:List Value),(∃jj_,σ=zCT jj_ [(1,(P6 bd 0)),(3,(.slice (some ⟨bi,0,none⟩) n n)),(20,(.slice na n nc)),(21,(I6 (n:Int))),(22,(I6 (s:Int)))])∧Chg zAe w0 W1∧Blk W1 bd #[(I6 d.start),(.slice aa n ac),(.slice na n nc)] 34∧(s≤n)∧(IntoP n c d ae s 0)∧(GSt zDf TDI 1 W1 n1 (.slice (some ⟨bi,0,none⟩) n n) vs (ae.map zKY))∧(n1≤W1.heap.size)∧nn_=n - s) (n:=n - 0) ?_ ?_
 ·exact ⟨0,List.replicate n [],List.replicate n (.slice none 0 0),zAs.out ⟨rfl,rfl,rfl,rfl,rfl,trivial⟩,E,Bd,Nat.zero_le _,IntoP.start n c d,(by rw[zTj];exact a1),ch,rfl⟩
 ·clear E Bd;rintro _ _ W1 ⟨s,ae,vs,⟨j1,rfl⟩,E,Bd,hs,hI,hG,am,rfl⟩;refine zAA (qV (zBA rfl rfl) (zAB (zAH (qC rfl (fun cu=>?_) (fun cu=>?_)))))
  ·obtain ⟨row,av⟩:=zAJ (l:=d.next) (i:=s) qO;have hrl:=(ok.row row (List.mem_of_getElem? av)).1;obtain ⟨b,o,rfl,c2⟩:=zBi (n:=n) a6 qO;obtain ⟨ra,rc,a4,cy⟩:=c2 s row av;refine zAO (zAC (zAH (zAT (zAA (qM _ rfl (qV (zAD (b:=b) (o:=o) (len:=n) (cap:=nc) (i:=s) (o':=o+s) rfl rfl rfl underlying32 zBE qO qO) (qV (zAG rfl zBI (E.cell (fun f=>f) a4)) (qA _ rfl (qA _ rfl (zAB (zAA (qM _ rfl (qV (zAK underlying22 rfl) (qM _ rfl (zAB (zAT (zAo (fun nn_ σ W3=>∃(k:Nat) (ae:List (List Int)) (vs:List Value),(∃jj_,σ=zCT jj_ [(1,(P6 bd 0)),(3,(.slice (some ⟨bi,0,none⟩) n n)),(4,(I6 (s:Int))),(20,(.slice (some ⟨b,o,none⟩) n nc)),(21,(I6 (n:Int))),(22,(I6 (s:Int))),(27,(.slice ra row.length rc)),(28,(I6 (row.length:Int))),(29,(I6 (k:Int)))])∧Chg zAe w0 W3∧Blk W3 bd #[(I6 d.start),(.slice aa n ac),(.slice (some ⟨b,o,none⟩) n nc)] 34∧(k≤c)∧(IntoP n c d ae s k)∧(GSt zDf TDI 1 W3 n1 (.slice (some ⟨bi,0,none⟩) n n) vs (ae.map zKY))∧(n1≤W3.heap.size)∧nn_=c - k) (n:=c - 0) ?_ ?_)))))))))))))))))
   ·exact ⟨0,ae,vs,zAs.out ⟨rfl,rfl,rfl,rfl,rfl,rfl,rfl,rfl,rfl,trivial⟩,E,Bd,Nat.zero_le _,hI,hG,am,rfl⟩
   ·clear E Bd;rintro _ _ W3 ⟨k,ae,vs,⟨j3,rfl⟩,E,Bd,hk,hI,hG,am,rfl⟩;refine zAA (qV (zBA rfl rfl) (zAB (zAH (qC rfl (fun bq=>?_) (fun bq=>?_)))))
    ·obtain ⟨x,hx⟩:=zAJ (l:=row) (i:=k) qO;obtain ⟨rb,ro,rfl,cv⟩:=zAy cy qO;obtain ⟨bg,bm,_,hxl,cl⟩:=zKF ok av hx;refine zAO (zAC (zAH (zAT (zAA (qV (zAD (b:=rb) (o:=ro) (len:=row.length) (cap:=rc) (i:=k) (o':=ro+k) rfl rfl rfl underlying22 zAv qO qO) (qV (zAG rfl zAm (E.cell (fun f=>f) (cv k x hx))) (qA _ rfl (zAB (zAA (qM _ rfl (qV (zDF rfl rfl) (zAB (qC rfl (fun bb=>?_) (fun bb=>?_))))))))))))))
     ·obtain ⟨t,co⟩:=Int.eq_ofNat_of_zero_le bb;rw[co] at bg cl;obtain ⟨lt,aq⟩:=zAJ (l:=ae) (i:=t) (by have:=hI.len;omega);have hin:=hI.sht lt (List.mem_of_getElem? aq);have hsc:s*c≤n*c:=Nat.mul_le_mul_right c qO;have ai:(ae.map zKY).length=n:=by rw[List.length_map];exact hI.len
      obtain ⟨v1,ar⟩:=zAJ (l:=vs) (i:=t) (by have:=hG.l.len;omega);have be:(ae.map zKY)[t]?=some (lt.length,lt.map (Value.int .i64)):=by rw[List.getElem?_map,aq];rfl
      have ag:=hG.l.inn t v1 _ ar be;obtain ⟨va,vc,rfl⟩:=zBR ag;obtain ⟨gg,ba,_,b0⟩:=zBS (hG.l.on ai.symm) qO;simp only[Option.some.injEq,Addr.mk.injEq,and_true] at ba;subst ba;have a1:=hG;refine zAF (qM _ rfl (qM _ rfl (qM _ rfl (qM _ rfl (qV (zAD (b:=bi) (o:=0) (len:=n) (cap:=n) (i:=t) (o':=0+t) rfl rfl qO underlying32 zBE qO qO) (qV (zAG rfl zBI (b0 t _ ar)) (qM _ rfl (zAc (ps:=[(0,(I6 (s:Int)))]) (c:=#[(I6 (s:Int))]) qD rfl underlying22 zAv zDJ qD qD qK ?_))))))));intro b6 w6 N6;replace Bd:=N6.keep Bd;replace a1:=a1.ext N6.ext;replace ag:=zAg ag N6.ext;replace am:=Nat.le_trans am N6.ext.size;replace E:=E.ext N6.ext;have B6:=N6.blk;refine zBt (base:=n1) (n:=lt.length) (m:=1) (xs:=(lt.map (Value.int .i64))) (news:=[(I6 (s:Int))]) (size:=1) (bytes:=8) (v:=(.slice va lt.length vc)) qD underlying22 zAv zJs zDJ rfl qD rfl ag rfl (rfl) (B6.cells rfl) qS (by unfold maxLen;omega) qO (am) ?_;intro v7 b8 ak ah b3;replace Bd:=ah.keep (fun h=>by have:=(ag.lt _ h).1;omega) Bd;replace E:=E.step ah (fun x hx h=>absurd (ag.lt x h).1 qO);obtain ⟨bj,bk,rfl⟩:=zBR ak;have b7:=a1.l;have hCv:=ah;obtain ⟨c6,b1,cj⟩:=zTL (zAn (b7.on ai.symm) ah (fun b hb hm=>b7.apo t _ _ ar hm hb));have bp:=Nat.le_trans am ah.size;have ca:True:=trivial;have b2:=b1;refine qV (zAD (b:=bi) (o:=0) (len:=n) (cap:=n) (i:=t) (o':=0+t) rfl rfl qO underlying32 zBE qO qO) (zAt (b:=bi) (o:=0+t) (c':=c6.setIfInBounds (0+t) (.slice bj (lt.length+1) bk)) (v:=(.slice bj (lt.length+1) bk)) rfl rfl rfl zBE b1 qO (rfl) ?_);intro w7 S7;replace ca:=S7;replace bp:=Nat.le_trans bp S7.chg.size;replace Bd:=S7.keep qO Bd;replace E:=S7.step E qQ;replace b1:=S7.blk;have cq:=a1.grow ai.symm ar be (m':=lt.length+1) (xs':=(lt++[((s:Nat):Int)]).map (Value.int .i64)) (by rw[List.map_append];exact ak) ah b3 b2 (by simpa using ca);refine zAB (zAS (zAC (zAF (qV (zAw rfl rfl (zBf qO)) (qM _ rfl (zAB (zAC ?_)))))));exact ⟨c - (k+1),qO,k+1,ae.set t (lt++[((s:Nat):Int)]),vs.set t (.slice bj (lt.length+1) bk),zAs.out ⟨rfl,rfl,rfl,rfl,rfl,rfl,rfl,rfl,rfl,trivial⟩,E,Bd,qO,hI.add qO bm bg aq,(by rw[List.map_set];simpa[zKY] using cq),bp,rfl⟩
     ·refine zAO (zAS (zAC (zAF (qV (zAw rfl rfl (zBf qO)) (qM _ rfl (zAB (zAC ?_)))))));exact ⟨c - (k+1),qO,k+1,ae,vs,zAs.out ⟨rfl,rfl,rfl,rfl,rfl,rfl,rfl,rfl,rfl,trivial⟩,E,Bd,qO,hI.skip (by rw[bg];omega),hG,am,rfl⟩
    ·refine zAl (zAV (zAV (zAf (zAS (zAC (zAF (qV (zAw rfl rfl (zBf qO)) (qM _ rfl (zAB (zAC ?_))))))))));exact ⟨n - (s+1),qO,s+1,ae,vs,zAs.out ⟨rfl,rfl,rfl,rfl,rfl,trivial⟩,E,Bd,qO,hI.row qO,hG,am,rfl⟩
  ·have cn:s=n:=qO
   rw[cn] at hI;obtain ⟨n2,cz⟩:∃n2,n2=(W1).heap.size:=⟨_,rfl⟩;have db:bd<n2:=by have:=Bd.lt;omega
   have c7:w0.heap.size≤n2:=by have:=E.size;omega
   have E1:Chg zAe W1 W1:=Chg.refl _ _;refine zAl (zAV (zAV (zAf (zAC (zAA (qF bd 0 2 rfl underlying34 rfl zBr rfl (qV (zAG rfl zBh (Bd.cell rfl)) (qV (zAK underlying32 rfl) (zEQ (n:=n) (z:=(.bool false)) (bytes:=1) qD underlying139 zUi byt4 zer4 rfl rfl rfl qO qO ?_)))))))));intro bl wl Nl;replace Bd:=Nl.keep Bd;replace E:=E.ext Nl.ext;have Bl:=Nl.blk;replace E1:=E1.ext Nl.ext;refine qA _ rfl (zAB (zAA (qA _ rfl (zAB (zAH (zAA (qF bd 0 1 rfl underlying34 rfl zBE rfl (qV (zAG rfl zBI (Bd.cell rfl)) (qV (zAK underlying22 rfl) (qM _ rfl (zAB (zAT ?_))))))))))));obtain ⟨n3,ct⟩:∃n3,n3=wl.heap.size:=⟨_,rfl⟩;have cw:bl<n3:=by have:=Bl.lt;omega
   have da:n2≤n3:=by have:=Nl.ext.size;omega
   have cs:n2≤bl:=by have:=Nl.eq;omega
   rw[show List.replicate n (Value.bool false)=(List.replicate n false).map Value.bool by simp] at Bl;have af:n3≤wl.heap.size:=qO
   refine zAo (fun nn_ σ W8=>∃(k:Nat) (M:List Bool) (ad:List Int) (ka:Option Addr) (kc kn:Nat),(∃jj_,σ=zCT jj_ [(3,(.slice (some ⟨bi,0,none⟩) n n)),(8,(.slice (some ⟨bl,0,none⟩) n n)),(52,(.slice aa n ac)),(53,(I6 (n:Int))),(54,(I6 (k:Int))),(9,(.slice ka kn kc))])∧Chg zAe w0 W8∧Chg zAe W1 W8∧Blk W8 bd #[(I6 d.start),(.slice aa n ac),(.slice na n nc)] 34∧Blk W8 bl ((M.map Value.bool).toArray) 4∧(k≤n)∧(LiveP n c d M ad k)∧(zIy ae M ad)∧(kn=ad.length)∧(W8.ownsRow n3 TDI 1 (.slice ka kn kc) kn (ad.map (Value.int .i64)))∧(n3≤W8.heap.size)∧(∀i,k≤i→i<n→M[i]?=some false)∧nn_=n - k) (n:=n - 0) ?_ ?_
   ·exact ⟨0,List.replicate n false,[],none,0,0,zAs.out ⟨rfl,rfl,rfl,rfl,rfl,rfl,trivial⟩,E,E1,Bd,Bl,Nat.zero_le _,LiveP.start n c d,zRu n ae,rfl,World.ownsRow_nil _ _ _ _,af,(fun i _ hi=>by simp[hi]),rfl⟩
   ·clear E E1 Bd Bl;rintro _ _ W8 ⟨k,M,ad,ka,kc,kn,⟨j8,rfl⟩,E,E1,Bd,Bl,hk,hL,hC,au,hw,af,bz,rfl⟩;refine zAA (qV (zBA rfl rfl) (zAB (zAH (qC rfl (fun br=>?_) (fun br=>?_)))))
    ·obtain ⟨x,hx⟩:=zAJ (l:=d.accept) (i:=k) qO;obtain ⟨ab,ao,rfl,ci⟩:=zAy (n:=n) a5 qO;have a8:=zDi hx;refine zAO (zAC (zAH (zAT (zAA (qM _ rfl (qV (zAD (b:=ab) (o:=ao) (len:=n) (cap:=ac) (i:=k) (o':=ao+k) rfl rfl rfl underlying22 zAv qO qO) (qV (zAG rfl zAm (E.cell (fun f=>f) (ci k x hx))) (qA _ rfl (qA _ rfl (zAB (zAA (qM _ rfl (qV (zDF rfl rfl) (zAB (qC rfl (fun a9=>?_) (fun a9=>?_))))))))))))))))
     ·have cb:=bz k (Nat.le_refl _) qO;have bt:=(hL.mark cb ⟨[],inW.nil c,by show 0≤atD d _;rw[a8];omega⟩).next (fun _=>by rw[List.getElem?_set,if_pos rfl,if_pos (zAE cb)]);have cc:=hL.cnt;have b5:=hL.len;refine zAA (qM _ rfl (qM _ rfl (qV (zAD (b:=bl) (o:=0) (len:=n) (cap:=n) (i:=k) (o':=0+k) rfl rfl rfl underlying139 zUi qO qO) (zAt (b:=bl) (o:=0+k) (c':=((M.set k true).map Value.bool).toArray) (v:=(.bool true)) rfl rfl rfl zUi Bl (by simp;omega) (zMN true) ?_))));intro w11 a0;replace hw:=zAn hw a0.chg fun b hb h=>by subst h;have:=(hw.lt _ hb).1;omega
      replace af:=Nat.le_trans af a0.chg.size;replace Bd:=a0.keep qO Bd;replace E:=a0.step E qQ;replace E1:=a0.step E1 (Or.inl qO);replace Bl:=a0.blk;refine zAB (zAF (qM _ rfl (qM _ rfl (zAc (ps:=[(0,(I6 (k:Int)))]) (c:=#[(I6 (k:Int))]) qD rfl underlying22 zAv zDJ qD qD qK ?_))));intro b12 w12 ax;replace Bd:=ax.keep Bd;replace Bl:=ax.keep Bl;replace hw:=zAg hw ax.ext;replace af:=Nat.le_trans af ax.ext.size;replace E:=E.ext ax.ext;have cg:=ax.blk;replace E1:=E1.ext ax.ext;refine zBt (base:=n3) (n:=kn) (m:=1) (xs:=(ad.map (Value.int .i64))) (news:=[(I6 (k:Int))]) (size:=1) (bytes:=8) (v:=(.slice ka kn kc)) qD underlying22 zAv zJs zDJ rfl qD rfl hw rfl (rfl) (cg.cells rfl) qS (by unfold maxLen;omega) qO (af) ?_;intro v7 b8 ak ah b3;replace Bd:=ah.keep (fun h=>by have:=(hw.lt _ h).1;omega) Bd;replace Bl:=ah.keep (fun h=>by have:=(hw.lt _ h).1;omega) Bl;replace E:=E.step ah (fun x hx h=>absurd (hw.lt x h).1 qO);replace E1:=E1.step ah (fun x hx h=>absurd (hw.lt x h).1 qO);obtain ⟨bv,bw,rfl⟩:=zBR ak;refine qA _ rfl (zAB (zAS (zAC (zAF (qV (zAw rfl rfl (zBf qO)) (qM _ rfl (zAB (zAC ?_))))))));exact ⟨n - (k+1),qO,k+1,M.set k true,ad++[((k:Nat):Int)],bv,bw,kn+1,zAs.out ⟨rfl,rfl,rfl,rfl,rfl,rfl,trivial⟩,E,E1,Bd,Bl,qO,bt,hC.mark,(by simp;omega),(by rw[List.map_append];exact ak),Nat.le_trans af ah.size,(fun i h1 h2=>by rw[List.getElem?_set,if_neg qO];exact bz i qO h2),rfl⟩
     ·refine zAO (zAS (zAC (zAF (qV (zAw rfl rfl (zBf qO)) (qM _ rfl (zAB (zAC ?_)))))));exact ⟨n - (k+1),qO,k+1,M,ad,ka,kc,kn,zAs.out ⟨rfl,rfl,rfl,rfl,rfl,rfl,trivial⟩,E,E1,Bd,Bl,qO,hL.next (fun h=>by rw[a8] at h;omega),hC,au,hw,af,(fun i h1 h2=>bz i qO h2),rfl⟩
    ·have bh:k=n:=qO
     rw[bh] at hL;refine zAl (zAV (zAV (zAf (zAC (zAH (zAT (zAo (fun nn_ σ aw=>∃(M:List Bool) (ad:List Int) (ka:Option Addr) (kc kn:Nat),(∃jj_,σ=zCT jj_ [(3,(.slice (some ⟨bi,0,none⟩) n n)),(8,(.slice (some ⟨bl,0,none⟩) n n)),(9,(.slice ka kn kc))])∧Chg zAe w0 aw∧Chg zAe W1 aw∧Blk aw bd #[(I6 d.start),(.slice aa n ac),(.slice na n nc)] 34∧Blk aw bl ((M.map Value.bool).toArray) 4∧(LiveP n c d M ad n)∧(zIy ae M ad)∧(kn=ad.length)∧(aw.ownsRow n3 TDI 1 (.slice ka kn kc) kn (ad.map (Value.int .i64)))∧(n3≤aw.heap.size)∧nn_=2*M.countP (fun b=>!b)+ad.length) (n:=2*M.countP (fun b=>!b)+ad.length) ?_ ?_)))))))
     ·exact ⟨M,ad,ka,kc,kn,zAs.out ⟨rfl,rfl,rfl,trivial⟩,E,E1,Bd,Bl,hL,hC,au,hw,af,rfl⟩
     ·clear E E1 Bd Bl;rintro _ _ aw ⟨M,ad,ka,kc,kn,⟨j13,rfl⟩,E,E1,Bd,Bl,hL,hC,au,hw,af,rfl⟩;refine zAH (zAA (qM _ rfl (qV (zAK underlying22 rfl) (qV (zEN rfl rfl) (zAB (qC rfl (fun bu=>?_) (fun bu=>?_)))))))
      ·have cc:=hL.cnt;obtain ⟨wl,x,a3⟩:=zYw (l:=ad) qO;have cm:ad.length=wl.length+1:=by rw[a3];simp
       obtain ⟨u,cp,ay⟩:=hL.wrk x (by rw[a3];simp);have b5:=hL.len;have hun:u<n:=by have:=zAE ay;omega
       obtain ⟨kg,rfl,_,bm⟩:=zBS hw qO;have hle:=zXs hw;obtain ⟨Z,hZ⟩:∃Z,Z=2*M.countP (fun b=>!b)+ad.length:=⟨_,rfl⟩;refine zAO (zAC (zAT (zAA (qM _ rfl (qM _ rfl (qV (zAK underlying22 rfl) (qV (zEX rfl rfl (zBf qO)) (qV (zAD (b:=kg) (o:=0) (len:=kn) (cap:=kc) (i:=kn - 1) (o':=0+(kn - 1)) rfl rfl qO underlying22 zAv qO qO) (qV (zAG (v:=(I6 x)) rfl zAm (bm (kn - 1) _ (by rw[au,cm,Nat.add_sub_cancel,List.getElem?_map,a3];simp))) ?_)))))))));refine qA _ rfl (zAB (zAA (qM _ rfl (qM _ rfl (qV (zAK underlying22 rfl) (qV (zEX rfl rfl (zBf qO)) ?_))))));obtain ⟨a2,cf⟩:∃a':Option Addr,(if kc=0 then (some ⟨kg,0,none⟩) else Option.map (fun q:Addr=>q.add (0*1)) (some ⟨kg,0,none⟩))=a':=⟨_,rfl⟩;refine qV (zLP (hi:=kn - 1) underlying22 zAv rfl rfl qO qO cf) (qA _ rfl (zAB (zAA (qM _ rfl (qM _ rfl ?_)))));have c1:a2=some ⟨kg,0,none⟩:=by rw[←cf,if_neg qO];simp[Addr.add_lit]
       subst c1;have ce:=zVx hw (m:=kn - 1) qO qO;rw[show (ad.map (Value.int .i64)).take ((kn - 1)*1)=wl.map (Value.int .i64) by rw[a3,List.map_append,Nat.mul_one,List.take_append_of_le_length (by simp;omega),List.take_of_length_le (by simp;omega)]] at ce;have c4:LiveP n c d M wl n:=⟨hL.len,fun y hy=>hL.wrk y (by rw[a3];exact List.mem_append_left _ hy),hL.snd,hL.acc,qO⟩;obtain ⟨lu,bc⟩:=zAJ (l:=ae) (i:=u) (by have:=hI.len;omega);have ai:(ae.map zKY).length=n:=by rw[List.length_map];exact hI.len
       obtain ⟨v1,ar⟩:=zAJ (l:=vs) (i:=u) (by have:=hG.l.len;omega);have be:(ae.map zKY)[u]?=some (lu.length,lu.map (Value.int .i64)):=by rw[List.getElem?_map,bc];rfl
       have ag:=hG.l.inn u v1 _ ar be;obtain ⟨va,vc,rfl⟩:=zBR ag;obtain ⟨gg,ba,_,b0⟩:=zBS (hG.l.on ai.symm) qO;simp only[Option.some.injEq,Addr.mk.injEq,and_true] at ba;subst ba;have c0:=(show zIy ae M (wl++[((u:Nat):Int)]) by rw[←cp,←a3];exact hC).open lu;have hil:=hI.sht lu (List.mem_of_getElem? bc);refine qV (zAD (b:=bi) (o:=0) (len:=n) (cap:=n) (i:=u) (o':=0+u) rfl rfl qO underlying32 zBE qO qO) (qV (zAG rfl zBI (E1.cell (fun f=>f) (b0 u _ ar))) (qV (zAK underlying22 rfl) (qM _ rfl (zAB (zAT (zAo (fun nn_ σ an=>∃(j:Nat) (M:List Bool) (ad:List Int) (ka:Option Addr) (kc kn:Nat),(∃jj_,σ=zCT jj_ [(3,(.slice (some ⟨bi,0,none⟩) n n)),(8,(.slice (some ⟨bl,0,none⟩) n n)),(86,(.slice va lu.length vc)),(87,(I6 (lu.length:Int))),(88,(I6 (j:Int))),(9,(.slice ka kn kc))])∧Chg zAe w0 an∧Chg zAe W1 an∧Blk an bd #[(I6 d.start),(.slice aa n ac),(.slice na n nc)] 34∧Blk an bl ((M.map Value.bool).toArray) 4∧(j≤lu.length)∧(LiveP n c d M ad n)∧(zJM ae M ad u lu j)∧(M[u]?=some true)∧(kn=ad.length)∧(an.ownsRow n3 TDI 1 (.slice ka kn kc) kn (ad.map (Value.int .i64)))∧(n3≤an.heap.size)∧(2*M.countP (fun b=>!b)+ad.length<Z)∧nn_=lu.length - j) (n:=lu.length - 0) ?_ ?_))))))
       ·exact ⟨0,M,wl,some ⟨kg,0,none⟩,kc,kn - 1,zAs.out ⟨rfl,rfl,rfl,rfl,rfl,rfl,trivial⟩,E,E1,Bd,Bl,Nat.zero_le _,c4,c0,ay,qO,ce,af,qO,rfl⟩
       ·clear E E1 Bd Bl;rintro _ _ an ⟨j,M,ad,ka,kc,kn,⟨j15,rfl⟩,E,E1,Bd,Bl,hj,hL,hQ,ay,au,hw,af,hZ,rfl⟩;refine zAA (qV (zBA rfl rfl) (zAB (zAH (qC rfl (fun bn=>?_) (fun bn=>?_)))))
        ·obtain ⟨x,hx⟩:=zAJ (l:=lu) (i:=j) qO;obtain ⟨cx,hxn,y,hy,ck⟩:=hI.snd u lu bc x (List.mem_of_getElem? hx);obtain ⟨i,bf⟩:=Int.eq_ofNat_of_zero_le cx;have b5:=hL.len;have cc:=hL.cnt;obtain ⟨q,hq⟩:=zAJ (l:=M) (i:=i) qO;have b4:=zEe (zAg ag E1) rfl;obtain ⟨ub,uo,rfl,c3⟩:=zAy b4 qO;refine zAO (zAC (zAH (zAT (zAA (qV (zAD (b:=ub) (o:=uo) (len:=lu.length) (cap:=vc) (i:=j) (o':=uo+j) rfl rfl rfl underlying22 zAv qO qO) (qV (zAG rfl zAm (c3 j x hx)) (qA _ rfl (zAB (zAA (qM _ rfl (qM _ rfl (qV (zAD (b:=bl) (o:=0) (len:=n) (cap:=n) (i:=i) (o':=0+i) rfl rfl qO underlying139 zUi qO qO) (qV (zAG (v:=(.bool q)) rfl zKa (Bl.cell (by simp[hq]))) (qV (zCa rfl) (zAB (zAx rfl (fun aj=>?_) (fun aj=>?_)))))))))))))))))
         ·have bx:=aj;replace aj:=by simpa using aj
          have bs:M[i]?=some false:=by rw[hq,aj]
          have bo:zBT c d ((i:Nat):Int):=zWQ (x:=y) (by rw[←bf,ck];exact hL.snd u ay) hy;have bt:=hL.mark bs bo;have cj:=count_set bs;refine zAA (qM _ rfl (qM _ rfl (qV (zAD (b:=bl) (o:=0) (len:=n) (cap:=n) (i:=i) (o':=0+i) rfl rfl qO underlying139 zUi qO qO) (zAt (b:=bl) (o:=0+i) (c':=((M.set i true).map Value.bool).toArray) (v:=(.bool true)) rfl rfl rfl zUi Bl (by simp;omega) (zMN true) ?_))));intro w18 az;replace hw:=zAn hw az.chg fun b hb h=>by subst h;have:=(hw.lt _ hb).1;omega
          replace af:=Nat.le_trans af az.chg.size;replace Bd:=az.keep qO Bd;replace E:=az.step E qQ;replace E1:=az.step E1 (Or.inl qO);replace Bl:=az.blk;refine zAB (zAF (qM _ rfl (qM _ rfl (zAc (ps:=[(0,(I6 x))]) (c:=#[(I6 x)]) qD rfl underlying22 zAv zDJ qD qD qK ?_))));intro b19 w19 ap;replace Bd:=ap.keep Bd;replace Bl:=ap.keep Bl;replace hw:=zAg hw ap.ext;replace af:=Nat.le_trans af ap.ext.size;replace E:=E.ext ap.ext;have c9:=ap.blk;replace E1:=E1.ext ap.ext;refine zBt (base:=n3) (n:=kn) (m:=1) (xs:=(ad.map (Value.int .i64))) (news:=[(I6 x)]) (size:=1) (bytes:=8) (v:=(.slice ka kn kc)) qD underlying22 zAv zJs zDJ rfl qD rfl hw rfl (rfl) (c9.cells rfl) qS (by unfold maxLen;omega) qO (af) ?_;intro v7 b8 ak ah b3;replace Bd:=ah.keep (fun h=>by have:=(hw.lt _ h).1;omega) Bd;replace Bl:=ah.keep (fun h=>by have:=(hw.lt _ h).1;omega) Bl;replace E:=E.step ah (fun x hx h=>absurd (hw.lt x h).1 qO);replace E1:=E1.step ah (fun x hx h=>absurd (hw.lt x h).1 qO);obtain ⟨bv,bw,rfl⟩:=zBR ak;refine qA _ rfl (zAB (zAS (zAC (zAF (qV (zAw rfl rfl (zBf qO)) (qM _ rfl (zAB (zAC ?_))))))));exact ⟨lu.length - (j+1),qO,j+1,M.set i true,ad++[((i:Nat):Int)],bv,bw,kn+1,zAs.out ⟨rfl,rfl,rfl,rfl,rfl,rfl,trivial⟩,E,E1,Bd,Bl,qO,bt,hQ.mark (by rw[hx,bf]) bs,zFY ay,(by simp;omega),(by rw[List.map_append,←bf];exact ak),Nat.le_trans af ah.size,(by simp;omega),rfl⟩
         ·have bx:=aj;replace aj:=by simpa using aj
          refine zAO (zAS (zAC (zAF (qV (zAw rfl rfl (zBf qO)) (qM _ rfl (zAB (zAC ?_)))))));exact ⟨lu.length - (j+1),qO,j+1,M,ad,ka,kc,kn,zAs.out ⟨rfl,rfl,rfl,rfl,rfl,rfl,trivial⟩,E,E1,Bd,Bl,qO,hL,hQ.seen hx (by rw[bf,Int.toNat_natCast,hq,aj]),ay,au,hw,af,hZ,rfl⟩
        ·refine zAl (zAV (zAV (zAf (zAS (zAC ?_)))));exact ⟨2*M.countP (fun b=>!b)+ad.length,qO,M,ad,ka,kc,kn,zAs.out ⟨rfl,rfl,rfl,trivial⟩,E,E1,Bd,Bl,hL,hQ.done bc qO,au,hw,af,rfl⟩
      ·have cr:ad=[]:=List.eq_nil_of_length_eq_zero qO;rw[cr] at hL hC;refine zAl (zAV (zAV (zAf (zAC (zAA (qM _ rfl (qA _ rfl (zAB (zAW (zAZ results106 (v:=(.slice (some ⟨bl,0,none⟩) n n)) rfl ?_))))))))));exact ⟨⟨M,bl,zPJ ok hI hL hC,rfl,qO,Bl⟩,E⟩
end Go.Proofs
namespace Go.Proofs
open Go Go.Eng Go.Sort
theorem Refd.cnt_mono {n c cnt cnt':Nat} {d:Dfa} {p q:List Int} (hp:Refd n c d p cnt) (hq:Refd n c d q cnt') (hf:∀s t:Nat,s<n→t<n→zBT c d s→zBT c d t→q[s]?=q[t]?→p[s]?=p[t]?):cnt≤cnt':=by
 have aa:∀j:Nat,∃i:Nat,j<cnt'→(i<cnt∧∀u:Nat,u<n→zBT c d u→q[u]?=some ((j:Nat):Int)→p[u]?=some ((i:Nat):Int)):=by
  intro j;by_cases hj:j<cnt'
  ·obtain ⟨u,hu,lu,af⟩:=hq.onto j hj;obtain ⟨i,hi,ah⟩:=hp.liv u hu lu;refine ⟨i,fun _=>⟨ah,fun v hv lv ae=>?_⟩⟩;rw[←hf u v hu hv lu lv (by rw[af,ae])];exact hi
  ·exact ⟨0,fun h=>absurd h hj⟩
 obtain ⟨f,ac⟩:=Classical.axiomOfChoice aa;have ag:=zEf (l:=List.range cnt) (m:=(List.range cnt').map f) List.nodup_range fun i hi=>by
  rw[List.mem_range] at hi;obtain ⟨u,hu,lu,ad⟩:=hp.onto i hi;obtain ⟨j,hj,ab⟩:=hq.liv u hu lu;have h1:=(ac j ab).2 u hu lu hj;rw[ad] at h1;exact List.mem_map.2 ⟨j,List.mem_range.2 ab,by simp at h1;omega⟩
 simpa using ag
def zBP (n:Int):List Int:=[n % 256,n / 256 % 256,n / 65536 % 256,n / 16777216 % 256]
def zDH (l:List Int):ByteArray:=strOfNums (l.flatMap zBP)
def okK (l:List Int):Prop:=∀x∈l,-1≤x∧x<2147483648
theorem zPY (n:Int):∀x∈zBP n,0≤x∧x<256:=by
 intro x hx;simp only[zBP,List.mem_cons,List.not_mem_nil,or_false] at hx;omega
theorem zPZ {x y:Int} (hx : -1≤x∧x<2147483648) (hy : -1≤y∧y<2147483648) (h:zBP x=zBP y):x=y:=by
 simp only[zBP,List.cons.injEq,and_true] at h;omega
theorem zLv:∀{l m:List Int},okK l→okK m→l.flatMap zBP=m.flatMap zBP→l=m
  | [],[],_,_,_=>rfl
  | [],y::m,_,_,h=>by simp[zBP] at h
  | x::l,[],_,_,h=>by simp[zBP] at h
  | x::l,y::m,hl,hm,h=>by
    rw[List.flatMap_cons,List.flatMap_cons] at h;obtain ⟨h1,h2⟩:=List.append_inj h rfl;rw[zPZ (hl x List.mem_cons_self) (hm y List.mem_cons_self) h1,zLv (fun z hz=>hl z (List.mem_cons_of_mem _ hz)) (fun z hz=>hm z (List.mem_cons_of_mem _ hz)) h2]
theorem zLu {l:List Int}:∀x∈l.flatMap zBP,0≤x∧x<256:=fun x hx=>by
 obtain ⟨y,_,h⟩:=List.mem_flatMap.1 hx;exact zPY y x h
theorem zTO {l m:List Int} (hl:∀x∈l,0≤x∧x<256) (hm:∀x∈m,0≤x∧x<256) (h:strOfNums l=strOfNums m):l=m:=by
  have h1:=congrArg (fun s=>s.data.toList) h;simp only[strOfNums_data] at h1;have h2:∀{l m:List Int},(∀x∈l,0≤x∧x<256)→(∀x∈m,0≤x∧x<256)→l.map (fun i=>UInt8.ofNat i.toNat)=m.map (fun i=>UInt8.ofNat i.toNat)→l=m:=by
    intro l
    induction l with
    | nil=>intro m _ _ h;cases m with
      | nil=>rfl
      | cons y m=>cases h
    | cons x l ih=>
      intro m h3 h4 h;cases m with
      | nil=>cases h
      | cons y m=>
        simp only[List.map_cons,List.cons.injEq] at h;have a:=h3 x List.mem_cons_self;have b:=h4 y List.mem_cons_self;have e:=congrArg UInt8.toNat h.1;simp only[UInt8.toNat_ofNat'] at e;rw[ih (fun z hz=>h3 z (List.mem_cons_of_mem _ hz)) (fun z hz=>h4 z (List.mem_cons_of_mem _ hz)) h.2];congr 1;omega
  exact h2 hl hm h1
theorem zTs {l m:List Int} (hl:okK l) (hm:okK m) (h:zDH l=zDH m):l=m:=zLv hl hm (zTO zLu zLu h)
def zDN:List (List Int)→Nat→List (ByteArray×Int)
  | [],_=>[]
  | m::ks,n=>(zDH m,((n:Nat):Int))::zDN ks (n+1)
theorem zIZ:∀(ks:List (List Int)) (n:Nat),(zDN ks n).length=ks.length
  | [],_=>rfl
  | _::ks,n=>by simp[zDN,zIZ ks]
theorem zJg:∀(ks:List (List Int)) (m:List Int) (n:Nat),zDN (ks++[m]) n=zDN ks n++[(zDH m,(((n+ks.length:Nat):Nat):Int))]
  | [],m,n=>rfl
  | x::ks,m,n=>by
    show (zDH x,_)::zDN (ks++[m]) (n+1)=(zDH x,_)::(zDN ks (n+1)++_);rw[zJg ks m (n+1),List.length_cons,show n+1+ks.length=n+(ks.length+1) by omega]
theorem zLi:∀{ks:List (List Int)} {n:Nat} {q:ByteArray×Int},q∈zDN ks n→∃(j:Nat) (m:List Int),ks[j]?=some m∧q=(zDH m,(((n+j:Nat):Nat):Int))
  | [],_,_,h=>by cases h
  | x::ks,n,q,h=>by
    rcases List.mem_cons.1 h with h|h
    · exact ⟨0,x,rfl,h⟩
    · obtain ⟨j,m,h1,h2⟩:=zLi h;exact ⟨j+1,m,h1,by rw[h2];congr 2;omega⟩
theorem zIa:∀{ks:List (List Int)} {n:Nat} {m:List Int},m∈ks→zDH m∈(zDN ks n).map (·.1)
  | x::ks,n,m,h=>by
    rcases List.mem_cons.1 h with rfl|h
    · exact List.mem_cons_self
    · exact List.mem_cons_of_mem _ (zIa (n:=n+1) h)
theorem zLj {ks:List (List Int)} {m:List Int} {v:Int} (hk:∀k∈ks,okK k) (hm:okK m) (h:zBk (zDN ks 0) (zDH m)=some v):∃j:Nat,v=((j:Nat):Int)∧ks[j]?=some m:=by
 obtain ⟨j,m',h1,h2⟩:=zLi (zDp h);simp only[Prod.mk.injEq,Nat.zero_add] at h2;obtain rfl:=zTs hm (hk m' (List.mem_of_getElem? h1)) h2.1;exact ⟨j,h2.2,h1⟩
theorem zPL {ks:List (List Int)} {m:List Int} (h:zBk (zDN ks 0) (zDH m)=none):m∉ks∧zHq (zDN ks 0) (zDH m) ((ks.length:Nat):Int)=zDN (ks++[m]) 0:=by
 refine ⟨fun hm=>?_,?_⟩
 ·have:=zEI.2 (zIa (n:=0) hm);rw[h] at this;cases this
 ·rw[zDy _ h,zJg,Nat.zero_add]
abbrev TU8:Nat:=5
theorem zXV (n:Int):IntKind.u8.wrap n=n % 256:=by
 simp only[IntKind.wrap,IntKind.bits,IntKind.signed,Bool.true_and,Bool.false_and,decide_eq_true_eq,ge_iff_le,Int.reducePow,Nat.reduceSub,Bool.false_eq_true,if_false]
theorem zKd (n:Int) {k:Int} (h:0≤k):n.fdiv k=n / k:=Int.fdiv_eq_ediv_of_nonneg n h
theorem zPr (w0:World) (base n:Nat) (v:Value) (xs:List Int) (x:Int) (hv:w0.ownsRow base TU8 1 v n (xs.map (Value.int .u8))) (hb:base≤w0.heap.size) (hn:n≤1000000) (hxn:n=xs.length) (hx : -1≤x∧x<2147483648) :
  Ret prog 108 #[v,.int .i64 x] w0 fun r w=>(∃a c,r=.slice a (n+4) c)∧w.ownsRow base TU8 1 r (n+4) ((xs++zBP x).map (Value.int .u8))∧Chg (fun y=>v.ownBlock=some y) w0 w:=by
 obtain ⟨a,c,rfl⟩:=zBR hv;refine zDE func108 rfl ntmps108 (leT rfl) ?_;have E:Chg (fun y=>(Value.slice a n c).ownBlock=some y) w0 w0:=Chg.refl _ _;refine zAA (qA _ rfl (zAB (zAA (qM _ rfl (qM _ rfl (qV (zDY (c:=x % 256) ⟨_,underlying3⟩ underlying5 rfl (zXV x)) (qM _ rfl (qV (zJE (c:=x / 256) rfl rfl qO (zKd x qD)) (qV (zDY (c:=x / 256 % 256) ⟨_,underlying3⟩ underlying5 rfl (zXV _)) (qM _ rfl (qV (zJE (c:=x / 65536) rfl rfl qO (zKd x qD)) (qV (zDY (c:=x / 65536 % 256) ⟨_,underlying3⟩ underlying5 rfl (zXV _)) (qM _ rfl (qV (zJE (c:=x / 16777216) rfl rfl qO (zKd x qD)) (qV (zDY (c:=x / 16777216 % 256) ⟨_,underlying3⟩ underlying5 rfl (zXV _)) ?_)))))))))))))));refine zAc (ps:=[(0,(.int .u8 (x % 256))),(1,(.int .u8 (x / 256 % 256))),(2,(.int .u8 (x / 65536 % 256))),(3,(.int .u8 (x / 16777216 % 256)))]) (c:=#[(.int .u8 (x % 256)),(.int .u8 (x / 256 % 256)),(.int .u8 (x / 65536 % 256)),(.int .u8 (x / 16777216 % 256))]) qD rfl underlying69 zMj zXE qD qD qK ?_;intro bt wt Nt;replace E:=E.ext Nt.ext;have Bt:=Nt.blk;have ab:=zAg hv Nt.ext;refine zBt (base:=base) (n:=n) (m:=4) (xs:=(xs.map (Value.int .u8))) (news:=[(.int .u8 (x % 256)),(.int .u8 (x / 256 % 256)),(.int .u8 (x / 65536 % 256)),(.int .u8 (x / 16777216 % 256))]) (size:=1) (bytes:=1) (v:=(.slice a n c)) qD underlying69 zMj zYX zXE rfl qD rfl ab rfl (rfl) (Bt.cells rfl) qS (by unfold maxLen;omega) qO ((by have:=Nt.ext.size;omega)) ?_;intro v7 w59 aa ac Dv7;replace E:=E.step ac (fun x hx h=>h);obtain ⟨a2,c2,rfl⟩:=zBR aa;refine qA _ rfl (zAB (zAW (zAZ results108 (v:=(.slice a2 (n+4) c2)) rfl ?_)));exact ⟨⟨a2,c2,rfl⟩,by rw[List.map_append];exact aa,E⟩
end Go.Proofs
namespace Go.Proofs
open Go Go.Eng Go.Sort
set_option maxRecDepth 100000
def zPc (base n:Nat) (xs:List Int):Fct:=fun v w=>∃a c,v=.slice a n c∧w.ownsRow base TU8 1 (.slice a n c) n (xs.map (Value.int .u8))
theorem zDr (base n:Nat) (xs:List Int):∀v w w',Ext w w'→zPc base n xs v w→zPc base n xs v w':=by
 rintro v w w' e ⟨a,c,h1,h2⟩;exact ⟨a,c,h1,zAg h2 e⟩
theorem zLB (w0:World) (base:Nat) (x:Int) (hb:base≤w0.heap.size) (hx : -1≤x∧x<2147483648) :
  Ret prog 108 #[.slice none 0 0,.int .i64 x] w0 fun r w=>zPc base 4 (zBP x) r w∧Ext w0 w:=
 (zPr w0 base 0 (.slice none 0 0) [] x (World.ownsRow_nil _ _ _ _) hb qD rfl hx).mono fun r w ⟨⟨a,c,h1⟩,h2,h3⟩=>by
  subst h1;exact ⟨⟨a,c,rfl,by simpa using h2⟩,h3.mono fun y _ h=>by cases h⟩
theorem zJc {P:Program} {σ:Env} {w:World} {ty t:TypeId} {pos:String} {af:Array Edge} {x:Operand} {dst:Option Tmp} {g:Option (Nat×Bool)} {s e base n c:Nat} {a:Option Addr} {l:List Int} (hs:P.underlying s=some (.slice e)) (he:P.underlying e=some (.int .u8)) (ht:P.underlying t=some .string) (hx:ev σ x=.slice a n c)
  (ho:w.ownsRow base TU8 1 (.slice a n c) n (l.map (Value.int .u8))) (hl:l.length=n) (hn:0<n):(execOp (ev σ) ⟨dst,.convert s t x,ty,pos,af,g⟩).run P w=.ok (.value (.string (strOfNums l))) w:=by
 obtain ⟨b,rfl,_,hc⟩:=zBS ho hn;have h:=run_convert_bytes_arg (P:=P) w s e hs he b 0 n c l hl (fun i hi=>by
  have h1:l[i]?=some l[i]:=List.getElem?_eq_getElem qO;have h2:=hc i (.int .u8 (l.getD i 0)) (by simp[List.getD,h1]);exact h2) t ht
 simp only[execOp,hx,Sem.run_bind,h,Result.andThen_ok];rfl
theorem zYH (w0:World) (bw bd n:Nat) (d:Dfa) (dv:List Value) (s:Nat) (x:Int) (hW:Blk w0 bw #[.func (.func 108) #[] #[]] 143) (hD:Blk w0 bd dv.toArray 34) (h:zBV w0 d dv) (hal:d.accept.length=n) (hs:d.accept[s]?=some x) (hx : -1≤x∧x<2147483648) :
  Ret prog 109 #[.int .i64 ((s:Nat):Int),.pointer (some ⟨bw,0,none⟩),.pointer (some ⟨bd,0,none⟩)] w0 fun r w=>r=.string (zDH [x])∧Ext w0 w:=by
 obtain ⟨aa,ac,na,nc,rfl,af,al⟩:=h;have am:=zAE hs;rw[hal] at af am;obtain ⟨ab,ao,rfl,ak⟩:=zAy (n:=n) af qO;rw[hal] at hD;obtain ⟨ae,ag⟩:∃ae,ae=w0.heap.size:=⟨_,rfl⟩;refine qR func109 rfl ntmps109 rfl (fun E=>(zAA (qA _ rfl (zAB (zAH ?_)))));obtain ⟨ai,ad⟩:∃Fs:List Fact,Fs=[.eq (.func (.func 108) #[] #[]),.eq (P6 bd 1),.eq (.slice (some ⟨ab,ao,none⟩) n ac),.eq (I6 (s:Int)),.eq (.pointer (some ⟨ab,ao+s,none⟩)),.eq (I6 x),.gen (zPc ae 4 (zBP x)) (zDr _ _ _),.eq (.string (strOfNums (zBP x))),.eq (.string (strOfNums (zBP x)))]:=⟨_,rfl⟩;refine zOe [5,6,7,8,9,10,11,12,4] [[],[],[1],[],[2,3],[4],[0,5],[6],[0,1,2,3,4,5,6,7]] ai ad mixed qK qK ?_ ?_
 ·intro wd X0;refine DagSteps.cons (fun s' w' X U H=>Or.inl ⟨?_,?_⟩) ?_
  ·exact zAI rfl
  ·exact zAu (zAG (U 1 rfl) zKb (((X0.trans X).keep hW).cell rfl)) (Ext.refl _) rfl
  refine DagSteps.cons (fun s' w' X U H=>Or.inl ⟨?_,?_⟩) ?_
  ·exact zAI rfl
  ·exact zAu (zAY (U 2 rfl) underlying34 rfl zBE rfl) (Ext.refl _) rfl
  refine DagSteps.cons (fun s' w' X U H=>Or.inl ⟨?_,?_⟩) ?_
  ·exact zAI rfl
  ·have e6:s' 6=(.pointer (some ⟨bd,1,none⟩)):=H 1 rfl 6 (.eq (.pointer (some ⟨bd,1,none⟩))) rfl (by rw[ad];rfl);exact zAu (zAG e6 zBI (((X0.trans X).keep hD).cell rfl)) (Ext.refl _) rfl
  refine DagSteps.cons (fun s' w' X U H=>Or.inl ⟨?_,?_⟩) ?_
  ·exact zAI rfl
  ·exact zAu (zAj (U 0 rfl)) (Ext.refl _) rfl
  refine DagSteps.cons (fun s' w' X U H=>Or.inl ⟨?_,?_⟩) ?_
  ·exact zAI rfl
  ·have e7:s' 7=(.slice (some ⟨ab,ao,none⟩) n ac):=H 2 rfl 7 (.eq (.slice (some ⟨ab,ao,none⟩) n ac)) rfl (by rw[ad];rfl);have e8:s' 8=(.int .i64 ((s:Nat):Int)):=H 3 rfl 8 (.eq (.int .i64 ((s:Nat):Int))) rfl (by rw[ad];rfl);exact zAu (zAD (i:=s) e7 e8 rfl underlying22 zAv qO qO) (Ext.refl _) rfl
  refine DagSteps.cons (fun s' w' X U H=>Or.inl ⟨?_,?_⟩) ?_
  ·exact zAI rfl
  ·have e9:s' 9=(.pointer (some ⟨ab,ao+s,none⟩)):=H 4 rfl 9 (.eq (.pointer (some ⟨ab,ao+s,none⟩))) rfl (by rw[ad];rfl);exact zAu (zAG e9 zAm ((Chg.ext E (X0.trans X)).cell (fun f=>f) (ak s x hs))) (Ext.refl _) rfl
  refine DagSteps.cons (fun s' w' X U H=>Or.inl ⟨?_,?_⟩) ?_
  ·exact zAI rfl
  ·have aj:s' 10=(.int .i64 x):=H 5 rfl 10 (.eq (.int .i64 x)) rfl (by rw[ad];rfl);have e5:s' 5=(.func (.func 108) #[] #[]):=H 0 rfl 5 (.eq (.func (.func 108) #[] #[])) rfl (by rw[ad];rfl);exact zDU (zCy e5 func108 kQ kQ (zPH rfl aj) rfl) (zLB _ ae x (by have:=X0.size;have:=X.size;omega) hx)
  refine DagSteps.cons (fun s' w' X U H=>Or.inl ⟨?_,?_⟩) ?_
  ·exact zAI rfl
  ·obtain ⟨a11,c11,ah,an⟩:=H 6 rfl 11 (.gen (zPc ae 4 (zBP x)) (zDr _ _ _)) rfl (by rw[ad];rfl);exact zAu (zJc (l:=zBP x) underlying69 underlying5 underlying9 ah an rfl qD) (Ext.refl _) rfl
  refine DagSteps.cons (fun s' w' X U H=>Or.inl ⟨?_,?_⟩) ?_
  ·exact zAI rfl
  ·have ap:s' 12=(.string (strOfNums (zBP x))):=H 7 rfl 12 (.eq (.string (strOfNums (zBP x)))) rfl (by rw[ad];rfl);exact zAu (zEu ap) (Ext.refl _) rfl
  exact DagSteps.nil
 ·intro s' w1 X1 U H;obtain ⟨j1,rfl⟩:=zAs.out (σ:=s') (l:=[(4,(.string (strOfNums (zBP x))))]) ⟨(show s' 4=(.string (strOfNums (zBP x))) from H 8 4 (.eq (.string (strOfNums (zBP x)))) rfl (by rw[ad];rfl)),trivial⟩;clear U H;replace hW:=X1.keep hW;replace hD:=X1.keep hD;replace E:=E.ext X1;refine zAC (zAW (zAZ results109 (v:=(.string (strOfNums (zBP x)))) rfl ?_));exact ⟨by unfold zDH;simp,E⟩
theorem zLA (w0:World) (base n:Nat) (a:Option Addr) (c:Nat) (xs:List Int) (x:Int) (hv:w0.ownsRow base TU8 1 (.slice a n c) n (xs.map (Value.int .u8))) (hb:base≤w0.heap.size) (hn:n≤1000000) (hxn:n=xs.length) (hx : -1≤x∧x<2147483648) :
  Ret prog 108 #[.slice a n c,.int .i64 x] w0 fun r w=>zPc base (n+4) (xs++zBP x) r w∧Chg (fun y=>(Value.slice a n c).ownBlock=some y) w0 w:=
 (zPr w0 base n (.slice a n c) xs x hv hb hn hxn hx).mono fun r w ⟨⟨a,c,h1⟩,h2,h3⟩=>by
  subst h1;exact ⟨⟨a,c,rfl,h2⟩,h3⟩
theorem zKR (c:Nat) (d:Dfa) (p:List Int) (s:Nat):zDH (zDM c d p s)=strOfNums (zBP (ptD p s)++((List.range c).map fun x=>ptD p (toD d s x)).flatMap zBP):=by
 unfold zDH zDM;rw[List.flatMap_cons]
theorem zKN {n:Nat} {p:List Int} (hp:∀x∈p,-1≤x∧x<(n:Int)) (hn:n≤20000) (s:Int) : -1≤ptD p s∧ptD p s<2147483648:=by
  unfold ptD;split
  · omega
  · rw[List.getD_eq_getElem?_getD];cases h:p[s.toNat]? with
    | none=>simp
    | some x=>have:=hp x (List.mem_of_getElem? h);simp;omega
theorem zYG (w0:World) (bw bo bd n c pb pc:Nat) (d:Dfa) (dv:List Value) (p:List Int) (s:Nat) (ok:OkD n c d) (hW:Blk w0 bw #[.func (.func 108) #[] #[]] 143) (hO:Blk w0 bo #[.slice (some ⟨pb,0,none⟩) n pc] 22) (hD:Blk w0 bd dv.toArray 34) (h:zBV w0 d dv)
  (hP:zBa w0 (.slice (some ⟨pb,0,none⟩) n pc) p) (hpl:p.length=n) (hpr:∀x∈p,-1≤x∧x<(n:Int)) (hs:s<n) (hn:n≤20000∧c≤16) :
  Ret prog 110 #[.int .i64 ((s:Nat):Int),.pointer (some ⟨bw,0,none⟩),.pointer (some ⟨bo,0,none⟩),.pointer (some ⟨bd,0,none⟩)] w0 fun r w=>r=.string (zDH (zDM c d p s))∧Ext w0 w:=by
 obtain ⟨aa,ac,na,nc,rfl,b0,ai⟩:=h;have a8:=ok.nl;rw[a8] at ai hD;obtain ⟨nb,no,rfl,bm⟩:=zBi (n:=n) ai qO;obtain ⟨row,ag⟩:=zAJ (l:=d.next) (i:=s) qO;have hrl:=(ok.row row (List.mem_of_getElem? ag)).1;obtain ⟨ra,rc,al,a7⟩:=bm s row ag;obtain ⟨af,ah⟩:=zAJ (l:=p) (i:=s) qO;have av:=zCR ah;obtain ⟨pb',po',ay,ao⟩:=zAy (n:=n) hP qO;simp only[Option.some.injEq,Addr.mk.injEq,and_true] at ay;obtain ⟨rfl,rfl⟩:=ay;obtain ⟨ab,aq⟩:∃ab,ab=w0.heap.size:=⟨_,rfl⟩;have hpb:pb<w0.heap.size:=World.block_lt_of_cell? w0 _ (ao s af ah);have hbw:=hW.lt;have hbo:=hO.lt;have hbd:=hD.lt;refine qR func110 rfl ntmps110 rfl (fun E=>(zAA (qA _ rfl (zAB (zAH ?_)))));obtain ⟨br,ae⟩:∃Fs:List Fact,Fs=[.eq (.func (.func 108) #[] #[]),.eq (.slice (some ⟨pb,0,none⟩) n pc),.eq (I6 (s:Int)),.eq (.pointer (some ⟨pb,0+s,none⟩)),.eq (I6 af),.gen (zPc ab 4 (zBP af)) (zDr _ _ _),.gen (zPc ab 4 (zBP af)) (zDr _ _ _)]:=⟨_,rfl⟩;refine zOe [9,10,11,12,13,14,6] [[],[],[],[1,2],[3],[0,4],[0,1,2,3,4,5]] br ae mixed qK qK ?_ ?_
 ·intro wd X0;refine DagSteps.cons (fun s' w' X U H=>Or.inl ⟨?_,?_⟩) ?_
  ·exact zAI rfl
  ·exact zAu (zAG (U 1 rfl) zKb (((X0.trans X).keep hW).cell rfl)) (Ext.refl _) rfl
  refine DagSteps.cons (fun s' w' X U H=>Or.inl ⟨?_,?_⟩) ?_
  ·exact zAI rfl
  ·exact zAu (zAG (U 2 rfl) zBI (((X0.trans X).keep hO).cell rfl)) (Ext.refl _) rfl
  refine DagSteps.cons (fun s' w' X U H=>Or.inl ⟨?_,?_⟩) ?_
  ·exact zAI rfl
  ·exact zAu (zAj (U 0 rfl)) (Ext.refl _) rfl
  refine DagSteps.cons (fun s' w' X U H=>Or.inl ⟨?_,?_⟩) ?_
  ·exact zAI rfl
  ·have bs:s' 10=(.slice (some ⟨pb,0,none⟩) n pc):=H 1 rfl 10 (.eq (.slice (some ⟨pb,0,none⟩) n pc)) rfl (by rw[ae];rfl);have az:s' 11=(.int .i64 ((s:Nat):Int)):=H 2 rfl 11 (.eq (.int .i64 ((s:Nat):Int))) rfl (by rw[ae];rfl);exact zAu (zAD (i:=s) bs az rfl underlying22 zAv qO qO) (Ext.refl _) rfl
  refine DagSteps.cons (fun s' w' X U H=>Or.inl ⟨?_,?_⟩) ?_
  ·exact zAI rfl
  ·have bj:s' 12=(.pointer (some ⟨pb,0+s,none⟩)):=H 3 rfl 12 (.eq (.pointer (some ⟨pb,0+s,none⟩))) rfl (by rw[ae];rfl);exact zAu (zAG bj zAm ((Chg.ext E (X0.trans X)).cell (fun f=>f) (ao s af ah))) (Ext.refl _) rfl
  refine DagSteps.cons (fun s' w' X U H=>Or.inl ⟨?_,?_⟩) ?_
  ·exact zAI rfl
  ·have a0:s' 13=(.int .i64 af):=H 4 rfl 13 (.eq (.int .i64 af)) rfl (by rw[ae];rfl);have e9:s' 9=(.func (.func 108) #[] #[]):=H 0 rfl 9 (.eq (.func (.func 108) #[] #[])) rfl (by rw[ae];rfl);exact zDU (zCy e9 func108 kQ kQ (zPH rfl a0) rfl) (zLB _ ab af (by have:=X0.size;have:=X.size;omega) (by rw[←av];exact zKN hpr hn.1 _))
  refine DagSteps.cons (fun s' w' X U H=>Or.inl ⟨?_,?_⟩) ?_
  ·exact zAI rfl
  ·obtain ⟨a1,a9,bh,a3⟩:=H 5 rfl 14 (.gen (zPc ab 4 (zBP af)) (zDr _ _ _)) rfl (by rw[ae];rfl);exact zAu (zEu bh) (Ext.refl _) ⟨a1,a9,rfl,a3⟩
  exact DagSteps.nil
 ·intro s' w1 X1 U H;obtain ⟨a6,c6,e6,O6⟩:=H 6 6 (.gen (zPc ab 4 (zBP af)) (zDr _ _ _)) rfl (by rw[ae];rfl);obtain ⟨j1,rfl⟩:=zAs.out (σ:=s') (l:=[(0,(.int .i64 ((s:Nat):Int))),(1,(.pointer (some ⟨bw,0,none⟩))),(2,(.pointer (some ⟨bo,0,none⟩))),(3,(.pointer (some ⟨bd,0,none⟩))),(6,(.slice a6 4 c6))]) ⟨U 0 rfl,U 1 rfl,U 2 rfl,U 3 rfl,e6,trivial⟩;clear U H;replace hW:=X1.keep hW;replace hO:=X1.keep hO;replace hD:=X1.keep hD;replace E:=E.ext X1;refine zAC (zAH (zAA (qF bd 0 2 rfl underlying34 rfl zBr rfl (qV (zAG rfl zBh (hD.cell rfl)) (qM _ rfl (qV (zAD (b:=nb) (o:=no) (len:=n) (cap:=nc) (i:=s) (o':=no+s) rfl rfl rfl underlying32 zBE qO qO) (qV (zAG rfl zBI (E.cell (fun f=>f) al)) ?_)))))));have bg:ab≤(w1).heap.size:=by have:=E.size;omega
  refine qV (zAK underlying22 rfl) (qM _ rfl (zAB (zAT (zAo (fun nn_ σ W2=>∃(k:Nat) (xs:List Int) (ba:Option Addr) (bc bn:Nat),(∃jj_,σ=zCT jj_ [(1,(P6 bw 0)),(2,(P6 bo 0)),(19,(.slice ra row.length rc)),(20,(I6 (row.length:Int))),(21,(I6 (k:Int))),(6,(.slice ba bn bc))])∧Chg zAe w0 W2∧Blk W2 bw #[(.func (.func 108) #[] #[])] 143∧Blk W2 bo #[(.slice (some ⟨pb,0,none⟩) n pc)] 22∧Blk W2 bd #[(I6 d.start),(.slice aa d.accept.length ac),(.slice (some ⟨nb,no,none⟩) n nc)] 34∧(k≤c)∧(xs=zBP (ptD p s)++((List.range k).map fun x=>ptD p (toD d s x)).flatMap zBP)∧(xs.length=4*(k+1))∧(bn=xs.length)∧(W2.ownsRow ab TU8 1 (.slice ba bn bc) bn (xs.map (Value.int .u8)))∧(ab≤W2.heap.size)∧nn_=c - k) (n:=c - 0) ?_ ?_))))
  ·exact ⟨0,zBP af,a6,c6,4,zAs.out ⟨rfl,rfl,rfl,rfl,rfl,rfl,trivial⟩,E,hW,hO,hD,Nat.zero_le _,(by rw[av];simp),rfl,rfl,O6,bg,rfl⟩
  ·clear E hW hO hD;rintro _ _ W2 ⟨k,xs,ba,bc,bn,⟨j2,rfl⟩,E,hW,hO,hD,hk,ax,hbl,an,hw,ap,rfl⟩;refine zAA (qV (zBA rfl rfl) (zAB (zAH (qC rfl (fun be=>?_) (fun be=>?_)))))
   ·obtain ⟨x,hx⟩:=zAJ (l:=row) (i:=k) qO;obtain ⟨rb,ro,rfl,bf⟩:=zAy a7 qO;obtain ⟨a5,hkc,_,hxl,hxh⟩:=zKF ok ag hx;have am:∀y,y=ptD p x→xs++zBP y=zBP (ptD p s)++((List.range (k+1)).map fun x=>ptD p (toD d s x)).flatMap zBP:=fun y hy=>by rw[List.range_succ,List.map_append,List.flatMap_append,ax,List.append_assoc,hy,←a5];simp
    refine zAO (zAC (zAH (zAT (zAA (qV (zAD (b:=rb) (o:=ro) (len:=row.length) (cap:=rc) (i:=k) (o':=ro+k) rfl rfl rfl underlying22 zAv qO qO) (qV (zAG rfl zAm (E.cell (fun f=>f) (bf k x hx))) (qA _ rfl (zAB (zAA (qM _ rfl (qV (zBA rfl rfl) (zAB (qC rfl (fun ak=>?_) (fun ak=>?_))))))))))))))
    ·refine zAF (qV (zAG rfl zKb (hW.cell rfl)) (qM _ rfl (qE rfl (zCy rfl func108 kQ kQ rfl rfl) (zLA _ ab bn ba bc xs (-1) hw ap qO an qO) ?_)));rintro _ w9 ⟨⟨a2,c2,rfl,O9⟩,C9⟩;replace hW:=C9.keep (fun h=>by have:=(hw.lt _ h).1;omega) hW;replace hO:=C9.keep (fun h=>by have:=(hw.lt _ h).1;omega) hO;replace hD:=C9.keep (fun h=>by have:=(hw.lt _ h).1;omega) hD;replace E:=E.step C9 (fun x hx h=>absurd (hw.lt x h).1 qO);refine qA _ rfl (zAB (zAS (zAC (zAF (qV (zAw rfl rfl (zBf qO)) (qM _ rfl (zAB (zAC ?_))))))));exact ⟨c - (k+1),qO,k+1,xs++zBP (-1),a2,c2,bn+4,zAs.out ⟨rfl,rfl,rfl,rfl,rfl,rfl,trivial⟩,E,hW,hO,hD,qO,am _ (zMr ak).symm,(by simp[zBP];omega),(by simp[zBP];omega),O9,Nat.le_trans ap C9.size,rfl⟩
    ·obtain ⟨t,ht⟩:=Int.eq_ofNat_of_zero_le (show 0≤x by omega);obtain ⟨pt,aw⟩:=zAJ (l:=p) (i:=t) qO;have aj:pt=ptD p x:=by rw[ht];exact (zCR aw).symm
     obtain ⟨bx,ad⟩:∃Fs:List (FactT ((fun y=>(Value.slice ba bn bc).ownBlock=some y))),Fs=[.eq (.func (.func 108) #[] #[]),.eq (.slice ba bn bc),.eq (.slice (some ⟨pb,0,none⟩) n pc),.eq (I6 x),.eq (.pointer (some ⟨pb,0+t,none⟩)),.eq (I6 pt),.own (zPc ab (bn+4) (xs++zBP pt)) (zDr _ _ _)]:=⟨_,rfl⟩;refine zFW ((fun y=>(Value.slice ba bn bc).ownBlock=some y)) 7 6 [30,31,32,33,34,35,36] [[],[],[],[],[2,3],[4],[0,1,5]] bx ad rfl mixed qK qK qK ?_ ?_
     ·intro wd X0;refine DagStepsT.cons (fun s' w' X U H=>?_) ?_
      ·exact zAQ (zAG (U 1 rfl) zKb ((Chg.keep X (fun f=>f) (X0.keep hW)).cell rfl)) (Chg.refl _ _) rfl
      refine DagStepsT.cons (fun s' w' X U H=>?_) ?_
      ·exact zAQ (zAj (U 6 rfl)) (Chg.refl _ _) rfl
      refine DagStepsT.cons (fun s' w' X U H=>?_) ?_
      ·exact zAQ (zAG (U 2 rfl) zBI ((Chg.keep X (fun h=>by have:=(hw.lt _ h).1;omega) (X0.keep hO)).cell rfl)) (Chg.refl _ _) rfl
      refine DagStepsT.cons (fun s' w' X U H=>?_) ?_
      ·exact zAQ (zAj (U 8 rfl)) (Chg.refl _ _) rfl
      refine DagStepsT.cons (fun s' w' X U H=>?_) ?_
      ·have bq:s' 32=(.slice (some ⟨pb,0,none⟩) n pc):=H 2 rfl 32 (.eq (.slice (some ⟨pb,0,none⟩) n pc)) rfl (by rw[ad];rfl);have bk:s' 33=(.int .i64 x):=H 3 rfl 33 (.eq (.int .i64 x)) rfl (by rw[ad];rfl);exact zAQ (zAD (i:=t) bq bk qO underlying22 zAv qO qO) (Chg.refl _ _) rfl
      refine DagStepsT.cons (fun s' w' X U H=>?_) ?_
      ·have bv:s' 34=(.pointer (some ⟨pb,0+t,none⟩)):=H 4 rfl 34 (.eq (.pointer (some ⟨pb,0+t,none⟩))) rfl (by rw[ad];rfl);exact zAQ (zAG bv zAm (Ext.cell X (Ext.cell X0 (E.cell (fun f=>f) (ao t pt aw))))) (Chg.refl _ _) rfl
      refine DagStepsT.cons (fun s' w' X U H=>?_) ?_
      ·have a4:s' 31=(.slice ba bn bc):=H 1 rfl 31 (.eq (.slice ba bn bc)) rfl (by rw[ad];rfl);have bt:s' 35=(.int .i64 pt):=H 5 rfl 35 (.eq (.int .i64 pt)) rfl (by rw[ad];rfl);have bu:s' 30=(.func (.func 108) #[] #[]):=H 0 rfl 30 (.eq (.func (.func 108) #[] #[])) rfl (by rw[ad];rfl);exact zCS (zCy bu func108 kQ kQ (zPH a4 bt) rfl) (zLA _ ab bn ba bc xs pt (zAg (zAg hw X0) X) (by have:=X0.size;have:=X.size;omega) qO an (by rw[aj];exact zKN hpr hn.1 _))
      exact DagStepsT.nil
     ·intro s' wd5 w5 X0 X5 U H;obtain ⟨au,ar,bp,bz⟩:=(show (.own (zPc ab (bn+4) (xs++zBP pt)) (zDr _ _ _):FactT ((fun y=>(Value.slice ba bn bc).ownBlock=some y))).In (s' 36) w5 from H 6 36 (.own (zPc ab (bn+4) (xs++zBP pt)) (zDr _ _ _)) rfl (by rw[ad];rfl));obtain ⟨j5,rfl⟩:=zAs.out (σ:=s') (l:=[(1,(.pointer (some ⟨bw,0,none⟩))),(2,(.pointer (some ⟨bo,0,none⟩))),(19,(.slice (some ⟨rb,ro,none⟩) row.length rc)),(20,(.int .i64 ((row.length:Nat):Int))),(21,(.int .i64 ((k:Nat):Int))),(36,(.slice au (bn+4) ar))]) ⟨U 1 rfl,U 2 rfl,U 19 rfl,U 20 rfl,U 21 rfl,bp,trivial⟩;clear U H;replace hW:=Chg.keep X5 (fun h=>by have:=(hw.lt _ h).1;omega) (X0.keep hW);replace hO:=Chg.keep X5 (fun h=>by have:=(hw.lt _ h).1;omega) (X0.keep hO);replace hD:=Chg.keep X5 (fun h=>by have:=(hw.lt _ h).1;omega) (X0.keep hD);have bb:=Chg.trans (Ext.chg X0) X5;replace E:=(E.ext X0).step X5 (fun y hy h=>by have:=(hw.lt _ h).1;omega);refine qA _ rfl (zAB (zAS (zAC (zAF (qV (zAw rfl rfl (zBf qO)) (qM _ rfl (zAB (zAC ?_))))))));exact ⟨c - (k+1),qO,k+1,xs++zBP pt,au,ar,bn+4,zAs.out ⟨rfl,rfl,rfl,rfl,rfl,rfl,trivial⟩,E,hW,hO,hD,qO,am _ aj,(by simp[zBP];omega),(by simp[zBP];omega),bz,Nat.le_trans ap bb.size,rfl⟩
   ·have bi:k=c:=qO
    refine zAl (zAV (zAV (zAf (zAC (zAA (qM _ rfl (qV (zJc (l:=xs) underlying69 underlying5 underlying9 rfl hw an.symm qO) (qA _ rfl (zAB (zAW (zAZ results110 (v:=(.string (strOfNums xs))) rfl ?_)))))))))));exact ⟨by rw[zKR,←bi,←ax],E⟩
end Go.Proofs
namespace Go.Proofs
open Go Go.Eng Go.Sort
set_option maxRecDepth 100000
def zEG (M:List Bool) (keyf:Nat→List Int) (n:Nat):List (Option (List Int)):=(List.range n).map fun s=>if M[s]?=some true then some (keyf s) else none
theorem zIY (M:List Bool) (keyf:Nat→List Int) (n:Nat):zEG M keyf (n+1)=zEG M keyf n++[if M[n]?=some true then some (keyf n) else none]:=by
 unfold zEG;rw[List.range_succ,List.map_append];rfl
theorem zTc {ks:List (List Int)} {k:List Int} {j:Nat} (hk:∀k∈ks,okK k) (hd:ks.Nodup) (hj:ks[j]?=some k):zBk (zDN ks 0) (zDH k)=some ((j:Nat):Int):=by
 have hm:=List.mem_of_getElem? hj;have h1:=zEI.2 (zIa (n:=0) hm);obtain ⟨v,hv⟩:=Option.isSome_iff_exists.1 h1;obtain ⟨i,rfl,hi⟩:=zLj hk (hk k hm) hv;have a:=zAE hi;have b:=zAE hj;rw[List.getElem?_eq_getElem a] at hi;rw[List.getElem?_eq_getElem b] at hj;have e:=(Option.some.inj hi).trans (Option.some.inj hj).symm;have:i=j:=by
  rcases Nat.lt_trichotomy i j with h5|h5|h5
  ·exact absurd e (List.pairwise_iff_getElem.1 hd i j a b h5)
  ·exact h5
  ·exact absurd e.symm (List.pairwise_iff_getElem.1 hd j i b a h5)
 rw[hv,this]
theorem zCW {L:List Int} {k:Nat} (x:Int):((L.map (Value.int .i64)).toArray).setIfInBounds (0+k) (.int .i64 x)=((L.set k x).map (Value.int .i64)).toArray:=by
 apply Array.ext';rw[Array.toList_setIfInBounds,Nat.zero_add,←List.map_set]
theorem zBp {L:List Int} {s:Nat} {x:Int} (hs:s<L.length):(L.set s x).take (s+1)=L.take s++[x]:=by
 rw[List.take_add_one,List.getElem?_set,if_pos rfl,if_pos hs,List.take_set_of_le (Nat.le_refl s)];rfl
theorem zTP {M:List Bool} {keyf:Nat→List Int} {s j:Nat} {ks ks1:List (List Int)} {out:List Int} (hN:Num (zEG M keyf s) ks out) (hq:M[s]?=some true) (hk:ks1=ks∨(keyf s∉ks∧ks1=ks++[keyf s]∧j=ks.length)) (hj:ks1[j]?=some (keyf s)):Num (zEG M keyf (s+1)) ks1 (out++[((j:Nat):Int)]):=by
 rw[zIY,if_pos hq];rcases hk with h1|⟨h1,h2,h3⟩
 ·subst h1;exact hN.hit hj
 ·subst h2;subst h3;exact hN.new h1
theorem zTN {ks ks1:List (List Int)} {x:List Int} {j:Nat} (hks:∀k∈ks,okK k) (hx:okK x) (hk:ks1=ks∨(x∉ks∧ks1=ks++[x]∧j=ks.length)):∀k∈ks1,okK k:=by
 intro k h;rcases hk with h1|⟨_,h2,_⟩
 ·subst h1;exact hks k h
 ·subst h2;rcases List.mem_append.1 h with h3|h3
  ·exact hks k h3
  ·rw[List.mem_singleton] at h3;subst h3;exact hx
theorem zUs (w0:World) (bp blv lb bc n pc:Nat) (pa:Option Addr) (fv:Value) (cnt0:Int) (M:List Bool) (keyf:Nat→List Int)
  (hP:Blk w0 bp #[.slice pa n pc] 22) (hV:Blk w0 blv #[.slice (some ⟨lb,0,none⟩) n n] 139) (hB:Blk w0 lb (M.map Value.bool).toArray 4) (hC:Blk w0 bc #[.int .i64 cnt0] 3)
  (hdis:bp≠blv∧bp≠lb∧bp≠bc∧bc≠blv∧bc≠lb) (hMl:M.length=n) (hn:n≤20000)
  (hkey:∀(w:World) (s:Nat),s<n→M[s]?=some true→Ext w0 w→zCJ prog fv #[.int .i64 ((s:Nat):Int)] w fun r w'=>r=.string (zDH (keyf s))∧Ext w w')
  (hok:∀s,s<n→M[s]?=some true→okK (keyf s)) :
  Ret prog 107 #[fv,.pointer (some ⟨bp,0,none⟩),.pointer (some ⟨blv,0,none⟩),.pointer (some ⟨bc,0,none⟩)] w0 fun r w=>r=.tuple #[]∧(∃q ks b,Num (zEG M keyf n) ks q∧Blk w bp #[.slice (some ⟨b,0,none⟩) n n] 22∧Blk w b (q.map (Value.int .i64)).toArray 3∧w0.heap.size≤b∧Blk w bc #[.int .i64 ((ks.length:Nat):Int)] 3)∧Chg (fun y=>y=bp∨y=bc) w0 w:=by
 have l1:=hP.lt;have l2:=hV.lt;have l3:=hB.lt;have l4:=hC.lt;obtain ⟨d1,d2,d3,d4,d5⟩:=hdis;refine zDE func107 rfl ntmps107 (leT rfl) ?_;have E:Chg (fun y=>y=bp∨y=bc) w0 w0:=Chg.refl _ _;have E9:Chg zAe w0 w0:=Chg.refl _ _;refine zAA (zEb zKw zFH qD ?_);intro bm wm Nm;have Fm:=Nm.ge E;have Fm_E9:=Nm.ge E9;have Om_bp:=Nm.lt hP;have Om_blv:=Nm.lt hV;have Om_lb:=Nm.lt hB;have Om_bc:=Nm.lt hC;replace hP:=Nm.keep hP;replace hV:=Nm.keep hV;replace hB:=Nm.keep hB;replace hC:=Nm.keep hC;replace E:=E.ext Nm.ext;replace E9:=E9.ext Nm.ext;intro Mm;refine qA _ rfl (zAB (zAA (qV (zAG rfl zBI (hP.cell rfl)) (qV (zAK underlying22 rfl) (zEQ (n:=n) (z:=(I6 0)) (bytes:=8) qD underlying22 zAv zJs zDJ rfl rfl rfl qO qO ?_)))));intro bq wq Nq;have Fq:=Nq.ge E;have Fq_E9:=Nq.ge E9;have Oq_bp:=Nq.lt hP;have Oq_blv:=Nq.lt hV;have Oq_lb:=Nq.lt hB;have Oq_bc:=Nq.lt hC;have Oq_bm:=Nq.ltM Mm;replace hP:=Nq.keep hP;replace hV:=Nq.keep hV;replace hB:=Nq.keep hB;replace hC:=Nq.keep hC;replace Mm:=Nq.keepM Mm;replace E:=E.ext Nq.ext;have Bq:=Nq.blk;replace E9:=E9.ext Nq.ext;refine qA _ rfl (zAB (zAH (zAA (qV (zAG rfl zBI (hP.cell rfl)) (qV (zAK underlying22 rfl) (qM _ rfl (zAB (zAT ?_))))))));rw[show List.replicate n (Value.int .i64 0)=(List.replicate n (0:Int)).map (Value.int .i64) by simp] at Bq;refine zAo (fun nn_ σ W1=>∃(s:Nat) (ks:List (List Int)) (L:List Int),(∃jj_,σ=zCT jj_ [(0,fv),(1,(P6 bp 0)),(2,(P6 blv 0)),(3,(P6 bc 0)),(5,(.map (some bm))),(6,(.slice (some ⟨bq,0,none⟩) n n)),(16,(I6 (n:Int))),(17,(I6 (s:Int)))])∧Chg (fun y=>y=bp∨y=bc) w0 W1∧Chg zAe w0 W1∧Blk W1 bp #[(.slice pa n pc)] 22∧Blk W1 blv #[(.slice (some ⟨lb,0,none⟩) n n)] 139∧Blk W1 lb ((M.map Value.bool).toArray) 4∧Blk W1 bc #[(I6 cnt0)] 3∧zCG W1 bm zKw zFH (zDN ks 0)∧Blk W1 bq ((L.map (Value.int .i64)).toArray) 3∧(s≤n)∧(L.length=n)∧(Num (zEG M keyf s) ks (L.take s))∧(∀k∈ks,okK k)∧nn_=n - s) (n:=n - 0) ?_ ?_
 ·exact ⟨0,[],List.replicate n 0,zAs.out ⟨rfl,rfl,rfl,rfl,rfl,rfl,rfl,rfl,trivial⟩,E,E9,hP,hV,hB,hC,Mm,Bq,Nat.zero_le _,qP,Num.start,(fun k h=>absurd h List.not_mem_nil),rfl⟩
 ·clear E E9 hP hV hB hC Mm Bq;rintro _ _ W1 ⟨s,ks,L,⟨j1,rfl⟩,E,E9,hP,hV,hB,hC,Mm,Bq,hs,ah,hN,am,rfl⟩;refine zAA (qV (zBA rfl rfl) (zAB (zAH (qC rfl (fun az=>?_) (fun az=>?_)))))
  ·obtain ⟨q,hq⟩:=zAJ (l:=M) (i:=s) qO;have a0:=zBp (L:=L) (s:=s) (x:=-1) qO;refine zAO (zAC (zAH (zAT (zAA (qM _ rfl (qA _ rfl (zAB (zAH (zAA (qM _ rfl (qM _ rfl (qV (zAD (b:=bq) (o:=0) (len:=n) (cap:=n) (i:=s) (o':=0+s) rfl rfl rfl underlying22 zAv qO qO) (zAt (b:=bq) (o:=0+s) (c':=((L.set s (-1)).map (Value.int .i64)).toArray) (v:=(I6 (-1))) rfl rfl rfl zAv Bq (by simp;omega) (zCW _) ?_)))))))))))));intro w3 S3;replace hP:=S3.keep qO hP;replace hV:=S3.keep qO hV;replace hB:=S3.keep qO hB;replace hC:=S3.keep qO hC;replace Mm:=S3.keepM qO Mm;replace E:=S3.step E qQ;replace E9:=S3.step E9 (Or.inl qO);replace Bq:=S3.blk;refine zAB (zAA (qV (zAG rfl zWV (hV.cell rfl)) (qM _ rfl (qV (zAD (b:=lb) (o:=0) (len:=n) (cap:=n) (i:=s) (o':=0+s) rfl rfl rfl underlying139 zUi qO qO) (qV (zAG (v:=(.bool q)) rfl zKa (hB.cell (by simp[hq]))) (qV (zCa rfl) (zAB (zAx rfl (fun ab=>?_) (fun ab=>?_)))))))))
   ·have ai:=ab;replace ab:=by simpa using ab
    refine zAl (zAV (zAf (zAC (zAF (qV (zAw rfl rfl (zBf qO)) (qM _ rfl (zAB (zAC ?_))))))));exact ⟨n - (s+1),qO,s+1,ks,L.set s (-1),zAs.out ⟨rfl,rfl,rfl,rfl,rfl,rfl,rfl,rfl,trivial⟩,E,E9,hP,hV,hB,hC,Mm,Bq,qO,(by simp[ah]),(by rw[zIY,a0,if_neg (by rw[hq,ab];simp)];exact hN.none),am,rfl⟩
   ·have ai:=ab;replace ab:=by simpa using ab
    have al:M[s]?=some true:=by rw[hq];simpa using ab
    have ae:=hok s qO al;refine zAO (zAC (zAA (qM _ rfl (qM _ rfl (zDD qD rfl rfl (hkey _ s qO al E9) ?_)))));rintro _ w9 ⟨rfl,X9⟩;replace hP:=X9.keep hP;replace hV:=X9.keep hV;replace hB:=X9.keep hB;replace hC:=X9.keep hC;replace Mm:=X9.keepM Mm;replace Bq:=X9.keep Bq;replace E:=E.ext X9;replace E9:=E9.ext X9;refine qA _ rfl (zAB (zFq (fun σ W5=>∃(ac:List (List Int)) (j:Nat),(∃jj_,σ=zCT jj_ [(0,fv),(1,(P6 bp 0)),(2,(P6 blv 0)),(3,(P6 bc 0)),(5,(.map (some bm))),(6,(.slice (some ⟨bq,0,none⟩) n n)),(7,(I6 (s:Int))),(8,(.string (zDH (keyf s)))),(16,(I6 (n:Int))),(17,(I6 (s:Int)))])∧Chg (fun y=>y=bp∨y=bc) w0 W5∧Chg zAe w0 W5∧Blk W5 bp #[(.slice pa n pc)] 22∧Blk W5 blv #[(.slice (some ⟨lb,0,none⟩) n n)] 139∧Blk W5 lb ((M.map Value.bool).toArray) 4∧Blk W5 bc #[(I6 cnt0)] 3∧zCG W5 bm zKw zFH (zDN ac 0)∧Blk W5 bq (((L.set s (-1)).map (Value.int .i64)).toArray) 3∧((ac=ks∨(keyf s∉ks∧ac=ks++[keyf s]∧j=ks.length)))∧(ac[j]?=some (keyf s))) ?_ ?_))
    ·skip
     refine zAA (qM _ rfl (qM _ rfl (zBo (v:=(.tuple #[(I6 ((zBk (zDN ks 0) (zDH (keyf s))).getD 0)),(.bool ((zBk (zDN ks 0) (zDH (keyf s))).isSome))])) rfl rfl qD (zEd (k:=(zDH (keyf s))) (z:=0) underlying80 (zHb underlying9) zDJ Mm rfl rfl) (qM _ rfl (qV (zAb rfl rfl) (qV (zAb rfl rfl) (qA _ rfl (qA _ rfl (zAB (zAA (qM _ rfl (qV (zCa rfl) (zAB (zAx rfl (fun aa=>?_) (fun aa=>?_)))))))))))))))
     ·have af:=aa;replace aa:=by simpa using aa
      have ax:zBk (zDN ks 0) (zDH (keyf s))=none:=by simpa using aa
      obtain ⟨an,aj⟩:=zPL ax;have ak:=zIZ ks 0;refine zAF (qM _ rfl (qM _ rfl (qM _ rfl (zBo (v:=(I6 (((zDN ks 0).length:Nat):Int))) rfl rfl qD (zNq underlying80 Mm rfl) (zDL (k:=(zDH (keyf s))) (v:=(((zDN ks 0).length:Nat):Int)) underlying80 (zHb underlying9) Mm rfl rfl rfl ?_)))));intro w7 S7 H7;replace hP:=S7.keep qO hP;replace hV:=S7.keep qO hV;replace hB:=S7.keep qO hB;replace hC:=S7.keep qO hC;replace Bq:=S7.keep qO Bq;replace E:=S7.step E qQ;replace E9:=S7.step E9 (Or.inl qO);replace Mm:=H7;refine zAB (zAC ?_);rw[ak,aj] at Mm;exact ⟨ks++[keyf s],ks.length,zAs.out ⟨rfl,rfl,rfl,rfl,rfl,rfl,rfl,rfl,rfl,rfl,trivial⟩,E,E9,hP,hV,hB,hC,Mm,Bq,.inr ⟨an,rfl,rfl⟩,qP⟩
     ·have af:=aa;replace aa:=by simpa using aa
      have a1:(zBk (zDN ks 0) (zDH (keyf s))).isSome=true:=by simpa using aa
      obtain ⟨v9,aw⟩:=Option.isSome_iff_exists.1 a1;obtain ⟨j9,rfl,a2⟩:=zLj am ae aw;refine zAO (zAC ?_);exact ⟨ks,j9,zAs.out ⟨rfl,rfl,rfl,rfl,rfl,rfl,rfl,rfl,rfl,rfl,trivial⟩,E,E9,hP,hV,hB,hC,Mm,Bq,.inl rfl,a2⟩
    ·clear E E9 hP hV hB hC Mm Bq;rintro _ W5 ⟨ac,j,⟨j5,rfl⟩,E,E9,hP,hV,hB,hC,Mm,Bq,aq,ap⟩;have ar:=zTP hN al aq ap;have ag:=zTN am ae aq;have av:=zTc ag ar.nd ap;have ao:=zBp (L:=L.set s (-1)) (s:=s) (x:=((j:Nat):Int)) (by simp;omega);refine zAF (qM _ rfl (qM _ rfl (qM _ rfl (qM _ rfl (zBo (v:=(I6 ((zBk (zDN ac 0) (zDH (keyf s))).getD 0))) rfl rfl qD (zTE (k:=(zDH (keyf s))) (z:=0) underlying80 (zHb underlying9) zDJ Mm rfl rfl) (qV (zAD (b:=bq) (o:=0) (len:=n) (cap:=n) (i:=s) (o':=0+s) rfl rfl rfl underlying22 zAv qO qO) (zAt (b:=bq) (o:=0+s) (c':=(((L.set s (-1)).set s (j:Int)).map (Value.int .i64)).toArray) (v:=(I6 ((zBk (zDN ac 0) (zDH (keyf s))).getD 0))) rfl rfl rfl zAv Bq (by simp;omega) (by rw[av];exact zCW _) ?_)))))));intro w8 S8;replace hP:=S8.keep qO hP;replace hV:=S8.keep qO hV;replace hB:=S8.keep qO hB;replace hC:=S8.keep qO hC;replace Mm:=S8.keepM qO Mm;replace E:=S8.step E qQ;replace E9:=S8.step E9 (Or.inl qO);replace Bq:=S8.blk;refine zAB (zAS (zAC (zAF (qV (zAw rfl rfl (zBf qO)) (qM _ rfl (zAB (zAC ?_)))))));exact ⟨n - (s+1),qO,s+1,ac,(L.set s (-1)).set s ((j:Nat):Int),zAs.out ⟨rfl,rfl,rfl,rfl,rfl,rfl,rfl,rfl,trivial⟩,E,E9,hP,hV,hB,hC,Mm,Bq,qO,(by simp[ah]),(by rw[ao,List.take_set_of_le (Nat.le_refl s)];exact ar),ag,rfl⟩
  ·have au:s=n:=qO
   have ay:Num (zEG M keyf n) ks L:=by rw[au,←ah,List.take_length] at hN;rw[←ah];exact hN
   have ak:=zIZ ks 0;refine zAl (zAV (zAV (zAf (zAC (zAF (qM _ rfl (qM _ rfl (zBo (v:=(I6 (((zDN ks 0).length:Nat):Int))) rfl rfl qD (zNq underlying80 Mm rfl) (zAt (b:=bp) (o:=0) (c':=#[(.slice (some ⟨bq,0,none⟩) n n)]) (v:=(.slice (some ⟨bq,0,none⟩) n n)) rfl rfl rfl zBE hP qP rfl ?_)))))))));intro w9 S9;replace hV:=S9.keep qO hV;replace hB:=S9.keep qO hB;replace hC:=S9.keep qO hC;replace Mm:=S9.keepM qO Mm;replace Bq:=S9.keep qO Bq;replace E:=S9.step E qQ;replace hP:=S9.blk;refine zAt (b:=bc) (o:=0) (c':=#[(I6 (((zDN ks 0).length:Nat):Int))]) (v:=(I6 (((zDN ks 0).length:Nat):Int))) rfl rfl rfl zAv hC qP rfl ?_;intro w10 ad;replace hP:=ad.keep qO hP;replace hV:=ad.keep qO hV;replace hB:=ad.keep qO hB;replace Mm:=ad.keepM qO Mm;replace Bq:=ad.keep qO Bq;replace E:=ad.step E qQ;replace hC:=ad.blk;refine zAB (zET results107 ?_);rw[ak] at hC;exact ⟨rfl,⟨L,ks,bq,ay,hP,Bq,qO,hC⟩,E⟩
end Go.Proofs
namespace Go.Proofs
open Go Go.Eng Go.Sort
set_option maxRecDepth 100000
theorem zFb {M:List Bool} {keyf:Nat→List Int} {n s:Nat} (hs:s<n):(zEG M keyf n)[s]?=some (if M[s]?=some true then some (keyf s) else none):=by
 unfold zEG;rw[List.getElem?_map,List.getElem?_range hs];rfl
theorem zNm {n c:Nat} {d:Dfa} {M:List Bool} {keyf:Nat→List Int} {ks:List (List Int)} {q:List Int} (hM:LiveOf n c d M) (hN:Num (zEG M keyf n) ks q)
  (ha:∀s t:Nat,s<n→t<n→zBT c d s→zBT c d t→keyf s=keyf t→atD d s=atD d t) (he:∀s t:Nat,s<n→t<n→zBT c d s→zBT c d t→zMa c d s t→keyf s=keyf t):Refd n c d q ks.length:=
 Refd.of_num hN (by unfold zEG;simp) (fun s hs h=>by rw[zFb hs,if_neg fun h1=>h ((hM.iff s hs).1 h1)]) (fun s hs h=>by rw[zFb hs,if_pos ((hM.iff s hs).2 h)]) ha he
theorem zQp {n c:Nat} {d:Dfa} {M:List Bool} {keyf:Nat→List Int} {ks:List (List Int)} {q:List Int} (hM:LiveOf n c d M) (hN:Num (zEG M keyf n) ks q):∀s t:Nat,s<n→t<n→zBT c d s→zBT c d t→(q[s]?=q[t]?↔keyf s=keyf t):=fun s t hs ht l1 l2=>
 hN.eq_iff (by rw[zFb hs,if_pos ((hM.iff s hs).2 l1)]) (by rw[zFb ht,if_pos ((hM.iff t ht).2 l2)])
theorem Refd.rng {n c cnt:Nat} {d:Dfa} {p:List Int} (h:Refd n c d p cnt):∀x∈p,-1≤x∧x<(n:Int):=by
 intro x hx;obtain ⟨s,hs⟩:=List.getElem?_of_mem hx;have aa:s<n:=by rw[←h.len];exact zAE hs
 have hc:=h.cnt_le;by_cases hl:zBT c d s
 ·obtain ⟨j,h1,h2⟩:=h.liv s aa hl;rw[hs] at h1;have:=Option.some.inj h1;omega
 ·have h1:=h.dead s aa hl;rw[hs] at h1;have:=Option.some.inj h1;omega
theorem Refd.next {n c cnt:Nat} {d:Dfa} {p q:List Int} {M:List Bool} {ks:List (List Int)} (ok:OkD n c d) (hM:LiveOf n c d M) (hp:Refd n c d p cnt) (hN:Num (zEG M (zDM c d p) n) ks q):Refd n c d q ks.length:=by
 refine zNm hM hN (fun s t hs ht l1 l2 h=>?_) fun s t hs ht l1 l2 h=>?_
 ·have h1:=(zEg.1 h).1;obtain ⟨a,h2,_⟩:=hp.liv s hs l1;obtain ⟨b,h3,_⟩:=hp.liv t ht l2;rw[zCR h2,zCR h3] at h1;exact hp.acc s t hs ht l1 l2 (by rw[h2,h3,h1])
 ·refine zEg.2 ⟨hp.ptEqv qO qO h,fun x hx=>hp.ptEqv ok.to ok.to (h.to hx)⟩
theorem Refd.finer {n c cnt:Nat} {d:Dfa} {p q:List Int} {M:List Bool} {ks:List (List Int)} (hM:LiveOf n c d M) (hp:Refd n c d p cnt) (hN:Num (zEG M (zDM c d p) n) ks q):∀s t:Nat,s<n→t<n→zBT c d s→zBT c d t→q[s]?=q[t]?→p[s]?=p[t]?:=fun s t hs ht l1 l2 h=>by
 have h1:=(zEg.1 ((zQp hM hN s t hs ht l1 l2).1 h)).1;obtain ⟨a,h2,_⟩:=hp.liv s hs l1;obtain ⟨b,h3,_⟩:=hp.liv t ht l2;rw[zCR h2,zCR h3] at h1;rw[h2,h3,h1]
theorem zTM {n c cnt:Nat} {d:Dfa} {p:List Int} (h:Refd n c d p cnt) (hn:n≤20000) (s:Nat):okK (zDM c d p s):=by
 intro x hx;unfold zDM at hx;rcases List.mem_cons.1 hx with h1|h1
 ·rw[h1];exact zKN h.rng hn _
 ·obtain ⟨y,_,h2⟩:=List.mem_map.1 h1;rw[←h2];exact zKN h.rng hn _
def zXG (n0:Nat):Fct:=fun v w=>∃b,v=.pointer (some ⟨b,0,none⟩)∧n0≤b∧Blk w b #[.slice none 0 0] 22
theorem zKQ (n0:Nat):∀v w w',Chg zAe w w'→zXG n0 v w→zXG n0 v w':=by
 rintro v w w' e ⟨b,h1,h2,h3⟩;exact ⟨b,h1,h2,Ext.keep e h3⟩
theorem zSR {N n0:Nat} {σ:Env} {w:World} {dst:Option Tmp} {ty:TypeId} {pos:String} {af:Array Edge} {g:Option (Nat×Bool)} (h0:n0≤w.heap.size):zCg zAe prog N ⟨dst,.alloc 22,ty,pos,af,g⟩ (zXG n0) σ w:=by
 refine zAQ (v:=.pointer (some ⟨w.heap.size,0,none⟩)) (w':={w with heap:=w.heap.push (.cells #[.slice none 0 0] 22 (0,0))}) ?_ (New.mk' w _ _).ext ⟨_,rfl,h0,(New.mk' w _ _).blk⟩;simp[execOp,Instr.alloc,(zEj).run,newVar,newRow,Value.cells]
theorem zFh {w:World} {b n:Nat} {p:List Int} {T:Nat} (h:Blk w b (p.map (Value.int .i64)).toArray T) (hn:p.length=n) (hl:n≤9223372036854775807:=by omega):zBa w (.slice (some ⟨b,0,none⟩) n n) p:=by
 subst hn;rw[←zJj] at h;exact zEv p h hl (Nat.le_refl _)
theorem zIq {n c:Nat} {d:Dfa} (ok:OkD n c d) {s:Nat} (hs:s<n):d.accept[s]?=some (atD d ((s:Nat):Int)):=by
 have h1:d.accept[s]?=some (d.accept[s]'(by rw[ok.al];exact hs)):=List.getElem?_eq_getElem _;rw[h1,zDi h1]
theorem zVw (w0:World) (n c:Nat) (d:Dfa) (dv:List Value) (ok:OkD n c d) (h:zBV w0 d dv) (hn:n≤20000∧c≤16) (hac:∀x∈d.accept,x<2147483648) :
  Ret prog 73 #[.agg dv.toArray] w0 fun r w=>(∃q b,PartsOf n c d q∧r=.slice (some ⟨b,0,none⟩) n n∧w0.heap.size≤b∧Blk w b (q.map (Value.int .i64)).toArray 3)∧Ext w0 w:=by
 obtain ⟨dv0,ai⟩:∃x,x=dv:=⟨_,rfl⟩;have ae:=h;rw[←ai] at ae;obtain ⟨aa,ac,na,nc,rfl,a6,a9⟩:=h;have a3:=ok.nl;have ax:=ok.al;rw[ax,a3] at ai⊢;refine qR func73 rfl ntmps73 rfl (fun E=>(zAA (zBY (v:=(.agg #[(I6 d.start),(.slice aa n ac),(.slice na n nc)])) (c:=#[(I6 d.start),(.slice aa n ac),(.slice na n nc)]) qD rfl rfl ?_)));intro bd wd Nd;have Fd:=Nd.ge E;replace E:=E.ext Nd.ext;have Bd:=Nd.blk;refine qA _ rfl (zAB (zAA (qV (zAP (vs:=[(I6 d.start),(.slice aa n ac),(.slice na n nc)]) rfl zBC zAi rfl (Bd.cells rfl)) (qE rfl (zAU func106 kQ kQ rfl) (zYD _ n c d _ ok (by rw[ai] at ae;exact ae.ext E) hn) ?_))));rintro _ w9 ⟨⟨M,lb,hM,rfl,hlb,ab⟩,X9⟩;replace Bd:=X9.keep Bd;replace E:=E.ext X9;have av:=ab.lt;have a1:∀w,Ext w0 w→zBV w d [.int .i64 d.start,.slice aa n ac,.slice na n nc]:=fun w e=>by rw[ai] at ae;exact ae.ext e
 refine zAd (v:=(.slice (some ⟨lb,0,none⟩) n n)) (c:=#[(.slice (some ⟨lb,0,none⟩) n n)]) (n:=1) qD zXQ rfl zXd rfl rfl rfl qS ?_;intro bv wv Nv;have Fv:=Nv.ge E;have Ov_bd:=Nv.lt Bd;have Ov_lb:=Nv.lt ab;replace Bd:=Nv.keep Bd;replace ab:=Nv.keep ab;replace E:=E.ext Nv.ext;have Bv:=Nv.blk;refine zAB (zAA (qF bd 0 2 rfl underlying34 rfl zBr rfl (qV (zAG rfl zBh (Bd.cell rfl)) (qV (zAK underlying32 rfl) (zEQ (n:=n) (z:=(I6 0)) (bytes:=8) qD underlying22 zAv zJs zDJ rfl rfl rfl qO qO ?_)))));intro bz wz Nz;have Fz:=Nz.ge E;have Oz_bd:=Nz.lt Bd;have Oz_lb:=Nz.lt ab;have Oz_bv:=Nz.lt Bv;replace Bd:=Nz.keep Bd;replace ab:=Nz.keep ab;replace Bv:=Nz.keep Bv;replace E:=E.ext Nz.ext;have Bz:=Nz.blk;refine zAd (v:=(.slice (some ⟨bz,0,none⟩) n n)) (c:=#[(.slice (some ⟨bz,0,none⟩) n n)]) (n:=1) qD zEj rfl zBE rfl rfl rfl qS ?_;intro bp wp Np;have Fp:=Np.ge E;have Op_bd:=Np.lt Bd;have Op_lb:=Np.lt ab;have Op_bv:=Np.lt Bv;have Op_bz:=Np.lt Bz;replace Bd:=Np.keep Bd;replace ab:=Np.keep ab;replace Bv:=Np.keep Bv;replace Bz:=Np.keep Bz;replace E:=E.ext Np.ext;have Bp:=Np.blk;refine zAB (zAA (zAd (v:=(I6 0)) (c:=#[(I6 0)]) (n:=1) qD zDJ rfl zAv rfl rfl rfl qS ?_));intro bc wc Nc;have Fc:=Nc.ge E;have Oc_bd:=Nc.lt Bd;have Oc_lb:=Nc.lt ab;have Oc_bv:=Nc.lt Bv;have Oc_bz:=Nc.lt Bz;have Oc_bp:=Nc.lt Bp;replace Bd:=Nc.keep Bd;replace ab:=Nc.keep ab;replace Bv:=Nc.keep Bv;replace Bz:=Nc.keep Bz;replace Bp:=Nc.keep Bp;replace E:=E.ext Nc.ext;have Bc:=Nc.blk;refine zAB (zAA (qV (zBQ rfl rfl) (qA _ rfl (zAB (zAA (zAd (v:=(.func (.func 108) #[] #[])) (c:=#[(.func (.func 108) #[] #[])]) (n:=1) qD zXP rfl zXc rfl rfl rfl qS ?_))))));intro bw ww Nw;have Fw:=Nw.ge E;have Ow_bd:=Nw.lt Bd;have Ow_lb:=Nw.lt ab;have Ow_bv:=Nw.lt Bv;have Ow_bz:=Nw.lt Bz;have Ow_bp:=Nw.lt Bp;have Ow_bc:=Nw.lt Bc;replace Bd:=Nw.keep Bd;replace ab:=Nw.keep ab;replace Bv:=Nw.keep Bv;replace Bz:=Nw.keep Bz;replace Bp:=Nw.keep Bp;replace Bc:=Nw.keep Bc;replace E:=E.ext Nw.ext;have Bw:=Nw.blk;refine zAB (zAA (qM _ rfl (qV (zBQ rfl rfl) ?_)));have ba:=Bw.lt;refine qE rfl (zCy rfl func107 kQ kQ rfl rfl) (zUs _ bp bv lb bc n n _ _ 0 M (fun s=>[atD d (s:Int)]) Bp Bv ab Bc qO hM.len hn.1 (fun w s hs hq hE=>zCJ.mk (first:=#[]) (cap:=#[.pointer (some ⟨bw,0,none⟩),.pointer (some ⟨bd,0,none⟩)]) func109 kQ kQ rfl (zYH w bw bd n d _ s _ (hE.keep Bw) (hE.keep Bd) (a1 _ (Chg.ext E hE)) ax (zIq ok hs) ⟨ok.at',hac _ (List.mem_of_getElem? (zIq ok hs))⟩)) (fun s hs _ x hx=>by rw[List.mem_singleton] at hx;rw[hx];exact ⟨ok.at',hac _ (List.mem_of_getElem? (zIq ok hs))⟩)) ?_;rintro _ w19 ⟨rfl,⟨q0,ap,b1,a4,ah,be,hb0,ag⟩,am⟩;replace Bd:=am.keep qO Bd;replace ab:=am.keep qO ab;replace Bv:=am.keep qO Bv;replace Bz:=am.keep qO Bz;replace Bw:=am.keep qO Bw;replace E:=E.step am (by intro x hx hm;omega);have a5:Refd n c d q0 ap.length:=zNm hM a4 (fun s t _ _ _ _ h=>by simpa using h) (fun s t _ _ _ _ h=>by have:=h [] (inW.nil c);simpa[beh] using this);have aq:bw<b1:=qO
 refine zAB (zAT (zAo (fun nn_ σ W1=>∃(p:List Int) (ad pb:Nat),(∃jj_,σ=zCT jj_ [(1,(P6 bd 0)),(4,(P6 bp 0)),(5,(P6 bc 0)),(6,(.func (.func 107) #[] #[(P6 bp 0),(P6 bv 0),(P6 bc 0)])),(7,(P6 bw 0))])∧Chg zAe w0 W1∧Blk W1 bd #[(I6 d.start),(.slice aa n ac),(.slice na n nc)] 34∧Blk W1 lb ((M.map Value.bool).toArray) 4∧Blk W1 bv #[(.slice (some ⟨lb,0,none⟩) n n)] 139∧Blk W1 bz ((List.replicate n (I6 0)).toArray) 3∧Blk W1 bw #[(.func (.func 108) #[] #[])] 143∧Blk W1 bp (#[Value.slice (some ⟨pb,0,none⟩) n n]) 22∧Blk W1 bc (#[Value.int .i64 (ad:Int)]) 3∧(Refd n c d p ad)∧(Blk W1 pb (p.map (Value.int .i64)).toArray 3)∧(bw<pb)∧nn_=n - ad) (n:=n - ap.length) ?_ ?_))
 ·exact ⟨q0,ap.length,b1,zAs.out ⟨rfl,rfl,rfl,rfl,rfl,trivial⟩,E,Bd,ab,Bv,Bz,Bw,ah,ag,a5,be,aq,rfl⟩
 ·clear E Bd ab Bv Bz Bw ah ag;rintro _ _ W1 ⟨p,ad,pb,⟨j1,rfl⟩,E,Bd,ab,Bv,Bz,Bw,ah,ag,hR,aj,hpb,rfl⟩;have bf:=aj.lt;obtain ⟨n9,hn9⟩:∃n9,n9=(W1).heap.size:=⟨_,rfl⟩;refine zAT (zAH ?_);obtain ⟨bb,af⟩:∃Fs:List (FactT (zAe)),Fs=[.eq (I6 (ad:Int)),.eq (.slice (some ⟨pb,0,none⟩) n n),.gen (zXG n9) (zKQ _),.eq (I6 (ad:Int))]:=⟨_,rfl⟩;refine zFW (zAe) 4 2 [20,21,9,8] [[],[],[],[0,2]] bb af rfl mixed qK qK qK ?_ ?_
  ·intro wd X0;refine DagStepsT.cons (fun s' w' X U H=>?_) ?_
   ·exact zAQ (zAG (U 5 rfl) zAm ((Chg.keep X (fun f=>f) (X0.keep ag)).cell rfl)) (Chg.refl _ _) rfl
   refine DagStepsT.cons (fun s' w' X U H=>?_) ?_
   ·exact zAQ (zAG (U 4 rfl) zBI ((Chg.keep X (fun f=>f) (X0.keep ah)).cell rfl)) (Chg.refl _ _) rfl
   refine DagStepsT.cons (fun s' w' X U H=>?_) ?_
   ·exact zSR (by have:=X0.size;have:=X.size;omega)
   refine DagStepsT.cons (fun s' w' X U H=>?_) ?_
   ·have a7:s' 20=(.int .i64 ((ad:Nat):Int)):=H 0 rfl 20 (.eq (.int .i64 ((ad:Nat):Int))) rfl (by rw[af];rfl);exact zAQ (zEu a7) (Chg.refl _ _) rfl
   exact DagStepsT.nil
  ·intro s' wd2 w2 X0 X2 U H;have bg:s' 21=(.slice (some ⟨pb,0,none⟩) n n):=H 1 21 (.eq (.slice (some ⟨pb,0,none⟩) n n)) rfl (by rw[af];rfl);obtain ⟨b9,e9,g9,B9⟩:=(show (.gen (zXG n9) (zKQ _):FactT (zAe)).In (s' 9) w2 from H 2 9 (.gen (zXG n9) (zKQ _)) rfl (by rw[af];rfl));have e8:s' 8=(.int .i64 ((ad:Nat):Int)):=H 3 8 (.eq (.int .i64 ((ad:Nat):Int))) rfl (by rw[af];rfl);obtain ⟨j2,rfl⟩:=zAs.out (σ:=s') (l:=[(1,(.pointer (some ⟨bd,0,none⟩))),(4,(.pointer (some ⟨bp,0,none⟩))),(5,(.pointer (some ⟨bc,0,none⟩))),(6,(.func (.func 107) #[] #[(.pointer (some ⟨bp,0,none⟩)),(.pointer (some ⟨bv,0,none⟩)),(.pointer (some ⟨bc,0,none⟩))])),(7,(.pointer (some ⟨bw,0,none⟩))),(21,(.slice (some ⟨pb,0,none⟩) n n)),(9,(.pointer (some ⟨b9,0,none⟩))),(8,(.int .i64 ((ad:Nat):Int)))]) ⟨U 1 rfl,U 4 rfl,U 5 rfl,U 6 rfl,U 7 rfl,bg,e9,e8,trivial⟩;clear U H;replace Bd:=Chg.keep X2 (fun f=>f) (X0.keep Bd);replace ab:=Chg.keep X2 (fun f=>f) (X0.keep ab);replace Bv:=Chg.keep X2 (fun f=>f) (X0.keep Bv);replace Bz:=Chg.keep X2 (fun f=>f) (X0.keep Bz);replace Bw:=Chg.keep X2 (fun f=>f) (X0.keep Bw);replace ah:=Chg.keep X2 (fun f=>f) (X0.keep ah);replace ag:=Chg.keep X2 (fun f=>f) (X0.keep ag);replace aj:=Chg.keep X2 (fun f=>f) (X0.keep aj);replace E:=(E.ext X0).step X2 (fun _ _ f=>f.elim);refine zAt (b:=b9) (o:=0) (c':=#[(.slice (some ⟨pb,0,none⟩) n n)]) (v:=(.slice (some ⟨pb,0,none⟩) n n)) rfl rfl rfl zBE B9 qP rfl ?_;intro w3 S3;replace Bd:=S3.keep qO Bd;replace ab:=S3.keep qO ab;replace Bv:=S3.keep qO Bv;replace Bz:=S3.keep qO Bz;replace Bw:=S3.keep qO Bw;replace ah:=S3.keep qO ah;replace ag:=S3.keep qO ag;replace aj:=S3.keep qO aj;replace E:=S3.step E qQ;replace B9:=S3.blk;refine zAB (zAC (zAA (qM _ rfl (qV (zBQ rfl rfl) ?_))));have az:=Bw.lt;refine qE rfl (zCy rfl func107 kQ kQ rfl rfl) (zUs _ bp bv lb bc n n _ _ (ad:Int) M (zDM c d p) ah Bv ab ag qO hM.len hn.1 (fun w s hs hq hE=>zCJ.mk (first:=#[]) (cap:=#[.pointer (some ⟨bw,0,none⟩),.pointer (some ⟨b9,0,none⟩),.pointer (some ⟨bd,0,none⟩)]) func110 kQ kQ rfl (zYG w bw b9 bd n c pb n d _ p s ok (hE.keep Bw) (hE.keep B9) (hE.keep Bd) (a1 _ (Chg.ext E hE)) (by have:=zFh (hE.keep aj) hR.len;exact this) hR.len hR.rng hs hn)) (fun s hs _=>zTM hR hn.1 s)) ?_;rintro _ w29 ⟨rfl,⟨q1,ar,b2,au,aw,ay,hb1,a0⟩,ak⟩;replace Bd:=ak.keep qO Bd;replace ab:=ak.keep qO ab;replace Bv:=ak.keep qO Bv;replace Bz:=ak.keep qO Bz;replace Bw:=ak.keep qO Bw;replace aj:=ak.keep qO aj;replace B9:=ak.keep qO B9;replace E:=E.step ak (by intro x hx hm;omega);have ao:=hR.next ok hM au;have bh:=hR.finer hM au;have a2:=Refd.cnt_mono hR ao bh;have a8:=ao.cnt_le;refine zAB (zAA (qV (zAG rfl zAm (a0.cell rfl)) (qM _ rfl (qV (zAq rfl rfl) (zAB (qC rfl (fun an=>?_) (fun an=>?_)))))))
   ·have bi:ar.length=ad:=qO
    refine zAA (qV (zAG rfl zBI (aw.cell rfl)) (qA _ rfl (zAB (zAW (zAh (zAX (zAh (zAZ results73 (v:=(.slice (some ⟨b2,0,none⟩) n n)) rfl ?_))))))));rw[bi] at ao;exact ⟨⟨q1,b2,Refd.final ok hR ao (zQp hM au),rfl,qO,ay⟩,E⟩
   ·refine zAO (zAS (zAC ?_));exact ⟨n - ar.length,qO,q1,ar.length,b2,zAs.out ⟨rfl,rfl,rfl,rfl,rfl,trivial⟩,E,Bd,ab,Bv,Bz,Bw,aw,a0,ao,ay,qO,rfl⟩
end Go.Proofs
namespace Go.Proofs
open Go Go.Eng Go.Sort
def zUd (d:Dfa) (p:List Int) (st:List Int) (s:Int) (x:Nat) (y:Int):Prop:=(y = -1∧ptD p (toD d s x)<0)∨∃(j:Nat) (t:Int),y=((j:Nat):Int)∧st[j]?=some t∧ptD p t=ptD p (toD d s x)∧0≤ptD p t
theorem zUd.mono {d:Dfa} {p st:List Int} {s y:Int} {x:Nat} (h:zUd d p st s x y) (u:List Int):zUd d p (st++u) s x y:=by
 rcases h with h|⟨j,t,h1,h2,h3⟩
 ·exact .inl h
 ·exact .inr ⟨j,t,h1,by rw[List.getElem?_append_left (zAE h2)];exact h2,h3⟩
structure CanP (n c:Nat) (d:Dfa) (p:List Int) (rows:List (List Int)) (row st:List Int):Prop where
 s0:st[0]?=some d.start
 sl:∀s∈st,0≤s∧s<n∧0≤ptD p s
 inj:∀(i j:Nat) s t,st[i]?=some s→st[j]?=some t→ptD p s=ptD p t→i=j
 len:∀r∈rows,r.length=c
 ent:∀(i x:Nat) r y s,rows[i]?=some r→r[x]?=some y→st[i]?=some s→zUd d p st s x y
 cur:∀(x:Nat) y s,row[x]?=some y→st[rows.length]?=some s→zUd d p st s x y
 ord:∀(k:Nat) y,(rows.flatten++row)[k]?=some y→y≤mxL ((rows.flatten++row).take k)+1
 mx:mxL (rows.flatten++row)+1=st.length
 rch:∀i:Nat,i<rows.length→((i:Nat):Int)≤mxL (rows.take i).flatten
theorem CanP.start {n c:Nat} {d:Dfa} {p:List Int} (hs:0≤d.start∧d.start<n) (hp:0≤ptD p d.start):CanP n c d p [] [] [d.start]:=by
 refine ⟨rfl,fun s h=>by rw[List.mem_singleton] at h;subst h;exact ⟨hs.1,hs.2,hp⟩,fun i j s t h1 h2 _=>?_,fun r h=>absurd h List.not_mem_nil,fun i x r y s h=>by simp at h,fun x y s h=>by simp at h,fun k y h=>by simp at h,by simp[mxL],fun i h=>by simp at h⟩;have a:=zAE h1;have b:=zAE h2;simp at a b;omega
theorem zOB {F:List Int} {y:Int} (h:∀(k:Nat) z,F[k]?=some z→z≤mxL (F.take k)+1) (hy:y≤mxL F+1):∀(k:Nat) z,(F++[y])[k]?=some z→z≤mxL ((F++[y]).take k)+1:=by
 intro k z hz;rcases zCD hz with h1|⟨h1,h2⟩
 ·rw[List.take_append_of_le_length (by have:=zAE h1;omega)];exact h k z h1
 ·rw[h1,h2,List.take_append_of_le_length (Nat.le_refl _),List.take_length];exact hy
theorem CanP.add {n c:Nat} {d:Dfa} {p:List Int} {rows:List (List Int)} {row st:List Int} {s y:Int} (h:CanP n c d p rows row st) (hs:st[rows.length]?=some s) (hE:zUd d p st s row.length y):CanP n c d p rows (row++[y]) st:=by
 have hy:y≤mxL (rows.flatten++row):=by
  have hm:=h.mx;have hl:=List.length_pos_of_mem (List.mem_of_getElem? h.s0);rcases hE with ⟨h1,_⟩|⟨j,t,h1,h2,_⟩
  ·omega
  ·have:=zAE h2;omega
 refine ⟨h.s0,h.sl,h.inj,h.len,h.ent,fun x z q hx hq=>?_,?_,?_,h.rch⟩
 ·rcases zCD hx with h1|⟨h1,h2⟩
  ·exact h.cur x z q h1 hq
  ·rw[hs] at hq;cases hq;rw[h1,h2];exact hE
 ·rw[←List.append_assoc];exact zOB h.ord qO
 ·rw[←List.append_assoc,zGV];have:=h.mx;omega
theorem CanP.new {n c:Nat} {d:Dfa} {p:List Int} {rows:List (List Int)} {row st:List Int} {s:Int} (h:CanP n c d p rows row st) (hs:st[rows.length]?=some s) (ht:0≤toD d s row.length∧toD d s row.length<n) (hp:0≤ptD p (toD d s row.length)) (hnew:∀t∈st,ptD p t≠ptD p (toD d s row.length)) :
  CanP n c d p rows (row++[((st.length:Nat):Int)]) (st++[toD d s row.length]):=by
 have ab:=zAE hs;have hE:zUd d p (st++[toD d s row.length]) s row.length ((st.length:Nat):Int):=.inr ⟨st.length,_,rfl,by rw[List.getElem?_append_right (Nat.le_refl _),Nat.sub_self];rfl,rfl,hp⟩;refine ⟨by rw[List.getElem?_append_left (zAE h.s0)];exact h.s0,fun q hq=>?_,fun i j q r hi hj he=>?_,h.len,fun i x r y q hr hy hq=>?_,fun x z q hx hq=>?_,?_,?_,h.rch⟩
 ·rcases List.mem_append.1 hq with h1|h1
  ·exact h.sl q h1
  ·rw[List.mem_singleton] at h1;subst h1;exact ⟨ht.1,ht.2,hp⟩
 ·rcases zCD hi with h1|⟨h1,h2⟩<;>rcases zCD hj with h3|⟨h3,h4⟩
  ·exact h.inj i j q r h1 h3 he
  ·exact absurd (by rw[he,h4]) (hnew q (List.mem_of_getElem? h1))
  ·exact absurd (by rw[←he,h2]) (hnew r (List.mem_of_getElem? h3))
  ·omega
 ·rcases zCD hq with h1|⟨h1,_⟩
  ·exact (h.ent i x r y q hr hy h1).mono _
  ·have:=zAE hr;omega
 ·have aa:q=s:=by
   rw[List.getElem?_append_left ab,hs] at hq;exact (Option.some.inj hq).symm
  subst aa;rcases zCD hx with h1|⟨h1,h2⟩
  ·exact (h.cur x z q h1 hs).mono _
  ·rw[h1,h2];exact hE
 ·rw[←List.append_assoc];exact zOB h.ord (by have:=h.mx;omega)
 ·rw[←List.append_assoc,zGV];have:=h.mx;simp;omega
theorem CanP.row {n c:Nat} {d:Dfa} {p:List Int} {rows:List (List Int)} {row st:List Int} (h:CanP n c d p rows row st) (hl:row.length=c) (hr:((rows.length:Nat):Int)≤mxL rows.flatten):CanP n c d p (rows++[row]) [] st:=by
 have hf:(rows++[row]).flatten++[]=rows.flatten++row:=qP
 refine ⟨h.s0,h.sl,h.inj,fun r hm=>?_,fun i x r y s h1 h2 h3=>?_,fun x y s h1=>by simp at h1,by rw[hf];exact h.ord,by rw[hf];exact h.mx,fun i hi=>?_⟩
 ·rcases List.mem_append.1 hm with h1|h1
  ·exact h.len r h1
  ·rw[List.mem_singleton] at h1;rw[h1];exact hl
 ·rcases zCD h1 with h4|⟨h4,h5⟩
  ·exact h.ent i x r y s h4 h2 h3
  ·subst h5;rw[h4] at h3;exact h.cur x y s h2 h3
 ·simp at hi;rcases Nat.lt_or_ge i rows.length with h1|h1
  ·rw[List.take_append_of_le_length qO];exact h.rch i h1
  ·have:i=rows.length:=qO
   rw[this,List.take_append_of_le_length (Nat.le_refl _),List.take_length];exact hr
theorem zJo {c:Nat}:∀{L:List (List Int)} {i:Nat},(∀r∈L,r.length=c)→i≤L.length→L.flatten.take (i*c)=(L.take i).flatten
  | [],i,_,_=>qP
  | q::L,0,_,_=>qP
  | q::L,i+1,h,hi=>by
    have hq:=h q List.mem_cons_self;rw[List.flatten_cons,List.take_succ_cons,List.flatten_cons,show (i+1)*c=q.length+i*c by rw[hq,Nat.add_mul];omega,List.take_append,Nat.add_sub_cancel_left,zJo (fun r hr=>h r (List.mem_cons_of_mem _ hr)) (by simpa using hi),List.take_of_length_le qO]
theorem CanP.done {n c:Nat} {d:Dfa} {p:List Int} {rows:List (List Int)} {st:List Int} (h:CanP n c d p rows [] st) (ok:OkD n c d) (hP:PartsOf n c d p) (hl:rows.length=st.length):zCc c (beh d d.start) ⟨0,st.map (atD d),rows⟩:=by
 have ae:=h.mx;rw[List.append_nil] at ae;have hm0:=List.length_pos_of_mem (List.mem_of_getElem? h.s0);have ad:∀i:Nat,i<rows.length→∃s,st[i]?=some s:=fun i hi=>zAJ qO;have aa:∀r∈rows,r.length=c∧∀y∈r,-1≤y∧y<st.length:=fun r hr=>by
  refine ⟨h.len r hr,fun y hy=>?_⟩;obtain ⟨i,hi⟩:=List.getElem?_of_mem hr;obtain ⟨x,hx⟩:=List.getElem?_of_mem hy;obtain ⟨s,hs⟩:=ad i (zAE hi);rcases h.ent i x r y s hi hx hs with ⟨h1,_⟩|⟨j,t,h1,h2,_⟩
  ·omega
  ·have:=zAE h2;omega
 have af:OkD st.length c ⟨0,st.map (atD d),rows⟩:=⟨hl,qP,⟨Int.le_refl _,by show (0:Int)<_;omega⟩,fun x hx=>by
  obtain ⟨s,_,h1⟩:=List.mem_map.1 hx;rw[←h1];exact ok.at',aa⟩
 have hb:Bfs st.length c ⟨0,st.map (atD d),rows⟩:=by
  refine ⟨af,rfl,fun k y hk=>?_,fun i hi=>?_,?_⟩
  ·have:=h.ord k y (by rw[List.append_nil];exact hk)
   rwa [List.append_nil] at this
  ·show _≤mxL (rows.flatten.take (i*c));rw[zJo h.len qO];exact h.rch i qO
  ·show mxL rows.flatten=_;omega
 refine zML ok hb rfl h.s0 (fun i j s t hi hj he=>?_) (fun i s hs=>?_) fun i x s hs hx=>?_
 ·have a:=h.sl s (List.mem_of_getElem? hi);have b:=h.sl t (List.mem_of_getElem? hj);exact h.inj i j s t hi hj ((hP.iff s t ⟨qO,a.2.1⟩ ⟨qO,b.2.1⟩).2 he)
 ·exact zDi (by rw[List.getElem?_map,hs];rfl)
 ·obtain ⟨r,hr⟩:=zAJ (l:=rows) (i:=i) (by have:=zAE hs;omega);have hrl:=h.len r (List.mem_of_getElem? hr);obtain ⟨y,hy⟩:=zAJ (l:=r) (i:=x) qO;have ac:toD ⟨0,st.map (atD d),rows⟩ ((i:Nat):Int) x=y:=zEq hr hy;have ab:=ok.to (s:=s) (x:=x);rcases h.ent i x r y s hr hy hs with ⟨h1,h2⟩|⟨j,t,h1,h2,h3,h4⟩
  ·left;refine ⟨by rw[ac];exact h1,fun hl=>?_⟩;have:=(hP.live _ ab).1.2 hl;omega
  ·right;have b:=h.sl t (List.mem_of_getElem? h2);exact ⟨j,t,by rw[ac];exact h1,h2,(hP.iff t _ ⟨qO,b.2.1⟩ ab).1 h3,(hP.live t ⟨qO,b.2.1⟩).1.1 h4⟩
theorem zPX {n c:Nat} {d:Dfa} (ok:OkD n c d) (hd:¬zBT c d d.start):zCc c (beh d d.start) ⟨0,[-1],[List.replicate c (-1)]⟩:=by
  have ab:∀(s:Int) (x:Nat),toD ⟨0,[-1],[List.replicate c (-1)]⟩ s x = -1:=fun s x=>by
    unfold toD;split
    · rfl
    · rw[List.getD_eq_getElem?_getD,List.getD_eq_getElem?_getD];cases h:([List.replicate c (-1:Int)])[s.toNat]? with
      | none=>simp
      | some r=>
        have:=List.mem_of_getElem? h;rw[List.mem_singleton] at this;subst this;simp only[Option.getD_some,List.getElem?_replicate];split<;>rfl
  have ac:mxL ([List.replicate c (-1:Int)]).flatten=0:=by
    simp only[List.flatten_cons,List.flatten_nil,List.append_nil]
    induction c with
    | zero=>rfl
    | succ c ih=>
      have e:∀k,mxL (List.replicate k (-1:Int))=0:=fun k=>by
        induction k with
        | zero=>rfl
        | succ k ih2=>rw[List.replicate_succ',zGV,ih2];decide
      exact e _
  have ad:OkD 1 c ⟨0,[-1],[List.replicate c (-1)]⟩:=⟨rfl,rfl,⟨Int.le_refl _,by show (0:Int)<1;decide⟩,fun x hx=>by rw[List.mem_singleton] at hx;rw[hx];exact Int.le_refl _,fun r hr=>by
    rw[List.mem_singleton] at hr;subst hr;exact ⟨qP,fun x hx=>by rw[(List.mem_replicate.1 hx).2];decide⟩⟩
  have aa:∀(w:List Nat),beh ⟨0,[-1],[List.replicate c (-1)]⟩ 0 w = -1:=fun w=>by
    cases w with
    | nil=>rfl
    | cons x w=>simp only[beh];rw[ab];exact zCh qD
  refine ⟨1,⟨ad,rfl,fun k x hk=>?_,fun i hi=>?_,by rw[ac];rfl⟩,fun w hw=>by rw[aa,ok.dead hd hw],fun s t h1 h2 h3 h4 _=>qO,fun s x _ h=>by rw[ab] at h;exact absurd h qD⟩
  · have h1:=List.mem_of_getElem? hk;simp at h1;have:=zUu ((([List.replicate c (-1:Int)]).flatten).take k);have h2:x = -1:=h1.2;show x≤mxL ((([List.replicate c (-1:Int)]).flatten).take k)+1;omega
  · have:i=0:=qO
    rw[this];exact zUu _
def zCj:List Int→Nat→List (Int×Int)
  | [],_=>[]
  | m::ks,n=>(m,((n:Nat):Int))::zCj ks (n+1)
theorem zJi:∀(ks:List Int) (m:Int) (n:Nat),zCj (ks++[m]) n=zCj ks n++[(m,(((n+ks.length:Nat):Nat):Int))]
  | [],m,n=>rfl
  | x::ks,m,n=>by
    show (x,_)::zCj (ks++[m]) (n+1)=(x,_)::(zCj ks (n+1)++_);rw[zJi ks m (n+1),List.length_cons,show n+1+ks.length=n+(ks.length+1) by omega]
theorem zLm:∀{ks:List Int} {n:Nat} {q:Int×Int},q∈zCj ks n→∃(j:Nat) (m:Int),ks[j]?=some m∧q=(m,(((n+j:Nat):Nat):Int))
  | [],_,_,h=>by cases h
  | x::ks,n,q,h=>by
    rcases List.mem_cons.1 h with h|h
    · exact ⟨0,x,rfl,h⟩
    · obtain ⟨j,m,h1,h2⟩:=zLm h;exact ⟨j+1,m,h1,by rw[h2];congr 2;omega⟩
theorem zLn:∀{ks:List Int} {n:Nat} {m:Int},m∈ks→m∈(zCj ks n).map (·.1)
  | x::ks,n,m,h=>by
    rcases List.mem_cons.1 h with rfl|h
    · exact List.mem_cons_self
    · exact List.mem_cons_of_mem _ (zLn (n:=n+1) h)
theorem zRE {ks:List Int} {m v:Int} (h:zBk (zCj ks 0) m=some v):∃j:Nat,v=((j:Nat):Int)∧ks[j]?=some m:=by
 obtain ⟨j,m',h1,h2⟩:=zLm (zDp h);simp only[Prod.mk.injEq,Nat.zero_add] at h2;exact ⟨j,h2.2,by rw[h1,h2.1]⟩
theorem zPM {ks:List Int} {m:Int} (h:zBk (zCj ks 0) m=none):m∉ks∧zHq (zCj ks 0) m ((ks.length:Nat):Int)=zCj (ks++[m]) 0:=by
 refine ⟨fun hm=>?_,?_⟩
 ·have:=zEI.2 (zLn (n:=0) hm);rw[h] at this;cases this
 ·rw[zDy _ h,zJi,Nat.zero_add]
end Go.Proofs
namespace Go.Proofs
open Go Go.Eng Go.Sort
set_option maxRecDepth 100000
theorem zJY {P:Program} {σ:Env} {w:World} {dst:Option Tmp} {ty:TypeId} {pos:String} {af:Array Edge} {g0:Option (Nat×Bool)} {t e:TypeId} {x y:Operand} {g o dl dc sb so sl sc:Nat} {cur c':Array Value} {T:TypeId} {cs:List Value} (hu:P.underlying t=some (.slice e)) (hs:Siz P e 1) (hx:ev σ x=.slice (some ⟨g,o,none⟩) dl dc) (hy:ev σ y=.slice (some ⟨sb,so,none⟩) sl sc)
  (hB:Blk w g cur T) (hcs:zAz w sb so cs) (hn:cs.length=Nat.min sl dl) (hfit:o+cs.length≤cur.size) (h1:∀v∈cs,v.oneCell'=true) (hc:(cur.toList.take o++cs++cur.toList.drop (o+cs.length)).toArray=c') :
  (execOp (ev σ) ⟨dst,.call ⟨.builtin .copy,#[x,y],#[t,t]⟩,ty,pos,af,g0⟩).run P w=.ok (.value (.int .i64 ((cs.length:Nat):Int))) (w.setRow g c'):=by
 subst hc;have hr:=run_copy_row (P:=P) w t t ty e g o dl dc ⟨sb,so,none⟩ sl sc cur T cs hu hs hB hn (fun j v hj=>by rw[Addr.add_lit];exact hcs j v hj) hfit h1;simp[execOp,resolve,invoke,builtin,hx,hy,hr,goInt]
theorem zXg {P:Program} {N:Nat} {Q:zFm} {σ:Env} {w:World} {K:Env→World→Prop} {ops:Array Oper} {rest:List Oper} {d:Nat} {ty:TypeId} {pos:String} {af:Array Edge} {t e:TypeId} {x y:Operand} {g o dl dc sb so sl sc:Nat} {cur c':Array Value} {T:TypeId} {cs:List Value} (hN:d<N) (hu:P.underlying t=some (.slice e)) (hs:Siz P e 1) (hx:ev σ x=.slice (some ⟨g,o,none⟩) dl dc) (hy:ev σ y=.slice (some ⟨sb,so,none⟩) sl sc)
  (hB:Blk w g cur T) (hcs:zAz w sb so cs) (hn:cs.length=Nat.min sl dl) (hfit:o+cs.length≤cur.size) (h1:∀v∈cs,v.oneCell'=true) (hc:(cur.toList.take o++cs++cur.toList.drop (o+cs.length)).toArray=c')
  (k:∀w',Put w w' g c' T→WpL P N ops K Q rest (upd σ d (.int .i64 ((cs.length:Nat):Int))) w'):WpL P N ops K Q (⟨some d,.call ⟨.builtin .copy,#[x,y],#[t,t]⟩,ty,pos,af,none⟩::rest) σ w:=
 zBo rfl rfl hN (zJY hu hs hx hy hB hcs hn hfit h1 hc) (k _ (Put.of_setRow hB _))
theorem zPn {P:Program} {N:Nat} {σ:Env} {w:World} {M:Nat→Prop} {R:Fct} {dst:Option Tmp} {ty:TypeId} {pos:String} {af:Array Edge} {g0:Option (Nat×Bool)} {t e:TypeId} {x y:Operand} {g o dl dc sb so sl sc:Nat} {cur c':Array Value} {T:TypeId} {cs:List Value} (hu:P.underlying t=some (.slice e)) (hs:Siz P e 1) (hx:ev σ x=.slice (some ⟨g,o,none⟩) dl dc) (hy:ev σ y=.slice (some ⟨sb,so,none⟩) sl sc)
  (hB:Blk w g cur T) (hcs:zAz w sb so cs) (hn:cs.length=Nat.min sl dl) (hfit:o+cs.length≤cur.size) (h1:∀v∈cs,v.oneCell'=true) (hc:(cur.toList.take o++cs++cur.toList.drop (o+cs.length)).toArray=c') (hM:M g)
  (hR:∀w',Blk w' g c' T→R (.int .i64 ((cs.length:Nat):Int)) w'):zCg M P N ⟨dst,.call ⟨.builtin .copy,#[x,y],#[t,t]⟩,ty,pos,af,g0⟩ R σ w:=by
 have hp:=Put.of_setRow hB c';exact zAQ (zJY hu hs hx hy hB hcs hn hfit h1 hc) (hp.chg.mono fun z _ h=>by subst h;exact hM) (hR _ hp.blk)
theorem zQn (m:Nat) (h:m<18446744073709551616):(BitVec.ofInt 64 (m:Int)).toNat=m:=by
 rw[BitVec.toNat_ofInt];omega
theorem zWw {P:Program} {w:World} (m:Nat) (hm:m<4294967296):(Op.intBits .and .u64 (m:Int) 4294967295).run P w=.ok (.int .u64 (m:Int)) w:=by
 have h1:m &&& 4294967295=m:=by
  have:=Nat.and_two_pow_sub_one_eq_mod m 32;rw[show (2:Nat) ^ 32 - 1=4294967295 by decide] at this;rw[this];omega
 show Result.ok (Value.int .u64 (IntKind.u64.wrap ((BitVec.ofInt 64 (m:Int) &&& BitVec.ofInt 64 (((4294967295:Nat):Nat):Int):BitVec 64).toNat:Int))) w=_;rw[BitVec.toNat_and,zQn m qO,zQn _ qD,h1,zXW qO]
theorem zQP {n:Int} (h:0≤n∧n<4294967296):n.fdiv (2 ^ min (Int.toNat 32) IntKind.u64.bits)=0:=by
 show n.fdiv 4294967296=0;rw[Int.fdiv_eq_ediv_of_nonneg n qD];omega
theorem zWM (w0:World) (m n:Nat) (hm:m≤60000) (hn:n≤60000):Ret prog 157 #[.int .u64 (m:Int),.int .u64 (n:Int)] w0 fun r w=>r=.tuple #[.int .u64 0,.int .u64 ((m*n:Nat):Int)]∧Ext w0 w:=by
 have hmn:m*n≤60000*60000:=Nat.mul_le_mul hm hn;have hc:((m:Int)*(n:Int))=((m*n:Nat):Int):=qP
 refine qR func157 rfl ntmps157 rfl (fun E=>(zAA (qA _ rfl (qA _ rfl (zAB (zAA (qM _ rfl (qV (zJd (v:=.int .u64 (m:Int)) rfl rfl qP (zWw m qO)) (qA _ rfl (zAB (zAA (qM _ rfl (qV (zJE (c:=0) rfl rfl qO (zQP qO)) (qA _ rfl (zAB (zAA (qM _ rfl (qV (zJd (v:=.int .u64 (n:Int)) rfl rfl qP (zWw n qO)) ?_))))))))))))))))));refine qA _ rfl (zAB (zAA (qM _ rfl (qV (zJE (c:=0) rfl rfl qO (zQP qO)) (qA _ rfl (zAB (zAA (qM _ rfl (qM _ rfl (qV (zQd (c:=((m*n:Nat):Int)) rfl rfl (by rw[hc];exact zXW qO)) (qA _ rfl (zAB (zAA (qM _ rfl (qM _ rfl (qV (zQd (c:=0) rfl rfl (by rw[Int.zero_mul];rfl)) (qM _ rfl ?_)))))))))))))))));refine qV (zJE (c:=0) rfl rfl qO (zQP qO)) (qV (zAw (c:=0) rfl rfl (by rfl)) (qA _ rfl (zAB (zAA (qM _ rfl (qV (zJd (v:=.int .u64 0) rfl rfl qP (zWw 0 qD)) (qA _ rfl (zAB (zAA (qM _ rfl (qV (zJE (c:=0) rfl rfl qO (zQP qO)) (qA _ rfl (zAB (zAA (qM _ rfl (qM _ rfl (qM _ rfl ?_)))))))))))))))));refine qV (zQd (c:=0) rfl rfl (by rw[Int.mul_zero];rfl)) (qV (zAw (c:=0) rfl rfl (by rfl)) (qA _ rfl (zAB (zAA (qM _ rfl (qM _ rfl (qV (zQd (c:=0) rfl rfl (by rfl)) (qM _ rfl (qV (zAw (c:=0) rfl rfl (by rfl)) (qM _ rfl (qV (zJE (c:=0) rfl rfl qO (zQP qO)) (qV (zAw (c:=0) rfl rfl (by rfl)) (qA _ rfl (zAB (zAA (qM _ rfl ?_))))))))))))))));refine qM _ rfl (qV (zQd (c:=((m*n:Nat):Int)) rfl rfl (by rw[hc];exact zXW qO)) (qA _ rfl (zAB (zAW (zCY results157 (v:=(.int .u64 0)) (v':=(.int .u64 ((m*n:Nat):Int))) rfl rfl ?_)))));exact ⟨rfl,E⟩
theorem zZJ (w0:World) (m n:Nat) (hm:m≤60000) (hn:n≤60000):Ret prog 111 #[.int .u64 (m:Int),.int .u64 (n:Int)] w0 fun r w=>r=.tuple #[.int .u64 0,.int .u64 ((m*n:Nat):Int)]∧Ext w0 w:=by
 refine qR func111 rfl ntmps111 rfl (fun E=>(zAA (qA _ rfl (qA _ rfl (zAB (zAH (zAN rfl (zAO (zAC (zAA (qM _ rfl (qM _ rfl (qE rfl (zAU func157 kQ kQ rfl) (zWM _ m n hm hn) ?_)))))))))))));rintro _ w9 ⟨rfl,X9⟩;replace E:=E.ext X9;refine qM _ rfl (qV (zAb rfl rfl) (qV (zAb rfl rfl) (qA _ rfl (qA _ rfl (zAB (zAA (qM _ rfl (qM _ rfl (qA _ rfl (qA _ rfl (zAB (zAW (zCY results111 (v:=(.int .u64 0)) (v':=(.int .u64 ((m*n:Nat):Int))) rfl rfl ?_)))))))))))));exact ⟨rfl,E⟩
def zHi (y:Int) (m n:Nat):List Value:=(List.replicate m y++List.replicate (n - m) 0).map (Value.int .i64)
theorem zLN (y:Int) {m n k:Nat} (h:k≤m):(zHi y m n).take k=List.replicate k (Value.int .i64 y):=by
 simp only[zHi,List.map_append,List.map_replicate];rw[List.take_append_of_le_length (by simp;omega),List.take_replicate,Nat.min_eq_left h]
theorem zLO (y:Int) {m n k:Nat} (h:m+k≤n):((zHi y m n).toArray.toList.take m++List.replicate k (Value.int .i64 y)++(zHi y m n).toArray.toList.drop (m+k)).toArray=(zHi y (m+k) n).toArray:=by
 have e1:=zLN y (m:=m) (n:=n) (k:=m) (Nat.le_refl _);have e2:(zHi y m n).drop (m+k)=List.replicate (n - (m+k)) (Value.int .i64 0):=by
  simp only[zHi,List.map_append,List.map_replicate];rw[List.drop_append,List.drop_of_length_le qP,List.length_replicate,List.drop_replicate,List.nil_append];congr 1;omega
 show ((zHi y m n).take m++List.replicate k (Value.int .i64 y)++(zHi y m n).drop (m+k)).toArray=_;rw[e1,e2];simp only[zHi,List.map_append,List.map_replicate,List.replicate_append_replicate]
theorem zGP (w0:World) (b sc n:Nat) (y:Int) (T:TypeId) (hB:Blk w0 b #[.int .i64 y] T) (h1:1≤n) (hn:n≤60000) :
  Ret prog 74 #[.slice (some ⟨b,0,none⟩) 1 sc,.int .i64 ((n:Nat):Int)] w0 fun r w=>(∃g,r=.slice (some ⟨g,0,none⟩) n n∧w0.heap.size≤g∧Blk w g ((List.replicate n y).map (Value.int .i64)).toArray 3)∧Ext w0 w:=by
 have hbl:=hB.lt;refine qR func74 rfl ntmps74 rfl (fun E=>(zAA (qA _ rfl (zAB (zAH (zAA (qM _ rfl (qV (zBA rfl rfl) (zAB ?_)))))))));have ar:(decide ((((n:Nat):Int):Int)<0))=false:=decide_eq_false qO;refine zAN (cbk ar) (zAO (zAC (zAA (qM _ rfl (qV (zAK underlying22 rfl) (qV (zDY (c:=((1:Nat):Int)) ⟨_,underlying3⟩ underlying119 rfl (rfl)) (qM _ rfl (qV (zDY (c:=(n:Int)) ⟨_,underlying3⟩ underlying119 rfl (zXW qO)) (qE rfl (zAU func111 kQ kQ rfl) (zZJ _ 1 n qD hn) ?_)))))))));rintro _ w9 ⟨rfl,X9⟩;replace hB:=X9.keep hB;replace E:=E.ext X9;refine qM _ rfl (qV (zAb rfl rfl) (qV (zAb rfl rfl) (qA _ rfl (qA _ rfl (zAB (zAH (zAA (qM _ rfl (qV (zEN rfl rfl) (qM _ rfl (zAL rfl rfl qD rfl (qM _ rfl (zAL rfl rfl qD rfl ?_)))))))))))));obtain ⟨e2,ae⟩:∃e,(decide ((9223372036854775807:Int)<((1*n:Nat):Int)))=e:=⟨_,rfl⟩;refine qV ((zEN rfl rfl).trans (by rw[ae];try rfl)) (qV (zAr rfl rfl) (zAB ?_));subst ae;have af:((decide ((9223372036854775807:Int)<((1*n:Nat):Int))))=false:=decide_eq_false qO;refine zAN (cbk af) (zAO (zAC (zAA (qM _ rfl (qV (zDY (c:=(n:Int)) ⟨_,underlying119⟩ underlying3 rfl ((zBf qO).trans qO)) (zEQ (n:=n) (z:=(I6 0)) (bytes:=8) qD underlying22 zAv zJs zDJ rfl rfl rfl qO qO ?_))))));intro bz wz Nz;have Fz:=Nz.ge E;have Oz_b:=Nz.lt hB;replace hB:=Nz.keep hB;replace E:=E.ext Nz.ext;have Bz:=Nz.blk;refine qA _ rfl (zAB (zAA (qM _ rfl (qM _ rfl ?_))));rw[show List.replicate n (Value.int .i64 0)=zHi y 0 n by simp[zHi]] at Bz;refine zXg (g:=bz) (o:=0) (cs:=[Value.int .i64 y]) (c':=(zHi y 1 n).toArray) qD underlying22 zAv rfl rfl Bz (hB.cells rfl) (by show 1=Nat.min 1 n;simp only[Nat.min_def];split<;>omega) (by simp[zHi];omega) qS (zLO y (m:=0) (k:=1) qO) ?_;intro w4 S4;replace hB:=S4.keep qO hB;replace E:=S4.step E qQ;replace Bz:=S4.blk;refine qA _ rfl (zAB (zAH (zAT (zAo (fun nn_ σ W5=>∃(m:Nat),(∃jj_,σ=zCT jj_ [(7,(.slice (some ⟨bz,0,none⟩) n n)),(8,(I6 (m:Int)))])∧Chg zAe w0 W5∧Blk W5 b #[(I6 y)] T∧Blk W5 bz ((zHi y m n).toArray) 3∧(1≤m∧m≤n)∧nn_=n - m) (n:=n - 1) ?_ ?_))))
 ·exact ⟨1,zAs.out ⟨rfl,rfl,trivial⟩,E,hB,Bz,⟨Nat.le_refl _,h1⟩,rfl⟩
 ·clear E hB Bz;rintro _ _ W5 ⟨m,⟨j5,rfl⟩,E,hB,Bz,hm,rfl⟩;refine zAH (zAA (qM _ rfl (qM _ rfl (qV (zAK underlying22 rfl) (qV (zBA rfl rfl) (zAB (qC rfl (fun ak=>?_) (fun ak=>?_))))))))
  ·obtain ⟨k,hk⟩:∃k,k=Nat.min m (n - m):=⟨_,rfl⟩;have ac:1≤k∧k≤m∧m+k≤n:=by rw[hk];simp only[Nat.min_def];split<;>omega
   refine zAO (zAC (zAT ?_));obtain ⟨au,aa⟩:∃Fs:List (FactT ((fun q=>q=bz))),Fs=[.eq (I6 (m:Int)),.eq (.slice (some ⟨bz,0,none⟩) n n),.eq (I6 (m:Int)),.eq (.slice (some ⟨bz,m,none⟩) (n - m) (n - m)),.eq (.slice (some ⟨bz,0,none⟩) n n),.eq (I6 (m:Int)),.eq (.slice (some ⟨bz,0,none⟩) m n),.own (fun v w=>v=.int .i64 (k:Int)∧Blk w bz (zHi y (m+k) n).toArray 3) (fun _ _ _ e h=>⟨h.1,Ext.keep e h.2⟩),.eq (I6 ((m:Int)+(k:Int)))]:=⟨_,rfl⟩;refine zFW ((fun q=>q=bz)) 9 7 [38,39,40,41,42,43,44,45,46] [[],[],[],[1,2],[],[],[4,5],[3,6],[0,7]] au aa rfl mixed qK qK qK ?_ ?_
   ·intro wd X0;refine DagStepsT.cons (fun s' w' X U H=>?_) ?_
    ·exact zAQ (zAj (U 8 rfl)) (Chg.refl _ _) rfl
    refine DagStepsT.cons (fun s' w' X U H=>?_) ?_
    ·exact zAQ (zAj (U 7 rfl)) (Chg.refl _ _) rfl
    refine DagStepsT.cons (fun s' w' X U H=>?_) ?_
    ·exact zAQ (zAj (U 8 rfl)) (Chg.refl _ _) rfl
    refine DagStepsT.cons (fun s' w' X U H=>?_) ?_
    ·have aq:s' 39=(.slice (some ⟨bz,0,none⟩) n n):=H 1 rfl 39 (.eq (.slice (some ⟨bz,0,none⟩) n n)) rfl (by rw[aa];rfl);have ah:s' 40=(.int .i64 ((m:Nat):Int)):=H 2 rfl 40 (.eq (.int .i64 ((m:Nat):Int))) rfl (by rw[aa];rfl);exact zAQ (zFL (lo:=m) underlying22 zAv aq ah rfl qO (by rw[if_neg qO];simp only[Option.map_some,Addr.add_lit,Nat.mul_one,Nat.zero_add]) rfl rfl) (Chg.refl _ _) rfl
    refine DagStepsT.cons (fun s' w' X U H=>?_) ?_
    ·exact zAQ (zAj (U 7 rfl)) (Chg.refl _ _) rfl
    refine DagStepsT.cons (fun s' w' X U H=>?_) ?_
    ·exact zAQ (zAj (U 8 rfl)) (Chg.refl _ _) rfl
    refine DagStepsT.cons (fun s' w' X U H=>?_) ?_
    ·have ag:s' 42=(.slice (some ⟨bz,0,none⟩) n n):=H 4 rfl 42 (.eq (.slice (some ⟨bz,0,none⟩) n n)) rfl (by rw[aa];rfl);have ai:s' 43=(.int .i64 ((m:Nat):Int)):=H 5 rfl 43 (.eq (.int .i64 ((m:Nat):Int))) rfl (by rw[aa];rfl);exact zAQ (zLP (hi:=m) underlying22 zAv ag ai rfl qO (by rw[if_neg qO];simp only[Option.map_some,Addr.add_lit,Nat.zero_mul,Nat.add_zero])) (Chg.refl _ _) rfl
    refine DagStepsT.cons (fun s' w' X U H=>?_) ?_
    ·have an:s' 41=(.slice (some ⟨bz,m,none⟩) (n - m) (n - m)):=H 3 rfl 41 (.eq (.slice (some ⟨bz,m,none⟩) (n - m) (n - m))) rfl (by rw[aa];rfl);have am:s' 44=(.slice (some ⟨bz,0,none⟩) m n):=H 6 rfl 44 (.eq (.slice (some ⟨bz,0,none⟩) m n)) rfl (by rw[aa];rfl);exact zPn (cs:=List.replicate k (Value.int .i64 y)) (c':=(zHi y (m+k) n).toArray) underlying22 zAv an am (Ext.keep X (X0.keep Bz)) (Blk.cells (Ext.keep X (X0.keep Bz)) (by show ((zHi y m n).drop 0).take _=_;rw[List.drop_zero,List.length_replicate,zLN y ac.2.1])) (by rw[List.length_replicate];exact hk) (by rw[List.length_replicate];simp[zHi];omega) (by intro v hv;rw[(List.mem_replicate.1 hv).2];rfl) (by rw[List.length_replicate];exact zLO y ac.2.2) rfl (fun w9 al=>⟨by show Value.int .i64 (((List.replicate k (Value.int .i64 y)).length:Nat):Int)=_;rw[List.length_replicate],al⟩)
    refine DagStepsT.cons (fun s' w' X U H=>?_) ?_
    ·have ap:s' 38=(.int .i64 ((m:Nat):Int)):=H 0 rfl 38 (.eq (.int .i64 ((m:Nat):Int))) rfl (by rw[aa];rfl);obtain ⟨ad,ab⟩:=(show (.own (fun v w=>v=.int .i64 ((k:Nat):Int)∧Blk w bz (zHi y (m+k) n).toArray 3) (fun _ _ _ e h=>⟨h.1,Ext.keep e h.2⟩):FactT ((fun q=>q=bz))).In (s' 45) w' from H 7 rfl 45 (.own (fun v w=>v=.int .i64 ((k:Nat):Int)∧Blk w bz (zHi y (m+k) n).toArray 3) (fun _ _ _ e h=>⟨h.1,Ext.keep e h.2⟩)) rfl (by rw[aa];rfl));exact zAQ (zAw ap ad (zBf qO)) (Chg.refl _ _) rfl
    exact DagStepsT.nil
   ·intro s' wd7 w7 X0 X7 U H;obtain ⟨ad,ab⟩:=(show (.own (fun v w=>v=.int .i64 ((k:Nat):Int)∧Blk w bz (zHi y (m+k) n).toArray 3) (fun _ _ _ e h=>⟨h.1,Ext.keep e h.2⟩):FactT ((fun q=>q=bz))).In (s' 45) w7 from H 7 45 (.own (fun v w=>v=.int .i64 ((k:Nat):Int)∧Blk w bz (zHi y (m+k) n).toArray 3) (fun _ _ _ e h=>⟨h.1,Ext.keep e h.2⟩)) rfl (by rw[aa];rfl));have aj:s' 46=(.int .i64 (((m:Nat):Int)+((k:Nat):Int))):=H 8 46 (.eq (.int .i64 (((m:Nat):Int)+((k:Nat):Int)))) rfl (by rw[aa];rfl);obtain ⟨j7,rfl⟩:=zAs.out (σ:=s') (l:=[(7,(.slice (some ⟨bz,0,none⟩) n n)),(46,(.int .i64 (((m:Nat):Int)+((k:Nat):Int))))]) ⟨U 7 rfl,aj,trivial⟩;clear U H;replace hB:=Chg.keep X7 (fun h=>by have h':b=bz:=h;omega) (X0.keep hB);replace E:=(E.ext X0).step X7 (fun q hq h=>by have h':q=bz:=h;omega);refine qA _ rfl (zAB (zAS (zAC ?_)));exact ⟨n - (m+k),qO,m+k,zAs.out ⟨rfl,rfl,trivial⟩,E,hB,ab,qO,rfl⟩
  ·have ao:m=n:=qO
   refine zAl (zAV (zAV (zAf (zAC (zAA (qM _ rfl (qA _ rfl (zAB (zAW (zAZ results74 (v:=(.slice (some ⟨bz,0,none⟩) n n)) rfl ?_))))))))));rw[ao,show zHi y n n=(List.replicate n y).map (Value.int .i64) by simp[zHi]] at Bz;exact ⟨⟨bz,rfl,qO,Bz⟩,E⟩
end Go.Proofs
namespace Go.Eng
open Go
def two (c1 c2:Nat) (M1 M2:Nat→Prop) (p:Nat):Nat→Prop:=bif Nat.beq p c1 then M1 else bif Nat.beq p c2 then M2 else zAe
def zTk (wss:List (List Nat)) (i j:Nat):Bool:=Nat.beq j i || (wss.getD j []).contains i
def zEO (wss:List (List Nat)) (Ms:Nat→Nat→Prop) (i:Nat):Nat→Prop:=fun y=>∃j,zTk wss i j=false∧Ms j y
theorem zFB {c1 c2:Nat} {M1 M2:Nat→Prop} {p y:Nat} (h:two c1 c2 M1 M2 p y):(p=c1∧M1 y)∨(p=c2∧M2 y):=by
  unfold two at h;cases h1:Nat.beq p c1 with
  | true=>rw[h1] at h;exact .inl ⟨Nat.eq_of_beq_eq_true h1,h⟩
  | false=>
    rw[h1] at h;cases h2:Nat.beq p c2 with
    | true=>rw[h2] at h;exact .inr ⟨Nat.eq_of_beq_eq_true h2,h⟩
    | false=>rw[h2] at h;exact h.elim
section
variable {wss : List (List Nat)} {c1 c2 i y : Nat} {M1 M2 : Nat → Prop}
theorem zEO.or (h:zEO wss (two c1 c2 M1 M2) i y):M1 y∨M2 y:=by
 obtain ⟨j,_,h2⟩:=h;rcases zFB h2 with h|h
 ·exact .inl h.2
 ·exact .inr h.2
theorem zEO.fst (hg:zTk wss i c2=true) (h:zEO wss (two c1 c2 M1 M2) i y):M1 y:=by
 obtain ⟨j,h1,h2⟩:=h;rcases zFB h2 with h|h
 ·exact h.2
 ·rw[h.1,hg] at h1;cases h1
theorem zEO.none (hg:zTk wss i c1=true) (hg2:zTk wss i c2=true) (h:zEO wss (two c1 c2 M1 M2) i y):False:=by
 obtain ⟨j,h1,h2⟩:=h;rcases zFB h2 with h|h
 ·rw[h.1,hg] at h1;cases h1
 ·rw[h.1,hg2] at h1;cases h1
theorem zKC {p:Nat} {w w':World} (h:Chg (two c1 c2 M1 M2 p) w w'):(p=c1∧Chg M1 w w')∨(p=c2∧Chg M2 w w')∨Ext w w':=by
  unfold two at h;cases h1:Nat.beq p c1 with
  | true=>rw[h1] at h;exact .inl ⟨Nat.eq_of_beq_eq_true h1,h⟩
  | false=>
    rw[h1] at h;cases h2:Nat.beq p c2 with
    | true=>rw[h2] at h;exact .inr (.inl ⟨Nat.eq_of_beq_eq_true h2,h⟩)
    | false=>rw[h2] at h;exact .inr (.inr h)
end
abbrev zEL:=Env→Fct
def zOf (ds:List Nat) (Fs:List zEL) (j:Nat) (σ:Env) (w:World):Prop:=∀d F,ds[j]?=some d→Fs[j]?=some F→F σ (σ d) w
def zOh (P:Program) (N:Nat) (ds:List Nat) (Fs:List zEL) (σ:Env) (w:World) (Ms:Nat→Nat→Prop) (all:List (List Nat)) (i:Nat) (o:Oper) (ws:List Nat) (F:zEL):Prop:=
 ∀σ' w',Chg (zEO all Ms i) w w'→(∀t,ds.contains t=false→σ' t=σ t)→(∀j,ws.contains j=true→zOf ds Fs j σ' w')→zCg (Ms i) P N o (fun v w=>F σ' (Go.Eng.valOf o v) w) σ' w'
def zBD (Ms:Nat→Nat→Prop) (i:Nat) (ws:List Nat) (F:zEL):Prop:=∀p,p≠i→ws.contains p=false→∀σ v w w',Chg (Ms p) w w'→F σ v w→F σ v w'
def zIt (ds:List Nat) (ws:List Nat) (F:zEL):Prop:=∀σ1 σ2:Env,(∀j d,ws.contains j=true→ds[j]?=some d→σ2 d=σ1 d)→∀v w,F σ1 v w→F σ2 v w
theorem zBD.eq {Ms:Nat→Nat→Prop} {i:Nat} {ws:List Nat} {u:Value}:zBD Ms i ws (fun _ v _=>v=u):=fun _ _ _ _ _ _ _ _ h=>h
theorem zIt.const {ds ws:List Nat} {G:Fct}:zIt ds ws (fun _=>G):=fun _ _ _ _ _ h=>h
inductive DagStepsX (P:Program) (N:Nat) (ds:List Nat) (Fs:List zEL) (σ:Env) (w:World) (Ms:Nat→Nat→Prop) (all:List (List Nat)):Nat→List Oper→List (List Nat)→List zEL→Prop where
  | nil {i:Nat}:DagStepsX P N ds Fs σ w Ms all i [] [] []
  | cons {i:Nat} {o:Oper} {l:List Oper} {ws:List Nat} {wss:List (List Nat)} {F:zEL} {Gs:List zEL} (s:zBD Ms i ws F) (lc:zIt ds ws F) (h:zOh P N ds Fs σ w Ms all i o ws F) (t:DagStepsX P N ds Fs σ w Ms all (i+1) l wss Gs):DagStepsX P N ds Fs σ w Ms all i (o::l) (ws::wss) (F::Gs)
theorem DagStepsX.get {P:Program} {N:Nat} {ds:List Nat} {Fs:List zEL} {σ:Env} {w:World} {Ms:Nat→Nat→Prop} {all:List (List Nat)}:∀{i:Nat} {l:List Oper} {wss:List (List Nat)} {Gs:List zEL},DagStepsX P N ds Fs σ w Ms all i l wss Gs→∀{j:Nat} {o:Oper},l[j]?=some o→∃ws F,wss[j]?=some ws∧Gs[j]?=some F∧zBD Ms (i+j) ws F∧zIt ds ws F∧zOh P N ds Fs σ w Ms all (i+j) o ws F
  | _,_,_,_,.nil,j,o,h=>by simp at h
  | i,_,_,_,.cons s lc h t,0,o,ho=>by
    simp at ho;subst ho;exact ⟨_,_,rfl,rfl,s,lc,h⟩
  | i,_,_,_,.cons s lc h t,j+1,o,ho=>by
    simp at ho;obtain ⟨ws,F,h1,h2,h3,h5,h4⟩:=DagStepsX.get t ho;exact ⟨ws,F,by simpa using h1,by simpa using h2,by rw[show i+(j+1)=i+1+j from qO];exact h3,h5,by rw[show i+(j+1)=i+1+j from qO];exact h4⟩
def zYR (wss cl:List (List Nat)) (i:Nat):Bool:=(cl.getD i []).all fun c=>(wss.getD i []).contains c || (wss.getD i []).any fun e=>(cl.getD e []).contains c
def zUB (wss cl:List (List Nat)):Bool:=(List.range wss.length).all (zYR wss cl)
theorem zGg {wss cl:List (List Nat)} (h:zUB wss cl=true) {i c:Nat} {ws:List Nat} (hw:wss[i]?=some ws) (hc:(cl.getD i []).contains c=true):c∈ws∨∃e∈ws,(cl.getD e []).contains c=true:=by
 have h1:=List.all_eq_true.1 h i (List.mem_range.2 (zAE hw));have h2:=List.all_eq_true.1 h1 c (by simpa using hc);rw[List.getD_eq_getElem?_getD,hw,Option.getD_some,Bool.or_eq_true] at h2;rcases h2 with h2|h2
 ·exact .inl (by simpa using h2)
 ·obtain ⟨e,he,h3⟩:=List.any_eq_true.1 h2;exact .inr ⟨e,he,h3⟩
theorem zHM {P:Program} {N:Nat} {Q:zFm} {σ:Env} {w:World} {id:Nat} {l:List Oper} (Ms:Nat→Nat→Prop) (n:Nat) (ds:List Nat) (wss cl:List (List Nat)) (Fs:List zEL) {Gs:List zEL} (hG:Fs=Gs) (hC:zUB wss cl=true) (hm:P.follows .mixedOrders=true) (hB:zHD N 0 (l.take n) ds wss=true) (hn:zGU ds=true)
    (hT:(decide (n<l.length) && Region.sinkB .any l.toArray n && Region.chainB .any l.toArray n && Region.seqB .any l.toArray (l.length - n) n (zER n l.length))=true)
    (steps:∀w1,Ext w w1→DagStepsX P N ds Fs σ w1 Ms cl 0 (l.take n) cl Gs)
    (k:∀σ' w1 w',Ext w w1→Chg (fun y=>∃j,Ms j y) w1 w'→(∀t,ds.contains t=false→σ' t=σ t)→(∀j,zOf ds Fs j σ' w')→WpL P N l.toArray (Q .normal) Q (l.drop n) σ' w'):Wp P N (.region id l.toArray true) Q σ w:=by
  intro dz a ha he;have eQ:zGE dz N (thn (Q .normal) Q)=zGE dz N Q:=by funext e a w;cases e<;>rfl
  refine wp_region_any hm ?_;obtain ⟨w1,bg⟩:∃w1:World,w1={w with drawn:=w.drawn+1}:=⟨_,rfl⟩;have bk:Ext w w1:=by rw[bg];exact zFf w
  rw[←bg];have a5:=steps w1 bk;rw[←hG] at a5;simp only[Bool.and_eq_true,decide_eq_true_eq] at hT;obtain ⟨⟨⟨bs,hs⟩,hc⟩,ba⟩:=hT;have bq:ds.length=n:=by rw[zIj hB];simp;omega
  have bz:∀(m:Nat) (aa:Array Bool) (a:Act) (w':World),(aa.toList.take n).count false=m→HeadInv .any l.toArray n aa→Ok dz N a→Chg (fun y=>∃j,aa.getD j false=true∧Ms j y) w1 w'→(∀t,ds.contains t=false→env a t=σ t)→(∀j,aa.getD j false=true→zOf ds Fs j (env a) w')→
      wpAny P .any l.toArray (zGE dz N Q) (m+(l.length - n)) aa a w':=by
    intro m
    induction m with
    | zero=>
      intro aa a w' bp aj ha hx hu hh;have bc:aa.size=l.length:=by simpa using aj.size
      have hl:aa=zER n l.length:=by
        apply Array.ext';rw[zER];have:=zOP (l:=aa.toList) (n:=n) (by simp;omega) bp (by
          intro t h1 h2;have a7:t<aa.size:=by simpa using h2
          have:=aj.tail t h1 (by simpa[bc] using a7);simp only[Array.getD_eq_getD_getElem?,Array.getElem?_eq_getElem a7,Option.getD_some] at this;simp[a7,this])
        rw[this];simp[bc]
      rw[Nat.zero_add];have h1:=k (env a) w1 w' bk (hx.mono fun y _ h=>by obtain ⟨j,_,h⟩:=h;exact ⟨j,h⟩) hu (fun j d F hd hF=>by
        have hj:j<n:=by have:=zAE hd;omega
        exact hh j (by
          rw[hl,zER];simp[Array.getD_eq_getD_getElem?,List.getElem?_append_left,hj]) d F hd hF) dz a ha rfl
      rw[eQ] at h1;have:=wpAny_of_seq (P:=P) (md:=.any) (ops:=l.toArray) (Q':=zGE dz N Q) (l.drop n) n aa a w' (fun j=>by simp[List.getElem?_drop]) (by rw[List.length_drop,hl];exact ba) h1
      rwa [List.length_drop] at this
    | succ m ih=>
      intro aa a w' hcm aj ha hx hu hh;have bc:aa.size=l.length:=by simpa using aj.size
      obtain ⟨i0,au,a2⟩:∃i,i<n∧aa.getD i true=false:=by
        have:0<(aa.toList.take n).count false:=qO
        rw[List.count_pos_iff] at this;obtain ⟨i,hi,he⟩:=List.getElem_of_mem this;have ap:i<n:=by simp at hi;omega
        refine ⟨i,ap,?_⟩;have ar:i<aa.size:=by simp at hi;omega
        simp only[Array.getD_eq_getD_getElem?,Array.getElem?_eq_getElem ar,Option.getD_some];simpa using he
      rw[show m+1+(l.length - n)=(m+(l.length - n))+1 by omega];refine ⟨fun hr=>?_,fun i hi=>?_⟩
      · exfalso;have a3:∀i,i<n→aa.getD i true=true:=by
          intro i
          induction i using Nat.strongRecOn with
          | _ i ihi=>
            intro hi;cases hv:aa.getD i true with
            | true=>rfl
            | false=>
              exfalso;obtain ⟨o,ho⟩:=zAJ (l:=l) (i:=i) qO;have a0:(l.take n)[i]?=some o:=by rw[List.getElem?_take_of_lt hi];exact ho
              obtain ⟨d,ws,_,_,h3⟩:=zDb hB a0;have:i∈Region.ready .any l.toArray aa:=by
                refine mem_ready.2 ⟨hv,o,by simpa using ho,fun e he hb=>?_⟩;simp only[zFQ,Bool.and_eq_true,Array.all_eq_true_iff_forall_mem,Bool.or_eq_true,Bool.not_eq_true',Nat.zero_add] at h3;have:=(h3.1.1.2 e he).resolve_left (by simp[hb]);have bu:e.on<i:=by simpa[Nat.blt_eq] using this
                have h4:=ihi e.on bu qO;have hj:e.on<aa.size:=qO
                simpa only[Array.getD_eq_getD_getElem?,Array.getElem?_eq_getElem hj,Option.getD_some] using h4
              rw[hr] at this;cases this
        rw[a3 i0 au] at a2;cases a2
      · have ap:i<n:=by
          rcases Nat.lt_or_ge i n with h|h
          · exact h
          · exact absurd hi (tail_waits hs hc (by simpa using bs) aj _ i0 rfl au a2 i h)
        obtain ⟨h1,o,h2,h3⟩:=mem_ready.1 hi;have ar:i<aa.size:=qO
        have ho:l[i]?=some o:=by simpa using h2
        have a0:(l.take n)[i]?=some o:=by rw[List.getElem?_take_of_lt ap];exact ho
        obtain ⟨d,ws,hd,bx,h4⟩:=zDb hB a0;obtain ⟨bn,F,bd,hF,ao,a6,ag⟩:=a5.get a0;simp only[Nat.zero_add] at ag ao;simp only[zFQ,Bool.and_eq_true,List.all_eq_true,Array.any_eq_true',Array.all_eq_true_iff_forall_mem,Bool.or_eq_true,Bool.not_eq_true',Nat.zero_add] at h4;obtain ⟨⟨⟨ab,_⟩,an⟩,a8⟩:=h4;have a8:o.guard=none:=by simpa using a8
        have bi:∀j,aa.getD j false=true→∀c,(cl.getD j []).contains c=true→aa.getD c false=true:=by
          intro j
          induction j using Nat.strongRecOn with
          | _ j ihj=>
            intro ae c hc;have bo:j<n:=by
              rcases Nat.lt_or_ge j n with h|h
              · exact h
              · rcases Nat.lt_or_ge j l.length with h'|h'
                · have:=getD_both (aj.tail j h (by simpa using h'));rw[this] at ae;cases ae
                · simp[Array.getElem?_eq_none (show aa.size≤j by omega)] at ae
            obtain ⟨oc,bj⟩:=zAJ (l:=l) (i:=j) qO;have a4:(l.take n)[j]?=some oc:=by rw[List.getElem?_take_of_lt bo];exact bj
            obtain ⟨dc,bw,_,bf,h5⟩:=zDb hB a4;simp only[zFQ,Bool.and_eq_true,List.all_eq_true,Array.any_eq_true',Array.all_eq_true_iff_forall_mem,Bool.or_eq_true,Bool.not_eq_true',Nat.zero_add] at h5;have ac:∀e'∈bw,aa.getD e' false=true∧e'<j:=by
              intro e' ai;obtain ⟨e,he,az,bb⟩:=h5.1.2 e' ai;have b5:e.on=e':=Nat.eq_of_beq_eq_true bb;have h6:=aj.closed j oc (by simpa using bj) ae e he az;have h7:=(h5.1.1.2 e he).resolve_left (by simp[az]);rw[b5] at h6 h7;exact ⟨h6,by simpa[Nat.blt_eq] using h7⟩
            rcases zGg hC bf hc with h6|⟨e',ai,h6⟩
            · exact (ac c h6).1
            · exact ihj e' (ac e' ai).2 (ac e' ai).1 c h6
        have ah:∀j,aa.getD j false=true→zTk cl i j=false:=by
          intro j ae;cases hg:zTk cl i j with
          | false=>rfl
          | true=>
            exfalso;simp only[zTk,Bool.or_eq_true] at hg;rcases hg with hg|hg
            · have:j=i:=Nat.eq_of_beq_eq_true hg;rw[this,getD_both h1] at ae;cases ae
            · have:=bi j ae i hg;rw[getD_both h1] at this;cases this
        have aq:∀j,bn.contains j=true→aa.getD j false=true:=by
          intro j hj;have am:(cl.getD i []).contains j=true:=by rw[List.getD_eq_getElem?_getD,bd,Option.getD_some];exact hj
          have ac:∀e'∈ws,aa.getD e' false=true:=by
            intro e' ai;obtain ⟨e,he,az,bb⟩:=an e' ai;have:e.on=e':=Nat.eq_of_beq_eq_true bb;exact this▸h3 e he az
          rcases zGg hC bx am with h6|⟨e',ai,h6⟩
          · exact ac j h6
          · exact bi e' (ac e' ai) j h6
        have hH:∀j,bn.contains j=true→zOf ds Fs j (env a) w':=fun j hj=>hh j (aq j hj);have al:∀w2,Chg (Ms i) w' w2→Chg (fun y=>∃j,(aa.setIfInBounds i true).getD j false=true∧Ms j y) w1 w2:=by
          intro w2 ax;have hg:(aa.setIfInBounds i true).getD i false=true:=by simp[Array.getD_eq_getD_getElem?,ar]
          refine Chg.step (hx.mono fun y _ h=>?_) ax (fun y _ h=>⟨i,hg,h⟩);obtain ⟨j,h5,h6⟩:=h;by_cases hij:j=i
          · exact ⟨i,hg,hij▸h6⟩
          · exact ⟨j,by rw[getD_set_ne _ (Ne.symm hij)];exact h5,h6⟩
        have a9:∀v w2,Chg (Ms i) w' w2→F (env a) (Go.Eng.valOf o v) w2→wpAny P .any l.toArray (zGE dz N Q) (m+(l.length - n)) (aa.setIfInBounds i true) (a.put o.dst v) w2:=by
          intro v w2 ax hv;have ad:(∀t,t≠d→env (a.put o.dst v) t=env a t)∧env (a.put o.dst v) d=Go.Eng.valOf o v:=by
            cases hod:o.dst with
            | none=>
              rw[hod] at ab;have b1:N≤d:=Nat.le_of_ble_eq_true ab;refine ⟨fun t _=>rfl,?_⟩;simp only[Go.Eng.valOf,hod];show a.tmps.getD d undef=undef;have:a.tmps.size≤d:=by rw[ha.size];exact b1
              simp[Array.getElem?_eq_none this]
            | some d'=>
              rw[hod] at ab;simp only[Bool.and_eq_true] at ab;have bt:d'=d:=Nat.eq_of_beq_eq_true ab.1;have bv:d<N:=by simpa[Nat.blt_eq] using ab.2
              subst bt;rw[zDQ ha bv v];refine ⟨fun t ht=>?_,?_⟩
              · have:Nat.beq t d'=false:=by cases hb:Nat.beq t d';rfl;exact absurd (Nat.eq_of_beq_eq_true hb) ht
                simp[upd,this]
              · simp[upd,Go.Eng.valOf,hod]
          refine ih _ _ _ ?_ (aj.set hi ap) (ha.put _ _) (al w2 ax) ?_ ?_
          · have hl:aa.toList[i]?=some false:=by
              simp only[Array.getD_eq_getD_getElem?,Array.getElem?_eq_getElem ar,Option.getD_some] at h1;simp[ar,h1]
            have:=zFn (l:=aa.toList) ap (by simp;omega) hl;rw[Array.toList_setIfInBounds];omega
          · intro t ht;rw[ad.1 t (fun h=>by
              subst h;have:=List.mem_of_getElem? hd;simp[this] at ht),hu t ht]
          · intro j hj d' F' af ay;by_cases hij:j=i
            · subst hij;rw[hd] at af;cases af;rw[hF] at ay;cases ay;rw[ad.2];refine a6 (env a) _ (fun j' d' am af=>ad.1 d' fun he=>?_) _ _ hv;have:=zCN hn (he▸af) hd;subst this;have:=aq j' am;rw[getD_both h1] at this;cases this
            · have b7:d'≠d:=by
                intro h;subst h;exact hij (zCN hn af hd)
              rw[ad.1 d' b7];rw[getD_set_ne _ (Ne.symm hij)] at hj;have h6:=hh j hj d' F' af ay;have b0:j<n:=by have:=zAE af;omega
              obtain ⟨oj,b6⟩:=zAJ (l:=l) (i:=j) qO;have av:(l.take n)[j]?=some oj:=by rw[List.getElem?_take_of_lt b0];exact b6
              obtain ⟨dj,wsj,_,b4,h5⟩:=zDb hB av;obtain ⟨ak,Fj,aw,bh,bm,ae,_⟩:=a5.get av;rw[ay] at bh;cases bh;simp only[Nat.zero_add] at bm;have a1:ak.contains i=false:=by
                cases a1:ak.contains i with
                | false=>rfl
                | true=>
                  exfalso;have:=ah j hj;have b2:cl.getD j []=ak:=by simp[aw]
                  simp only[zTk,b2,a1,Bool.or_true] at this;cases this
              refine ae (env a) _ (fun j' d' am af=>ad.1 d' fun he=>?_) _ _ (bm i (Ne.symm hij) a1 _ _ _ _ ax h6);have:=zCN hn (he▸af) hd;subst this;rw[a1] at am;cases am
        have b3:Chg (zEO cl Ms i) w1 w':=hx.mono fun y _ h=>by
          obtain ⟨j,h5,h6⟩:=h;exact ⟨j,ah j h5,h6⟩
        have br:=ag (env a) w' b3 hu hH;have hw:Region.wanted o (yielded l.toArray a.tmps)=true:=by simp[Region.wanted,a8]
        unfold wpOp;simp only[h2,hw,if_true];exact Or.inl (br _ a ha rfl _ _ a9)
  have be:HeadInv .any l.toArray n (Array.replicate l.toArray.size false):=
    ⟨qP,fun j oj _ hl=>(by rw[getD_replicate_false] at hl;cases hl),fun t _ ht=>getD_in (by simpa using ht) (getD_replicate_false _ _)⟩
  have h1:=bz n (Array.replicate l.toArray.size false) a w1 (by simp;omega) be ha (Chg.refl _ _) (fun t _=>by rw[he]) (fun j hj=>by rw[getD_replicate_false] at hj;cases hj);have e3:n+(l.length - n)=l.toArray.size:=by simp;omega
  rw[e3] at h1;exact h1
end Go.Eng
namespace Go.Proofs
open Go Go.Eng Go.Sort
set_option maxRecDepth 100000
def zHP (E N:Value) (vs:List Value) (b:Nat):Prop:=E.ownBlock=some b∨N.ownBlock=some b∨∃(i:Nat) (v:Value),vs[i]?=some v∧v.ownBlock=some b
structure OutSt (w:World) (base:Nat) (E N:Value) (vs:List Value) (acc:List Int) (rows:List (List Int)):Prop where
 e:w.ownsRow base TDI 1 E acc.length (acc.map (Value.int .i64))
 n:LSt zDf TDI 1 w base N vs (rows.map zKY)
 en:∀b,E.ownBlock=some b→N.ownBlock≠some b
 ei:∀(i:Nat) v b,vs[i]?=some v→v.ownBlock=some b→E.ownBlock≠some b
theorem OutSt.typ {w:World} {base b T:Nat} {E N:Value} {vs:List Value} {acc:List Int} {rows:List (List Int)} {c:Array Value} (h:OutSt w base E N vs acc rows) (hB:Blk w b c T) (h1:T≠TDI) (h2:T≠zDf):¬zHP E N vs b:=by
 have aa:∀{e n:Nat} {v:Value} {xs:List Value},w.ownsRow base e 1 v n xs→v.ownBlock=some b→T=e:=by
  intro e n v xs ho hv;rcases ho.2 with ⟨rfl,_⟩|⟨g,cap,ab,rfl,_,hg,_⟩
  ·cases hv
  ·have ad:g=b:=Option.some.inj hv;subst ad;unfold Blk at hB;have ac:w.heap[g]?=some (.cells ab e (0,0)):=hg;rw[ac] at hB;simp at hB;exact hB.2.symm
 rintro (h3|h3|⟨i,v,h3,h4⟩)
 ·exact h1 (aa h.e h3)
 ·exact h2 (aa h.n.o h3)
 ·obtain ⟨p,hp⟩:=zAJ (l:=rows.map zKY) (i:=i) (by have:=zAE h3;have:=h.n.len;omega);exact h1 (aa (h.n.inn i v p h3 hp) h4)
theorem OutSt.start (w:World) (base:Nat):OutSt w base (.slice none 0 0) (.slice none 0 0) [] [] []:=
 ⟨World.ownsRow_nil _ _ _ _,LSt.start _ _ _ _ _,(fun b h=>by cases h),fun i v b h=>by simp at h⟩
theorem OutSt.lt {w:World} {base:Nat} {E N:Value} {vs:List Value} {acc:List Int} {rows:List (List Int)} (h:OutSt w base E N vs acc rows) {b:Nat} (hb:zHP E N vs b):base≤b∧b<w.heap.size:=by
 rcases hb with h1|h1|⟨i,v,h1,h2⟩
 ·exact h.e.lt b h1
 ·exact h.n.o.lt b h1
 ·obtain ⟨p,hp⟩:=zAJ (l:=rows.map zKY) (i:=i) (by have:=zAE h1;have:=h.n.len;omega);exact (h.n.inn i v p h1 hp).lt b h2
theorem OutSt.chg {M:Nat→Prop} {w w':World} {base:Nat} {E N:Value} {vs:List Value} {acc:List Int} {rows:List (List Int)} (h:OutSt w base E N vs acc rows) (c:Chg M w w') (hM:∀b,zHP E N vs b→¬M b):OutSt w' base E N vs acc rows:=
 ⟨zAn h.e c fun b hb=>hM b (.inl hb),⟨zAn h.n.o c fun b hb=>hM b (.inr (.inl hb)),h.n.len,fun i v p hv hp=>zAn (h.n.inn i v p hv hp) c fun b hb=>hM b (.inr (.inr ⟨i,v,hv,hb⟩)),h.n.apo⟩,h.en,h.ei⟩
theorem OutSt.ext {w w':World} {base:Nat} {E N:Value} {vs:List Value} {acc:List Int} {rows:List (List Int)} (h:OutSt w base E N vs acc rows) (c:Ext w w'):OutSt w' base E N vs acc rows:=h.chg c fun _ _ f=>f
theorem OutSt.push {w w':World} {base bu m:Nat} {E E' N N' u:Value} {vs:List Value} {acc row:List Int} {rows:List (List Int)} {y:Int} (h:OutSt w base E N vs acc rows) (hu:w.ownsRow bu TDI 1 u m (row.map (Value.int .i64))) (hm:m=row.length) (hb:base≤bu) (hbu:∀b,zHP E N vs b→b<bu)
  (C:Chg (fun b=>N.ownBlock=some b∨E.ownBlock=some b) w w') (ON:w'.ownsRow base zDf 1 N' (rows.length+1) (vs++[u])) (WN:∀k,N'.ownBlock=some k→N.ownBlock=some k∨w.heap.size≤k)
  (OE:w'.ownsRow base TDI 1 E' (acc.length+1) ((acc++[y]).map (Value.int .i64))) (WE:∀k,E'.ownBlock=some k→E.ownBlock=some k∨w.heap.size≤k) (ap:∀b,N'.ownBlock=some b→E'.ownBlock≠some b):OutSt w' base E' N' (vs++[u]) (acc++[y]) (rows++[row]):=by
 have ae:=fun b (aa:u.ownBlock=some b)=>hu.lt b aa;have ab:∀(i:Nat) v,(vs++[u])[i]?=some v→vs[i]?=some v∨(i=vs.length∧v=u):=fun i v hv=>by
  rcases Nat.lt_or_ge i vs.length with h1|h1
  ·left;rwa [List.getElem?_append_left h1] at hv
  ·right;rw[List.getElem?_append_right h1] at hv;have h2:=zAE hv;simp at h2;rw[show i - vs.length=0 by omega] at hv;simp at hv;exact ⟨qO,hv.symm⟩
 have ad:∀(i:Nat) v b,(vs++[u])[i]?=some v→v.ownBlock=some b→N.ownBlock≠some b∧E.ownBlock≠some b∧b<w.heap.size:=fun i v b hv aa=>by
  rcases ab i v hv with h1|⟨_,rfl⟩
  ·exact ⟨fun e=>h.n.apo i v b h1 aa e,h.ei i v b h1 aa,(h.lt (.inr (.inr ⟨i,v,h1,aa⟩))).2⟩
  ·have:=ae b aa;exact ⟨fun e=>by have:=hbu b (.inr (.inl e));omega,fun e=>by have:=hbu b (.inl e);omega,this.2⟩
 have ac:∀(i:Nat) v b,(vs++[u])[i]?=some v→v.ownBlock=some b→N'.ownBlock≠some b∧E'.ownBlock≠some b:=fun i v b hv aa=>by
  obtain ⟨h1,h2,h3⟩:=ad i v b hv aa;exact ⟨fun e=>by rcases WN b e with h4|h4;exact h1 h4;omega,fun e=>by rcases WE b e with h4|h4;exact h2 h4;omega⟩
 refine ⟨by rw[List.length_append];exact OE,⟨by simpa using ON,by simp[h.n.len],fun i v p hv hp=>?_,fun i v b hv aa=>(ac i v b hv aa).1⟩,fun b aa e=>ap b e aa,fun i v b hv aa=>(ac i v b hv aa).2⟩;rw[List.map_append] at hp;rcases ab i v hv with h1|⟨h1,rfl⟩
 ·rw[List.getElem?_append_left (by have:=zAE h1;have:=h.n.len;omega)] at hp;exact zAn (h.n.inn i v p h1 hp) C fun b aa hC=>by
   obtain ⟨h2,h3,_⟩:=ad i v b hv aa;rcases hC with h4|h4
   ·exact h2 h4
   ·exact h3 h4
 ·have hl:=h.n.len;rw[h1,hl,List.getElem?_append_right (Nat.le_refl _),Nat.sub_self] at hp;simp[zKY] at hp;subst hp;rw[hm] at hu;exact zFM (zAn hu C fun b aa hC=>by
   obtain ⟨h2,h3,_⟩:=ad i v b hv aa;rcases hC with h4|h4
   ·exact h2 h4
   ·exact h3 h4) hb
theorem zCV {c1 c2 i e hs:Nat} {M1 M2:Nat→Prop} {cc:Array Value} {ws:List Nat} (h1:∀y,M1 y→y<hs) (h2:∀y,M2 y→y<hs):zBD (two c1 c2 M1 M2) i ws (fun _=>zEF e cc hs):=by
 rintro p _ _ σ v w w' x ⟨b,h3,h4,h5⟩;exact ⟨b,h3,x.keep (fun h=>by rcases zFB h with h|h;have:=h1 b h.2;omega;have:=h2 b h.2;omega) h4,h5⟩
theorem zGk {c1 c2 base e size n hs:Nat} {M1 M2:Nat→Prop} {xs:List Value} {old:Value} {ws:List Nat} (h:∀k,(old.ownBlock=some k∨hs≤k)→¬M2 k):zBD (two c1 c2 M1 M2) c1 ws (fun _=>zDI base e size n xs old hs):=by
 rintro p hp _ σ v w w' x ⟨h1,h2,h3⟩;rcases zKC x with h4|h4|h4
 ·exact absurd h4.1 hp
 ·exact ⟨h1,zAn h2 h4.2 (fun k hk=>h k (h3 k hk)),h3⟩
 ·exact ⟨h1,zAg h2 h4,h3⟩
theorem zGj {c1 c2 base e size n hs t:Nat} {M1 M2:Nat→Prop} {xs:List Value} {old:Value} {ws:List Nat} (hw:ws.contains c1=true):zBD (two c1 c2 M1 M2) c2 ws (fun s v w=>zDI base e size n xs old hs v w∧∀b,(s t).ownBlock=some b→v.ownBlock≠some b):=by
 rintro p hp aa σ v w w' x ⟨⟨h1,h2,h3⟩,h4⟩;rcases zKC x with h5|h5|h5
 ·rw[h5.1,hw] at aa;cases aa
 ·exact absurd h5.1 hp
 ·exact ⟨⟨h1,zAg h2 h5,h3⟩,h4⟩
theorem zNT {M:Nat→Prop} {P:Program} {N:Nat} {o:Oper} {R R':Fct} {σ:Env} {w:World} (h:zCg M P N o R σ w) (hr:∀v w,R v w→R' v w):zCg M P N o R' σ w:=fun dz a ha he Q K hK=>h dz a ha he Q K fun v w2 hx2 h2=>hK v w2 hx2 (hr v w2 h2)
theorem zHK {M:Nat→Prop} {P:Program} {N:Nat} {o:Oper} {σ:Env} {w:World} {b1 e1 s1 n1 b2 e2 s2 n2 hs:Nat} {xs ys:List Value} {old old' u:Value} (h:zDI b1 e1 s1 n1 ys old' hs u w) (hd:zCg M P N o (zDI b2 e2 s2 n2 xs old w.heap.size) σ w) (h4:hs≤w.heap.size) (hap:∀k,(old'.ownBlock=some k∨hs≤k)→old.ownBlock≠some k) (ho:∀v,Go.Eng.valOf o v=v:=by intro v;rfl) :
  zCg M P N o (fun v w=>zDI b2 e2 s2 n2 xs old hs (Go.Eng.valOf o v) w∧∀b,u.ownBlock=some b→(Go.Eng.valOf o v).ownBlock≠some b) σ w:=by
 refine zNT hd ?_;rintro v w2 ⟨h1,h2,h3⟩;rw[ho v];refine ⟨⟨h1,h2,fun k hk=>(h3 k hk).imp id (fun h=>Nat.le_trans h4 h)⟩,fun k hk hv=>?_⟩;obtain ⟨_,h5,h6⟩:=h;rcases h3 k hv with h7|h7
 ·exact hap k (h6 k hk) h7
 ·have:=(h5.lt k hk).2;omega
theorem zFN {w:World} {b base n:Nat} {row:List Int} (h:Blk w b (row.map (Value.int .i64)).toArray TDI) (hb:base≤b) (hn:row.length=n) (hl:n≤9223372036854775807:=by omega):w.ownsRow base TDI 1 (.slice (some ⟨b,0,none⟩) n n) n (row.map (Value.int .i64)):=
 ⟨by simp[hn],.inr ⟨b,n,_,rfl,hb,h,Nat.le_refl _,hl,by simp[hn],by simp only[Nat.mul_one];exact List.take_of_length_le (by simp[hn])⟩⟩
theorem OutSt.intss {w:World} {base:Nat} {E N:Value} {vs:List Value} {acc:List Int} {rows:List (List Int)} (h:OutSt w base E N vs acc rows):zDT w N rows:=by
 have hl:vs.length=rows.length:=by simpa using h.n.len
 refine ⟨vs,?_,hl,fun i u l hu hl=>?_⟩
 ·have ho:=h.n.o;rw[show vs=(vs.map fun x=>[x]).flatten by simp[List.flatten_eq_flatMap,List.flatMap_map]] at ho;exact zCz ho (by intro r hr;simp only[List.mem_map] at hr;obtain ⟨x,_,rfl⟩:=hr;rfl) (by simp[hl]) qD
 ·exact zEe (h.n.inn i u (zKY l) hu (by rw[List.getElem?_map,hl];rfl)) rfl
end Go.Proofs
namespace Go.Proofs
open Go Go.Eng Go.Sort
set_option maxRecDepth 100000
theorem zEH {w:World} {b:Nat} {l:List Int} {T:Nat} (h:Blk w b (l.map (Value.int .i64)).toArray T) {i:Nat} {x:Int} (hx:l[i]?=some x):w.cell? ⟨b,0+i,none⟩=some (.int .i64 x):=h.cell (by simp[hx])
theorem zNr {p:List Int} {t:Nat} {n:Nat} (hl:p.length=n) (ht:t<n):p[t]?=some (ptD p ((t:Nat):Int)):=by
 have h1:p[t]?=some (p[t]'(by omega)):=List.getElem?_eq_getElem _;rw[h1,zCR h1]
theorem zTu {w:World} {be bh bg c:Nat} {T T':Nat} (he:Blk w be #[.int .i64 (-1)] T) (hh:Blk w bh #[.slice (some ⟨bg,0,none⟩) c c] T') (hg:Blk w bg ((List.replicate c (-1:Int)).map (Value.int .i64)).toArray TDI) (hc:c≤60000):zBV w ⟨0,[-1],[List.replicate c (-1)]⟩ [.int .i64 0,.slice (some ⟨be,0,none⟩) 1 1,.slice (some ⟨bh,0,none⟩) 1 1]:=by
  refine ⟨_,1,_,1,rfl,zEv [-1] he qP qP,[.slice (some ⟨bg,0,none⟩) c c],⟨some ⟨bh,0,none⟩,1,rfl,show (1:Nat)≤9223372036854775807 by decide,Nat.le_refl 1,.inr ⟨bh,0,rfl,?_⟩⟩,rfl,?_⟩
  · intro i r hr j u hu;rcases i with _|i<;>simp at hr;subst hr;cases j with
    | zero=>simp at hu;subst hu;exact hh.cell rfl
    | succ j=>simp at hu
  · intro i u l hu hl;rcases i with _|i<;>simp at hu hl;subst hu;subst hl;exact zFh hg qP
theorem zHr {E E' N N':Value} {vs:List Value} {b bq n4 c:Nat} (h:¬zHP E N vs b∧b≠bq) (hb:b<n4) (DN:∀k,N'.ownBlock=some k→N.ownBlock=some k∨n4≤k) (DE:∀k,E'.ownBlock=some k→E.ownBlock=some k∨n4≤k) (ho:zHP E' N' (vs++[.slice (some ⟨bq,0,none⟩) c c]) b):False:=by
 rcases ho with h1|h1|⟨i,v,h1,h2⟩
 ·rcases DE b h1 with h3|h3
  ·exact h.1 (.inl h3)
  ·omega
 ·rcases DN b h1 with h3|h3
  ·exact h.1 (.inr (.inl h3))
  ·omega
 ·rcases zCD h1 with h3|⟨_,h3⟩
  ·exact h.1 (.inr (.inr ⟨i,v,h3,h2⟩))
  ·subst h3;cases h2;exact h.2 rfl
theorem zDs {α:Type} {l:List α} {k:Nat} {x:α} (h:l[k]?=some x):l.take (k+1)=l.take k++[x]:=by rw[List.take_add_one,h];rfl
theorem CanP.st_le {n c:Nat} {d:Dfa} {p:List Int} {rows:List (List Int)} {row st:List Int} (h:CanP n c d p rows row st):st.length≤n:=by
 have hd:(st.map Int.toNat).Nodup:=by
  rw[List.nodup_iff_pairwise_ne,List.pairwise_iff_getElem];intro i j hi hj hij he;simp only[List.length_map] at hi hj;simp only[List.getElem_map] at he;have a:=List.getElem?_eq_getElem hi;have b:=List.getElem?_eq_getElem hj;have h1:=h.sl _ (List.mem_of_getElem? a);have h2:=h.sl _ (List.mem_of_getElem? b);have e:st[i]=st[j]:=qO
  have:=h.inj i j _ _ a b (by rw[e]);omega
 have:=zEf (m:=List.range n) hd fun x hx=>by
  obtain ⟨s,hs,rfl⟩:=List.mem_map.1 hx;have:=h.sl s hs;exact List.mem_range.2 qO
 simpa using this
def zCu (m:Nat) (w:World) (d:Dfa) (vs:List Value):Prop:=∀(M:Nat→Prop) w',Chg M w w'→(∀b,M b→b<m∨∃cs,Blk w b cs 34)→zBV w' d vs
theorem zCu.at' {m:Nat} {w:World} {d:Dfa} {vs:List Value} (h:zCu m w d vs):zBV w d vs:=h zAe w (Chg.refl _ _) fun _ f=>f.elim
theorem zCu.chgT {M:Nat→Prop} {m:Nat} {w w':World} {d:Dfa} {vs:List Value} (h:zCu m w d vs) (c:Chg M w w') (hM:∀b,M b→b<m∨∃cs,Blk w b cs 34):zCu m w' d vs:=fun M2 w2 c2 h2=>
 h (fun b=>M b∨(M2 b∧b<w.heap.size∧¬M b)) w2 (Chg.step (c.mono fun b _ hb=>.inl hb) c2 fun b hl hm=>by by_cases hn:M b;exact .inl hn;exact .inr ⟨hm,hl,hn⟩) fun b hb=>by
  rcases hb with hb|⟨hm,hl,hn⟩
  ·exact hM b hb
  ·rcases h2 b hm with h3|⟨cs,h3⟩
   ·exact .inl h3
   ·exact .inr ⟨cs,(c.blk b hl hn).symm.trans h3⟩
theorem zCu.chg {M:Nat→Prop} {m:Nat} {w w':World} {d:Dfa} {vs:List Value} (h:zCu m w d vs) (c:Chg M w w') (hM:∀b,M b→b<m):zCu m w' d vs:=h.chgT c fun b hb=>.inl (hM b hb)
theorem zCu.low {m m':Nat} {w:World} {d:Dfa} {vs:List Value} (h:zCu m w d vs) (hm:m'≤m):zCu m' w d vs:=fun M w' c hM=>h M w' c fun b hb=>(hM b hb).imp (fun h=>qO) id
theorem zMv {M:Nat→Prop} {m b:Nat} {w:World} {cs:Array Value} {T:TypeId} (hM:∀b,M b→b<m∨∃cs,Blk w b cs 34) (hb:m≤b) (hB:Blk w b cs T) (hT:T≠34):¬M b:=fun h=>by
 rcases hM b h with h1|⟨c2,h1⟩
 ·omega
 ·unfold Blk at hB h1;rw[h1] at hB;simp at hB;exact hT hB.2.symm
theorem zWq (w0:World) (n c:Nat) (d:Dfa) (dv:List Value) (ok:OkD n c d) (h:zBV w0 d dv) (hn:n≤20000∧1≤c∧c≤16) (hac:∀x∈d.accept,x<2147483648) :
  Ret prog 37 #[.agg dv.toArray] w0 fun r w=>(∃C cv,zCc c (beh d d.start) C∧C.next.length≤n∧(∀x∈C.accept,x<2147483648)∧r=.agg cv.toArray∧zCu w0.heap.size w C cv)∧Ext w0 w:=by
 obtain ⟨dv0,b9⟩:∃x,x=dv:=⟨_,rfl⟩;have b6:=h;rw[←b9] at b6;obtain ⟨aa,ac,na,nc,rfl,co,ci⟩:=h;have d6:=ok.nl;have ef:=ok.al;have da:=ok.st;rw[ef,d6] at b9⊢;rw[ef] at co;rw[d6] at ci;have fh:∀w,Ext w0 w→zBV w d [.int .i64 d.start,.slice aa n ac,.slice na n nc]:=fun w e=>by rw[b9] at b6;exact b6.ext e
 obtain ⟨nb,no,rfl,fa⟩:=zBi (n:=n) ci qO;obtain ⟨ab,ao,rfl,d7⟩:=zAy (n:=n) co qO;obtain ⟨s0,eo⟩:=Int.eq_ofNat_of_zero_le da.1;have fe:ab<w0.heap.size:=World.block_lt_of_cell? w0 _ (d7 s0 _ (zIq ok (show s0<n by omega)));have bt:∀(s:Nat),s<n→∃row ra rc,d.next[s]?=some row∧row.length=c∧w0.cell? ⟨nb,no+s,none⟩=some (.slice ra c rc)∧zBa w0 (.slice ra c rc) row:=fun s hs=>by
  obtain ⟨row,a5⟩:=zAJ (l:=d.next) (i:=s) qO;have db:=(ok.row row (List.mem_of_getElem? a5)).1;obtain ⟨ra,rc,h1,h2⟩:=fa s row a5;rw[db] at h1 h2;exact ⟨row,ra,rc,a5,db,h1,h2⟩
 obtain ⟨fn,ep,ej,ee,fd,bz,f6⟩:=bt 0 qO;refine qR func37 rfl ntmps37 rfl (fun E=>(zAA (zBY (v:=(.agg #[(I6 d.start),(.slice (some ⟨ab,ao,none⟩) n ac),(.slice (some ⟨nb,no,none⟩) n nc)])) (c:=#[(I6 d.start),(.slice (some ⟨ab,ao,none⟩) n ac),(.slice (some ⟨nb,no,none⟩) n nc)]) qD rfl rfl ?_)));intro bd wd Nd;have Fd:=Nd.ge E;replace E:=E.ext Nd.ext;have Bd:=Nd.blk;refine zBB (c:=#[(I6 0),(.slice none 0 0),(.slice none 0 0)]) qD zBn rfl ?_;intro bo wo No;have Fo:=No.ge E;have Oo_bd:=No.lt Bd;replace Bd:=No.keep Bd;replace E:=E.ext No.ext;have Bo:=No.blk;refine zAB (zAA (qV (zAP (vs:=[(I6 d.start),(.slice (some ⟨ab,ao,none⟩) n ac),(.slice (some ⟨nb,no,none⟩) n nc)]) rfl zBC zAi rfl (Bd.cells rfl)) ?_));have e1:=Bo.lt;have f5:=Bd.lt;refine qE rfl (zAU (vs:=[(.agg #[(I6 d.start),(.slice (some ⟨ab,ao,none⟩) n ac),(.slice (some ⟨nb,no,none⟩) n nc)])]) func73 kQ kQ rfl) (zVw _ n c d _ ok (fh _ E) qO hac) ?_;rintro _ w9 ⟨⟨p,b1,cx,rfl,hb1,ae⟩,X9⟩;replace Bd:=X9.keep Bd;replace Bo:=X9.keep Bo;replace E:=E.ext X9;refine qA (.slice (some ⟨b1,0,none⟩) n n) rfl (zAB (zAA (qF bd 0 2 rfl underlying34 rfl zBr rfl (qV (zAG (v:=(.slice (some ⟨nb,no,none⟩) n nc)) rfl zBh (Bd.cell rfl)) (qV (zAD (b:=nb) (o:=no) (len:=n) (cap:=nc) (i:=0) (o':=no+0) rfl rfl rfl underlying32 zBE qO qO) (qV (zAG (v:=(.slice ep c ej)) rfl zBI (E.cell (fun f=>f) (by rw[Nat.add_zero] at *;exact bz))) ?_))))));have fr:=ae.lt;have er:=zNr cx.len (show s0<n by omega);refine qV (zAK (ad:=ep) (n:=c) (cap:=ej) underlying22 rfl) (qA (I6 (c:Int)) rfl (zAB (zAH (zAA (qM (.slice (some ⟨b1,0,none⟩) n n) rfl (qF bd 0 0 rfl underlying34 rfl zAv rfl (qV (zAG (v:=(I6 d.start)) rfl zAm (Bd.cell rfl)) (qV (zAD (b:=b1) (o:=0) (len:=n) (cap:=n) (i:=s0) (o':=0+s0) rfl rfl qO underlying22 zAv qO qO) (qV (zAG (v:=(I6 (ptD p d.start))) rfl zAm (by rw[eo];exact zEH ae er)) (qV (zBA (k:=.i64) (a:=ptD p d.start) (b:=0) rfl rfl) (zAB (qC rfl (fun cn=>?_) (fun cn=>?_)))))))))))))
 ·have c6:¬zBT c d d.start:=fun hl=>by have:=(cx.live d.start ⟨qO,da.2⟩).1.2 hl;omega
  refine zAA (zAc (ps:=[(0,(I6 (-1)))]) (c:=#[(I6 (-1))]) qD rfl underlying22 zAv zDJ qD qD qK ?_);intro be we Ne;have Fe:=Ne.ge E;have Oe_bd:=Ne.lt Bd;have Oe_bo:=Ne.lt Bo;have Oe_b1:=Ne.lt ae;replace Bd:=Ne.keep Bd;replace Bo:=Ne.keep Bo;replace ae:=Ne.keep ae;replace E:=E.ext Ne.ext;have Be:=Ne.blk;refine zAc (ps:=[(0,(I6 (-1)))]) (c:=#[(I6 (-1))]) qD rfl underlying22 zAv zDJ qD qD qK ?_;intro bf wf Nf;have Ff:=Nf.ge E;have Of_bd:=Nf.lt Bd;have Of_bo:=Nf.lt Bo;have Of_b1:=Nf.lt ae;have Of_be:=Nf.lt Be;replace Bd:=Nf.keep Bd;replace Bo:=Nf.keep Bo;replace ae:=Nf.keep ae;replace Be:=Nf.keep Be;replace E:=E.ext Nf.ext;have Bf:=Nf.blk;refine qM (I6 (c:Int)) rfl ?_;have fi:=Bf.lt;refine qE rfl (zAU (vs:=[(.slice (some ⟨bf,0,none⟩) 1 1),(I6 (c:Int))]) func74 kQ kQ rfl) (zGP _ bf 1 c (-1) _ Bf hn.2.1 qO) ?_;rintro _ e5 ⟨⟨g,rfl,hg,hG⟩,ca⟩;replace Bd:=ca.keep Bd;replace Bo:=ca.keep Bo;replace ae:=ca.keep ae;replace Be:=ca.keep Be;replace Bf:=ca.keep Bf;replace E:=E.ext ca;refine zAc (ps:=[(0,(.slice (some ⟨g,0,none⟩) c c))]) (c:=#[(.slice (some ⟨g,0,none⟩) c c)]) qD rfl underlying32 zBE zEj qD qD qK ?_;intro bh wh Nh;have Fh:=Nh.ge E;have Oh_bd:=Nh.lt Bd;have Oh_bo:=Nh.lt Bo;have Oh_b1:=Nh.lt ae;have Oh_be:=Nh.lt Be;have Oh_bf:=Nh.lt Bf;have Oh_g:=Nh.lt hG;replace Bd:=Nh.keep Bd;replace Bo:=Nh.keep Bo;replace ae:=Nh.keep ae;replace Be:=Nh.keep Be;replace Bf:=Nh.keep Bf;replace hG:=Nh.keep hG;replace E:=E.ext Nh.ext;have Bh:=Nh.blk;refine qV (zBF (ps:=[(1,(.slice (some ⟨be,0,none⟩) 1 1)),(2,(.slice (some ⟨bh,0,none⟩) 1 1))]) (v:=(.agg #[(I6 0),(.slice (some ⟨be,0,none⟩) 1 1),(.slice (some ⟨bh,0,none⟩) 1 1)])) rfl qK) (zAa (b:=bo) (o:=0) (c':=#[(I6 0),(.slice (some ⟨be,0,none⟩) 1 1),(.slice (some ⟨bh,0,none⟩) 1 1)]) rfl rfl qS zAi rfl Bo qL rfl ?_);intro w2 S2;replace Bd:=S2.keep qO Bd;replace ae:=S2.keep qO ae;replace Be:=S2.keep qO Be;replace Bf:=S2.keep qO Bf;replace hG:=S2.keep qO hG;replace Bh:=S2.keep qO Bh;replace E:=S2.step E qQ;replace Bo:=S2.blk;refine zAB (zAW (zAX (zBb results37 (vs:=[(.int .i64 0),(.slice (some ⟨be,0,none⟩) 1 1),(.slice (some ⟨bh,0,none⟩) 1 1)]) (b:=bo) rfl zBC zAi rfl (Bo.cells rfl) ?_)));exact ⟨⟨⟨0,[-1],[List.replicate c (-1)]⟩,_,zPX ok c6,by show 1≤n;omega,fun x hx=>by rw[List.mem_singleton] at hx;rw[hx];decide,rfl,fun M w' ch hM=>zTu (ch.keep (zMv hM qO Be qD) Be) (ch.keep (zMv hM qO Bh qD) Bh) (ch.keep (zMv hM qO hG qD) hG) qO⟩,E⟩
 ·have b4:0≤ptD p d.start:=qO
  refine zAO (zAC (zAA (zBB (c:=#[(I6 0),(.slice none 0 0),(.slice none 0 0)]) qD zBn rfl ?_)));intro br wr Nr;have Fr:=Nr.ge E;have Or_bd:=Nr.lt Bd;have Or_bo:=Nr.lt Bo;have Or_b1:=Nr.lt ae;replace Bd:=Nr.keep Bd;replace Bo:=Nr.keep Bo;replace ae:=Nr.keep ae;replace E:=E.ext Nr.ext;have Br:=Nr.blk;refine zAB (zAA (zEb zFH zFH qD ?_));intro bm wm Nm;have Fm:=Nm.ge E;have Om_bd:=Nm.lt Bd;have Om_bo:=Nm.lt Bo;have Om_b1:=Nm.lt ae;have Om_br:=Nm.lt Br;replace Bd:=Nm.keep Bd;replace Bo:=Nm.keep Bo;replace ae:=Nm.keep ae;replace Br:=Nm.keep Br;replace E:=E.ext Nm.ext;intro Mm;refine qM (.slice (some ⟨b1,0,none⟩) n n) rfl (qF bd 0 0 rfl underlying34 rfl zAv rfl (qV (zAG (v:=(I6 d.start)) rfl zAm (Bd.cell rfl)) (qV (zAD (b:=b1) (o:=0) (len:=n) (cap:=n) (i:=s0) (o':=0+s0) rfl rfl qO underlying22 zAv qO qO) (qV (zAG (v:=(I6 (ptD p d.start))) rfl zAm (by rw[eo];exact zEH ae er)) (zHm (k:=(ptD p d.start)) (v:=0) underlying113 (zRG underlying3) Mm rfl rfl rfl ?_)))));intro w3 S3 H3;replace Bd:=S3.keep qO Bd;replace Bo:=S3.keep qO Bo;replace ae:=S3.keep qO ae;replace Br:=S3.keep qO Br;replace E:=S3.step E qQ;replace Mm:=H3;refine qM (.map (some bm)) rfl (qA (.map (some bm)) rfl (zAB (zAA (qF bd 0 0 rfl underlying34 rfl zAv rfl (qV (zAG (v:=(I6 d.start)) rfl zAm (Bd.cell rfl)) (zAc (ps:=[(0,(I6 d.start))]) (c:=#[(I6 d.start)]) qD rfl underlying22 zAv zDJ qD qD qK ?_))))));intro bs ws Ns;have Fs:=Ns.ge E;have Os_bd:=Ns.lt Bd;have Os_bo:=Ns.lt Bo;have Os_b1:=Ns.lt ae;have Os_br:=Ns.lt Br;have Os_bm:=Ns.ltM Mm;replace Bd:=Ns.keep Bd;replace Bo:=Ns.keep Bo;replace ae:=Ns.keep ae;replace Br:=Ns.keep Br;replace Mm:=Ns.keepM Mm;replace E:=E.ext Ns.ext;have Bs:=Ns.blk;refine qA (.slice (some ⟨bs,0,none⟩) 1 1) rfl (zAB (zAH (zAA (qA (I6 0) rfl (zAB (zAT ?_))))));obtain ⟨n1,e7⟩:∃n1,n1=bs:=⟨_,rfl⟩;have f4:bs<ws.heap.size:=Bs.lt;have ga:=zKO (base:=n1) Bs qO;have fm:=CanP.start (c:=c) da b4;refine zAo (fun nn_ σ W4=>∃(i:Nat) (ag:List (List Int)) (st aq:List Int) (vs:List Value) (sa ea am:Option Addr) (ah sn ec ak:Nat),(∃jj_,σ=zCT jj_ [(1,(P6 bd 0)),(2,(P6 bo 0)),(3,(.slice (some ⟨b1,0,none⟩) n n)),(4,(I6 (c:Int))),(5,(P6 br 0)),(6,(.map (some bm))),(8,(I6 (i:Int))),(7,(.slice sa sn ah))])∧Chg zAe w0 W4∧Blk W4 bd #[(I6 d.start),(.slice (some ⟨ab,ao,none⟩) n ac),(.slice (some ⟨nb,no,none⟩) n nc)] 34∧Blk W4 bo #[(I6 0),(.slice none 0 0),(.slice none 0 0)] 34∧Blk W4 b1 ((p.map (Value.int .i64)).toArray) 3∧Blk W4 br (#[Value.int .i64 0,.slice ea i ec,.slice am i ak]) 34∧zCG W4 bm zFH zFH (zCj (st.map (ptD p)) 0)∧(CanP n c d p ag [] st)∧(ag.length=i)∧(sn=st.length)∧(i≤sn)∧(aq=(st.take i).map (atD d))∧(W4.ownsRow n1 TDI 1 (.slice sa sn ah) sn (st.map (Value.int .i64)))∧(OutSt W4 n1 (.slice ea i ec) (.slice am i ak) vs aq ag)∧(∀b,(Value.slice sa sn ah).ownBlock=some b→¬zHP (.slice ea i ec) (.slice am i ak) vs b)∧(n1≤W4.heap.size)∧nn_=n - i) (n:=n - 0) ?_ ?_
  ·exact ⟨0,[],[d.start],[],[],some ⟨bs,0,none⟩,none,none,1,1,0,0,zAs.out ⟨rfl,rfl,rfl,rfl,rfl,rfl,rfl,rfl,trivial⟩,E,Bd,Bo,ae,Br,Mm,fm,rfl,rfl,qO,rfl,ga,OutSt.start _ _,(fun b _ h=>by rcases h with h|h|⟨i,v,h,_⟩;cases h;cases h;simp at h),qO,rfl⟩
  ·clear E Bd Bo ae Br Mm;rintro _ _ W4 ⟨i,ag,st,aq,vs,sa,ea,am,ah,sn,ec,ak,⟨j4,rfl⟩,E,Bd,Bo,ae,Br,Mm,hC,cz,bp,f3,bn,hS,hO,az,au,rfl⟩;refine zAH (zAA (qM (I6 (i:Int)) rfl (qM (.slice sa sn ah) rfl (qV (zAK (ad:=sa) (n:=sn) (cap:=ah) underlying22 rfl) (qV (zBA (k:=.i64) (a:=(i:Int)) (b:=(sn:Int)) rfl rfl) (zAB (qC rfl (fun ex=>?_) (fun ex=>?_))))))))
   ·obtain ⟨s,av⟩:=zAJ (l:=st) (i:=i) qO;obtain ⟨ds,e8,e4⟩:=hC.sl s (List.mem_of_getElem? av);obtain ⟨sN,ei⟩:=Int.eq_ofNat_of_zero_le ds;obtain ⟨row,ra,rc,a5,db,ce,fx⟩:=bt sN qO;have hle:=hC.st_le;have dc:((ag.length:Nat):Int)≤mxL ag.flatten:=by have:=hC.mx;rw[List.append_nil] at this;omega
    obtain ⟨sb,rfl,fy,cl⟩:=zBS hS qO;obtain ⟨z0,hz0⟩:∃z0,z0=(W4).heap.size:=⟨_,rfl⟩;have hnz:n1≤z0:=qO
    have cm:∀b,zHP (.slice ea i ec) (.slice am i ak) vs b→b<z0:=fun b hb=>by have:=(hO.lt hb).2;omega
    have fv:∀b,(Value.slice (some ⟨sb,0,none⟩) sn ah).ownBlock=some b→b<z0:=fun b hb=>by have:=(hS.lt b hb).2;omega
    refine zAO (zAC (zAH (zAT (zAA (qM (I6 (c:Int)) rfl (zEQ (n:=c) (z:=(I6 0)) (bytes:=8) qD underlying22 zAv zJs zDJ rfl rfl rfl qO qO ?_))))));intro bq wq Nq;have Fq:=Nq.ge E;have Oq_bd:=Nq.lt Bd;have Oq_bo:=Nq.lt Bo;have Oq_b1:=Nq.lt ae;have Oq_br:=Nq.lt Br;have Oq_bm:=Nq.ltM Mm;replace Bd:=Nq.keep Bd;replace Bo:=Nq.keep Bo;replace ae:=Nq.keep ae;replace Br:=Nq.keep Br;replace Mm:=Nq.keepM Mm;replace hS:=zAg hS Nq.ext;replace hO:=hO.ext Nq.ext;replace au:=Nat.le_trans au Nq.ext.size;replace cl:=cl.ext Nq.ext;replace E:=E.ext Nq.ext;have Bq:=Nq.blk;refine qA (.slice (some ⟨bq,0,none⟩) c c) rfl (zAB (zAH (zAH ?_)));obtain ⟨fq,aj⟩:∃Fs:List Fact,Fs=[.eq (P6 bd 2),.eq (.slice (some ⟨nb,no,none⟩) n nc),.eq (.slice (some ⟨sb,0,none⟩) sn ah),.eq (I6 (i:Int)),.eq (.pointer (some ⟨sb,0+i,none⟩)),.eq (I6 s),.eq (.pointer (some ⟨nb,no+sN,none⟩)),.eq (.slice ra c rc),.eq (I6 (c:Int)),.eq (I6 0)]:=⟨_,rfl⟩;refine zOe [51,52,53,54,55,56,57,58,59,60] [[],[0],[],[],[2,3],[4],[1,5],[6],[7],[]] fq aj mixed qK qK ?_ ?_
    ·intro wd X0;refine DagSteps.cons (fun s' w' X U H=>Or.inl ⟨?_,?_⟩) ?_
     ·exact zAI rfl
     ·exact zAu (zAY (b:=bd) (o:=0) (o':=2) (U 1 rfl) underlying34 rfl zBr rfl) (Ext.refl _) rfl
     refine DagSteps.cons (fun s' w' X U H=>Or.inl ⟨?_,?_⟩) ?_
     ·exact zAI rfl
     ·have e0:s' 51=(.pointer (some ⟨bd,2,none⟩)):=H 0 rfl 51 (.eq (.pointer (some ⟨bd,2,none⟩))) rfl (by rw[aj];rfl);exact zAu (zAG (v:=(.slice (some ⟨nb,no,none⟩) n nc)) e0 zBh (((X0.trans X).keep Bd).cell rfl)) (Ext.refl _) rfl
     refine DagSteps.cons (fun s' w' X U H=>Or.inl ⟨?_,?_⟩) ?_
     ·exact zAI rfl
     ·exact zAu (zAj (v:=(.slice (some ⟨sb,0,none⟩) sn ah)) (U 7 rfl)) (Ext.refl _) rfl
     refine DagSteps.cons (fun s' w' X U H=>Or.inl ⟨?_,?_⟩) ?_
     ·exact zAI rfl
     ·exact zAu (zAj (v:=(I6 (i:Int))) (U 8 rfl)) (Ext.refl _) rfl
     refine DagSteps.cons (fun s' w' X U H=>Or.inl ⟨?_,?_⟩) ?_
     ·exact zAI rfl
     ·have fs:s' 53=(.slice (some ⟨sb,0,none⟩) sn ah):=H 2 rfl 53 (.eq (.slice (some ⟨sb,0,none⟩) sn ah)) rfl (by rw[aj];rfl);have e6:s' 54=(.int .i64 ((i:Nat):Int)):=H 3 rfl 54 (.eq (.int .i64 ((i:Nat):Int))) rfl (by rw[aj];rfl);exact zAu (zAD (b:=sb) (o:=0) (len:=sn) (cap:=ah) (i:=i) (o':=0+i) fs e6 rfl underlying22 zAv qO qO) (Ext.refl _) rfl
     refine DagSteps.cons (fun s' w' X U H=>Or.inl ⟨?_,?_⟩) ?_
     ·exact zAI rfl
     ·have gb:s' 55=(.pointer (some ⟨sb,0+i,none⟩)):=H 4 rfl 55 (.eq (.pointer (some ⟨sb,0+i,none⟩))) rfl (by rw[aj];rfl);exact zAu (zAG (v:=(I6 s)) gb zAm ((X0.trans X).cell (cl i _ (by rw[List.getElem?_map,av];rfl)))) (Ext.refl _) rfl
     refine DagSteps.cons (fun s' w' X U H=>Or.inl ⟨?_,?_⟩) ?_
     ·exact zAI rfl
     ·have ft:s' 52=(.slice (some ⟨nb,no,none⟩) n nc):=H 1 rfl 52 (.eq (.slice (some ⟨nb,no,none⟩) n nc)) rfl (by rw[aj];rfl);have fp:s' 56=(.int .i64 s):=H 5 rfl 56 (.eq (.int .i64 s)) rfl (by rw[aj];rfl);exact zAu (zAD (b:=nb) (o:=no) (len:=n) (cap:=nc) (i:=sN) (o':=no+sN) ft fp qO underlying32 zBE qO qO) (Ext.refl _) rfl
     refine DagSteps.cons (fun s' w' X U H=>Or.inl ⟨?_,?_⟩) ?_
     ·exact zAI rfl
     ·have fb:s' 57=(.pointer (some ⟨nb,no+sN,none⟩)):=H 6 rfl 57 (.eq (.pointer (some ⟨nb,no+sN,none⟩))) rfl (by rw[aj];rfl);exact zAu (zAG (v:=(.slice ra c rc)) fb zBI ((Chg.ext E (X0.trans X)).cell (fun f=>f) ce)) (Ext.refl _) rfl
     refine DagSteps.cons (fun s' w' X U H=>Or.inl ⟨?_,?_⟩) ?_
     ·exact zAI rfl
     ·have ff:s' 58=(.slice ra c rc):=H 7 rfl 58 (.eq (.slice ra c rc)) rfl (by rw[aj];rfl);exact zAu (zAK (ad:=ra) (n:=c) (cap:=rc) underlying22 ff) (Ext.refl _) rfl
     refine DagSteps.cons (fun s' w' X U H=>Or.inl ⟨?_,?_⟩) ?_
     ·exact zAI rfl
     ·exact zAu (zAj (v:=(I6 0)) rfl) (Ext.refl _) rfl
     exact DagSteps.nil
    ·intro s' w6 X6 U H;obtain ⟨j6,rfl⟩:=zAs.out (σ:=s') (l:=[(1,(.pointer (some ⟨bd,0,none⟩))),(2,(.pointer (some ⟨bo,0,none⟩))),(3,(.slice (some ⟨b1,0,none⟩) n n)),(4,(.int .i64 ((c:Nat):Int))),(5,(.pointer (some ⟨br,0,none⟩))),(6,(.map (some bm))),(7,(.slice (some ⟨sb,0,none⟩) sn ah)),(8,(.int .i64 ((i:Nat):Int))),(9,(.slice (some ⟨bq,0,none⟩) c c)),(58,(.slice ra c rc)),(59,(.int .i64 ((c:Nat):Int))),(60,(.int .i64 0))]) ⟨U 1 rfl,U 2 rfl,U 3 rfl,U 4 rfl,U 5 rfl,U 6 rfl,U 7 rfl,U 8 rfl,U 9 rfl,(show s' 58=(.slice ra c rc) from H 7 58 (.eq (.slice ra c rc)) rfl (by rw[aj];rfl)),(show s' 59=(.int .i64 ((c:Nat):Int)) from H 8 59 (.eq (.int .i64 ((c:Nat):Int))) rfl (by rw[aj];rfl)),(show s' 60=(.int .i64 0) from H 9 60 (.eq (.int .i64 0)) rfl (by rw[aj];rfl)),trivial⟩;clear U H;replace Bd:=X6.keep Bd;replace Bo:=X6.keep Bo;replace ae:=X6.keep ae;replace Br:=X6.keep Br;replace Mm:=X6.keepM Mm;replace Bq:=X6.keep Bq;replace hS:=zAg hS X6;replace hO:=hO.ext X6;replace au:=Nat.le_trans au X6.size;replace cl:=cl.ext X6;replace E:=E.ext X6;have hqz:z0≤bq:=by have:=Nq.eq;omega
     rw[show List.replicate c (Value.int .i64 0)=(List.replicate c (0:Int)).map (Value.int .i64) by simp] at Bq;refine zAC (zAT (zAo (fun nn_ σ W7=>∃(x:Nat) (R:List Int) (st:List Int) (sa:Option Addr) (ah sn:Nat),(∃jj_,σ=zCT jj_ [(1,(P6 bd 0)),(2,(P6 bo 0)),(3,(.slice (some ⟨b1,0,none⟩) n n)),(4,(I6 (c:Int))),(5,(P6 br 0)),(6,(.map (some bm))),(8,(I6 (i:Int))),(9,(.slice (some ⟨bq,0,none⟩) c c)),(58,(.slice ra c rc)),(59,(I6 (c:Int))),(60,(I6 (x:Int))),(7,(.slice sa sn ah))])∧Chg zAe w0 W7∧Blk W7 bd #[(I6 d.start),(.slice (some ⟨ab,ao,none⟩) n ac),(.slice (some ⟨nb,no,none⟩) n nc)] 34∧Blk W7 bo #[(I6 0),(.slice none 0 0),(.slice none 0 0)] 34∧Blk W7 b1 ((p.map (Value.int .i64)).toArray) 3∧Blk W7 br (#[Value.int .i64 0,.slice ea i ec,.slice am i ak]) 34∧zCG W7 bm zFH zFH (zCj (st.map (ptD p)) 0)∧Blk W7 bq ((R.map (Value.int .i64)).toArray) 3∧(x≤c)∧(R.length=c)∧(CanP n c d p ag (R.take x) st)∧(st[i]?=some s)∧(sn=st.length)∧((st.take i).map (atD d)=aq)∧(W7.ownsRow n1 TDI 1 (.slice sa sn ah) sn (st.map (Value.int .i64)))∧(OutSt W7 n1 (.slice ea i ec) (.slice am i ak) vs aq ag)∧(∀b,(Value.slice sa sn ah).ownBlock=some b→¬zHP (.slice ea i ec) (.slice am i ak) vs b∧b≠bq)∧(n1≤W7.heap.size)∧nn_=c - x) (n:=c - 0) ?_ ?_))
     ·exact ⟨0,List.replicate c 0,st,some ⟨sb,0,none⟩,ah,sn,zAs.out ⟨rfl,rfl,rfl,rfl,rfl,rfl,rfl,rfl,rfl,rfl,rfl,rfl,trivial⟩,E,Bd,Bo,ae,Br,Mm,Bq,Nat.zero_le _,qP,(by simpa using hC),av,bp,bn.symm,hS,hO,(fun b hb=>⟨az b hb,fun e=>by have:=fv b hb;omega⟩),au,rfl⟩
     ·clear E Bd Bo ae Br Mm Bq;rintro _ _ W7 ⟨x,R,st,sa,ah,sn,⟨j7,rfl⟩,E,Bd,Bo,ae,Br,Mm,Bq,hx,b3,hC,av,bp,cb,hS,hO,az,au,rfl⟩;refine zAA (qV (zBA (k:=.i64) (a:=(x:Int)) (b:=(c:Int)) rfl rfl) (zAB (zAH (qC rfl (fun c9=>?_) (fun c9=>?_)))))
      ·obtain ⟨t,ht⟩:=zAJ (l:=row) (i:=x) qO;obtain ⟨rb,ro,rfl,ey⟩:=zAy (n:=c) fx qO;obtain ⟨cc,_,_,hxl,hxh⟩:=zKF ok a5 ht;rw[←ei] at cc;have bg:(R.take x).length=x:=by simp;omega
       have cy:st[ag.length]?=some s:=by rw[cz];exact av
       have eg:=zBp (L:=R) (s:=x) (x:=-1) qO;refine zAO (zAC (zAH (zAT (zAA (qM (I6 (x:Int)) rfl (qV (zAD (b:=rb) (o:=ro) (len:=c) (cap:=rc) (i:=x) (o':=ro+x) rfl rfl rfl underlying22 zAv qO qO) (qV (zAG (v:=(I6 t)) rfl zAm (E.cell (fun f=>f) (ey x t ht))) (qA (I6 (x:Int)) rfl (qA (I6 t) rfl (zAB (zAH (zAA (qM (.slice (some ⟨bq,0,none⟩) c c) rfl (qM (I6 (x:Int)) rfl (qV (zAD (b:=bq) (o:=0) (len:=c) (cap:=c) (i:=x) (o':=0+x) rfl rfl rfl underlying22 zAv qO qO) (zAt (b:=bq) (o:=0+x) (c':=((R.set x (-1)).map (Value.int .i64)).toArray) (v:=(I6 (-1))) rfl rfl rfl zAv Bq (by simp;omega) (zCW _) ?_))))))))))))))));intro w9 S9;replace hS:=zAn hS S9.chg fun b hb h=>(az b hb).2 h;replace hO:=hO.chg S9.chg fun b hb h=>by have:=cm b hb;have h':b=bq:=h;omega
       replace au:=Nat.le_trans au S9.chg.size;replace Bd:=S9.keep qO Bd;replace Bo:=S9.keep qO Bo;replace ae:=S9.keep qO ae;replace Br:=S9.keep qO Br;replace Mm:=S9.keepM qO Mm;replace E:=S9.step E qQ;replace Bq:=S9.blk;refine zAB (zAA (qM (I6 t) rfl (qV (zBA (k:=.i64) (a:=t) (b:=0) rfl rfl) (qM (.bool (decide ((t:Int)<0))) rfl ?_))));rcases Bool.eq_false_or_eq_true (decide ((t:Int)<0)) with ai|ai
       ·have an:=ai;replace an:=of_decide_eq_true an;have dx:zUd d p st s (R.take x).length (-1):=.inl ⟨rfl,by rw[bg,cc,zMr an];decide⟩;refine zAM (oj:=_) rfl rfl qD (v:=.bool true) (cbk ai) (Or.inl rfl) (zAM (oj:=_) rfl rfl qD (v:=.bool true) (cbk ai) (Or.inl rfl) (zAM (oj:=_) rfl rfl qD (v:=.bool true) (cbk ai) (Or.inl rfl) (zAM (oj:=_) rfl rfl qD (v:=.bool true) (cbk ai) (Or.inl rfl) (zAM (oj:=_) rfl rfl qD (v:=.bool true) (cbk ai) (Or.inl rfl) (qV (zAr (b:=decide ((t:Int)<0)) (v:=(.bool true)) rfl (by rw[ai];rfl)) (zAB (zAk rfl (zAl (zAV (zAf (zAC (zAF (qV (zAw (k:=.i64) (a:=(x:Int)) (b:=1) (c:=(x:Int)+1) rfl rfl (zBf qO)) (qM (I6 ((x:Int)+1)) rfl (zAB (zAC ?_))))))))))))))));exact ⟨c - (x+1),qO,x+1,R.set x (-1),st,sa,ah,sn,zAs.out ⟨rfl,rfl,rfl,rfl,rfl,rfl,rfl,rfl,rfl,rfl,rfl,rfl,trivial⟩,E,Bd,Bo,ae,Br,Mm,Bq,qO,(by simp[b3]),(by rw[eg];exact hC.add cy dx),av,bp,cb,hS,hO,az,au,rfl⟩
       ·have an:=ai;replace an:=of_decide_eq_false an;obtain ⟨tN,c1⟩:=Int.eq_ofNat_of_zero_le (show 0≤t by omega);have d2:=zNr cx.len (show tN<n by omega);refine zAL (oj:=_) rfl rfl qD (cbk ai) (qM (.slice (some ⟨b1,0,none⟩) n n) rfl (zAL (oj:=_) rfl rfl qD (cbk ai) (qM (I6 t) rfl (zAL (oj:=_) rfl rfl qD (cbk ai) (qV (zAD (b:=b1) (o:=0) (len:=n) (cap:=n) (i:=tN) (o':=0+tN) rfl rfl qO underlying22 zAv qO qO) (zAL (oj:=_) rfl rfl qD (cbk ai) (qV (zAG (v:=(I6 (ptD p t))) rfl zAm (by rw[c1];exact zEH ae d2)) (zAL (oj:=_) rfl rfl qD (cbk ai) (qV (zBA (k:=.i64) (a:=ptD p t) (b:=0) rfl rfl) (qV (zAr (b:=decide ((t:Int)<0)) (v:=(.bool (decide ((ptD p t:Int)<0)))) rfl (by rw[ai];rfl)) (zAB (qC rfl (fun gc=>?_) (fun gc=>?_)))))))))))))
        ·have dx:zUd d p st s (R.take x).length (-1):=.inl ⟨rfl,by rw[bg,cc];omega⟩;refine zAl (zAV (zAf (zAC (zAF (qV (zAw (k:=.i64) (a:=(x:Int)) (b:=1) (c:=(x:Int)+1) rfl rfl (zBf qO)) (qM (I6 ((x:Int)+1)) rfl (zAB (zAC ?_))))))));exact ⟨c - (x+1),qO,x+1,R.set x (-1),st,sa,ah,sn,zAs.out ⟨rfl,rfl,rfl,rfl,rfl,rfl,rfl,rfl,rfl,rfl,rfl,rfl,trivial⟩,E,Bd,Bo,ae,Br,Mm,Bq,qO,(by simp[b3]),(by rw[eg];exact hC.add cy dx),av,bp,cb,hS,hO,az,au,rfl⟩
        ·refine zAO (zAC (zAA (qM (.map (some bm)) rfl (qM (.slice (some ⟨b1,0,none⟩) n n) rfl (qM (I6 t) rfl (qV (zAD (b:=b1) (o:=0) (len:=n) (cap:=n) (i:=tN) (o':=0+tN) rfl rfl qO underlying22 zAv qO qO) (qV (zAG (v:=(I6 (ptD p t))) rfl zAm (by rw[c1];exact zEH ae d2)) (zBo (v:=(.tuple #[(I6 ((zBk (zCj (st.map (ptD p)) 0) (ptD p t)).getD 0)),(.bool ((zBk (zCj (st.map (ptD p)) 0) (ptD p t)).isSome))])) rfl rfl qD (zEd (k:=(ptD p t)) (z:=0) underlying113 (zRG underlying3) zDJ Mm rfl rfl) (qM (.tuple #[(I6 ((zBk (zCj (st.map (ptD p)) 0) (ptD p t)).getD 0)),(.bool ((zBk (zCj (st.map (ptD p)) 0) (ptD p t)).isSome))]) rfl (qV (zAb (vs:=#[(I6 ((zBk (zCj (st.map (ptD p)) 0) (ptD p t)).getD 0)),(.bool ((zBk (zCj (st.map (ptD p)) 0) (ptD p t)).isSome))]) (v:=(I6 ((zBk (zCj (st.map (ptD p)) 0) (ptD p t)).getD 0))) rfl rfl) (qV (zAb (vs:=#[(I6 ((zBk (zCj (st.map (ptD p)) 0) (ptD p t)).getD 0)),(.bool ((zBk (zCj (st.map (ptD p)) 0) (ptD p t)).isSome))]) (v:=(.bool ((zBk (zCj (st.map (ptD p)) 0) (ptD p t)).isSome))) rfl rfl) (qA (I6 ((zBk (zCj (st.map (ptD p)) 0) (ptD p t)).getD 0)) rfl (qA (.bool ((zBk (zCj (st.map (ptD p)) 0) (ptD p t)).isSome)) rfl (zAB (zFq (fun σ a3=>∃(bk:List Int) (j:Nat) (ct:Option Addr) (cj b0:Nat),(∃jj_,σ=zCT jj_ [(1,(P6 bd 0)),(2,(P6 bo 0)),(3,(.slice (some ⟨b1,0,none⟩) n n)),(4,(I6 (c:Int))),(5,(P6 br 0)),(6,(.map (some bm))),(8,(I6 (i:Int))),(9,(.slice (some ⟨bq,0,none⟩) c c)),(10,(I6 (x:Int))),(58,(.slice (some ⟨rb,ro,none⟩) c rc)),(59,(I6 (c:Int))),(60,(I6 (x:Int))),(7,(.slice ct b0 cj)),(12,(I6 (j:Int)))])∧Chg zAe w0 a3∧Blk a3 bd #[(I6 d.start),(.slice (some ⟨ab,ao,none⟩) n ac),(.slice (some ⟨nb,no,none⟩) n nc)] 34∧Blk a3 bo #[(I6 0),(.slice none 0 0),(.slice none 0 0)] 34∧Blk a3 b1 ((p.map (Value.int .i64)).toArray) 3∧Blk a3 br (#[Value.int .i64 0,.slice ea i ec,.slice am i ak]) 34∧zCG a3 bm zFH zFH (zCj (bk.map (ptD p)) 0)∧Blk a3 bq (((R.set x (-1)).map (Value.int .i64)).toArray) 3∧(CanP n c d p ag (R.take x++[(j:Int)]) bk)∧(bk[i]?=some s)∧(b0=bk.length)∧((bk.take i).map (atD d)=aq)∧(a3.ownsRow n1 TDI 1 (.slice ct b0 cj) b0 (bk.map (Value.int .i64)))∧(OutSt a3 n1 (.slice ea i ec) (.slice am i ak) vs aq ag)∧(∀b,(Value.slice ct b0 cj).ownBlock=some b→¬zHP (.slice ea i ec) (.slice am i ak) vs b∧b≠bq)∧(n1≤a3.heap.size)) ?_ ?_)))))))))))))))
         ·skip
          refine zAA (qM (.bool ((zBk (zCj (st.map (ptD p)) 0) (ptD p t)).isSome)) rfl (qV (zCa (b:=(zBk (zCj (st.map (ptD p)) 0) (ptD p t)).isSome) rfl) (zAB (zAx (b:=!((zBk (zCj (st.map (ptD p)) 0) (ptD p t)).isSome)) rfl (fun ap=>?_) (fun ap=>?_)))))
          ·have cq:=ap;replace ap:=by simpa using ap
           have f1:zBk (zCj (st.map (ptD p)) 0) (ptD p t)=none:=by simpa using ap
           obtain ⟨dz,dg⟩:=zPM f1;have bj:toD d s (R.take x).length=t:=by rw[bg,cc]
           have f2:=hC.st_le;refine zAA (qM (.slice sa sn ah) rfl (qV (zAK (ad:=sa) (n:=sn) (cap:=ah) underlying22 rfl) (qA (I6 (sn:Int)) rfl (zAB (zAA (qM (.map (some bm)) rfl (qM (.slice (some ⟨b1,0,none⟩) n n) rfl (qM (I6 t) rfl (qV (zAD (b:=b1) (o:=0) (len:=n) (cap:=n) (i:=tN) (o':=0+tN) rfl rfl qO underlying22 zAv qO qO) (qV (zAG (v:=(I6 (ptD p t))) rfl zAm (by rw[c1];exact zEH ae d2)) (qM (I6 (sn:Int)) rfl (zDL (k:=(ptD p t)) (v:=(sn:Int)) underlying113 (zRG underlying3) Mm rfl rfl rfl ?_))))))))))));intro w14 bi fz;replace hS:=zAn hS bi.chg fun b hb h=>by have:=(hS.lt b hb).1;have h':b=bm:=h;omega
           replace hO:=hO.chg bi.chg fun b hb h=>by have:=(hO.lt hb).1;have h':b=bm:=h;omega
           replace au:=Nat.le_trans au bi.chg.size;replace Bd:=bi.keep qO Bd;replace Bo:=bi.keep qO Bo;replace ae:=bi.keep qO ae;replace Br:=bi.keep qO Br;replace Bq:=bi.keep qO Bq;replace E:=bi.step E qQ;replace Mm:=fz;refine zAB (zAF (qM (.slice sa sn ah) rfl (qM (I6 t) rfl (zAc (ps:=[(0,(I6 t))]) (c:=#[(I6 t)]) qD rfl underlying22 zAv zDJ qD qD qK ?_))));intro b15 w15 ar;have F15:=ar.ge E;have O15_bd:=ar.lt Bd;have O15_bo:=ar.lt Bo;have O15_b1:=ar.lt ae;have O15_br:=ar.lt Br;have O15_bm:=ar.ltM Mm;have O15_bq:=ar.lt Bq;replace Bd:=ar.keep Bd;replace Bo:=ar.keep Bo;replace ae:=ar.keep ae;replace Br:=ar.keep Br;replace Mm:=ar.keepM Mm;replace Bq:=ar.keep Bq;replace hS:=zAg hS ar.ext;replace hO:=hO.ext ar.ext;replace au:=Nat.le_trans au ar.ext.size;replace E:=E.ext ar.ext;have fk:=ar.blk;have c7:=Bq.lt;refine zBt (base:=n1) (n:=sn) (m:=1) (xs:=(st.map (Value.int .i64))) (news:=[(I6 t)]) (size:=1) (bytes:=8) (v:=(.slice sa sn ah)) qD underlying22 zAv zJs zDJ rfl qD rfl hS rfl (rfl) (fk.cells rfl) qS (by unfold maxLen;omega) qO (au) ?_;intro v7 w59 eb bb f8;replace Bd:=bb.keep (fun h=>by have:=(hS.lt _ h).1;omega) Bd;replace Bo:=bb.keep (fun h=>by have:=(hS.lt _ h).1;omega) Bo;replace ae:=bb.keep (fun h=>by have:=(hS.lt _ h).1;omega) ae;replace Br:=bb.keep (fun h=>by have:=(hS.lt _ h).1;omega) Br;replace Mm:=bb.keepM (fun h=>by have:=(hS.lt _ h).1;omega) Mm;replace Bq:=bb.keep (fun h=>(az _ h).2 rfl) Bq;replace E:=E.step bb (fun x hx h=>absurd (hS.lt x h).1 qO);obtain ⟨em,ed,rfl⟩:=zBR eb;rw[bp,show ((st.length:Nat):Int)=(((st.map (ptD p)).length:Nat):Int) by rw[List.length_map],dg,show st.map (ptD p)++[ptD p t]=(st++[t]).map (ptD p) by simp] at Mm;refine qA (.slice em (sn+1) ed) rfl (zAB (zAC ?_));exact ⟨st++[t],sn,em,ed,sn+1,zAs.out ⟨rfl,rfl,rfl,rfl,rfl,rfl,rfl,rfl,rfl,rfl,rfl,rfl,rfl,rfl,trivial⟩,E,Bd,Bo,ae,Br,Mm,Bq,(by rw[bp];have h9:=hC.new cy (by rw[bj];omega) (by rw[bj];omega) (fun u hu he=>dz (by rw[←bj,←he];exact List.mem_map.2 ⟨u,hu,rfl⟩));rw[bj] at h9;exact h9),(by rw[List.getElem?_append_left (zAE av)];exact av),(by simp;omega),(by rw[List.take_append_of_le_length (by have:=zAE av;omega)];exact cb),(by rw[List.map_append];exact eb),hO.chg bb (fun b hb h=>(az b h).1 hb),(fun b hb=>by rcases f8 b hb with h9|h9;exact az b h9;exact ⟨fun ho=>by have:=(hO.lt ho).2;omega,fun e=>qO⟩),Nat.le_trans au bb.size⟩
          ·have cq:=ap;replace ap:=by simpa using ap
           have f9:(zBk (zCj (st.map (ptD p)) 0) (ptD p t)).isSome=true:=by simpa using ap
           obtain ⟨v9,et⟩:=Option.isSome_iff_exists.1 f9;obtain ⟨j9,rfl,ek⟩:=zRE et;rw[List.getElem?_map] at ek;obtain ⟨u,hu,eu⟩:=Option.map_eq_some_iff.1 ek;rw[show (zBk (zCj (st.map (ptD p)) 0) (ptD p t)).getD 0=((j9:Nat):Int) from by rw[et];rfl];refine zAO (zAC ?_);exact ⟨st,j9,sa,ah,sn,zAs.out ⟨rfl,rfl,rfl,rfl,rfl,rfl,rfl,rfl,rfl,rfl,rfl,rfl,rfl,rfl,trivial⟩,E,Bd,Bo,ae,Br,Mm,Bq,hC.add cy (.inr ⟨j9,u,rfl,hu,by rw[bg,cc,eu],by rw[eu];omega⟩),av,bp,cb,hS,hO,az,au⟩
         ·clear E Bd Bo ae Br Mm Bq;rintro _ a3 ⟨bk,j,ct,cj,b0,⟨j12,rfl⟩,E,Bd,Bo,ae,Br,Mm,Bq,fc,di,dk,c4,dl,d5,cu,b8⟩;have d4:=zBp (L:=R.set x (-1)) (s:=x) (x:=((j:Nat):Int)) (by simp;omega);refine zAF (qM (.slice (some ⟨bq,0,none⟩) c c) rfl (qM (I6 (x:Int)) rfl (qM (I6 (j:Int)) rfl (qV (zAD (b:=bq) (o:=0) (len:=c) (cap:=c) (i:=x) (o':=0+x) rfl rfl rfl underlying22 zAv qO qO) (zAt (b:=bq) (o:=0+x) (c':=(((R.set x (-1)).set x (j:Int)).map (Value.int .i64)).toArray) (v:=(I6 (j:Int))) rfl rfl rfl zAv Bq (by simp;omega) (zCW _) ?_)))));intro w16 a8;replace dl:=zAn dl a8.chg fun b hb h=>(cu b hb).2 h;replace d5:=d5.chg a8.chg fun b hb h=>by have:=cm b hb;have h':b=bq:=h;omega
          replace b8:=Nat.le_trans b8 a8.chg.size;replace Bd:=a8.keep qO Bd;replace Bo:=a8.keep qO Bo;replace ae:=a8.keep qO ae;replace Br:=a8.keep qO Br;replace Mm:=a8.keepM qO Mm;replace E:=a8.step E qQ;replace Bq:=a8.blk;refine zAB (zAS (zAC (zAF (qV (zAw (k:=.i64) (a:=(x:Int)) (b:=1) (c:=(x:Int)+1) rfl rfl (zBf qO)) (qM (I6 ((x:Int)+1)) rfl (zAB (zAC ?_)))))));exact ⟨c - (x+1),qO,x+1,(R.set x (-1)).set x ((j:Nat):Int),bk,ct,cj,b0,zAs.out ⟨rfl,rfl,rfl,rfl,rfl,rfl,rfl,rfl,rfl,rfl,rfl,rfl,trivial⟩,E,Bd,Bo,ae,Br,Mm,Bq,qO,(by simp[b3]),(by rw[d4,List.take_set_of_le (Nat.le_refl x)];exact fc),di,dk,c4,dl,d5,cu,b8,rfl⟩
      ·have f0:x=c:=qO
       rw[f0,show R.take c=R by rw[←b3,List.take_length]] at hC;obtain ⟨n4,es⟩:∃n4,n4=(W7).heap.size:=⟨_,rfl⟩;obtain ⟨b5,rfl,_,c2⟩:=zBS hS (by have:=zAE av;omega);have cr:aq.length=i:=by rw[←cb,List.length_map,List.length_take];have:=zAE av;omega
       have ax:(W7).ownsRow n1 TDI 1 (.slice ea i ec) i (aq.map (Value.int .i64)):=by have h9:=hO.e;rwa [cr] at h9
       have a0:(W7).ownsRow n1 zDf 1 (.slice am i ak) i vs:=hO.n.on (by rw[List.length_map];omega);have fo:=hC.st_le;have ew:=zAE av;have d8:=zIq ok (show sN<n by omega);obtain ⟨yv,d9⟩:∃y,y=atD d s:=⟨_,rfl⟩;rw[←ei,←d9] at d8;have c7:=Bq.lt;have ez:=zFN (base:=bq) Bq (Nat.le_refl _) b3;refine zAl (zAV (zAV (zAf (zAC ?_))));obtain ⟨d1,af⟩:∃Fs:List zEL,Fs=[(fun _ v _=>v=(P6 br 2)),(fun _ v _=>v=(.slice am i ak)),(fun _ v _=>v=(.slice (some ⟨bq,0,none⟩) c c)),(fun _=>zEF zDf #[.slice (some ⟨bq,0,none⟩) c c] n4),(fun _=>zDI n1 zDf 1 (i+1) (vs++[Value.slice (some ⟨bq,0,none⟩) c c]) (.slice am i ak) n4),(fun _ v _=>v=(P6 br 1)),(fun _ v _=>v=(.slice ea i ec)),(fun _ v _=>v=(P6 bd 1)),(fun _ v _=>v=(.slice (some ⟨ab,ao,none⟩) n ac)),(fun _ v _=>v=(.slice (some ⟨b5,0,none⟩) sn ah)),(fun _ v _=>v=(I6 (i:Int))),(fun _ v _=>v=(.pointer (some ⟨b5,0+i,none⟩))),(fun _ v _=>v=(I6 s)),(fun _ v _=>v=(.pointer (some ⟨ab,ao+sN,none⟩))),(fun _ v _=>v=(I6 yv)),(fun _=>zEF TDI #[.int .i64 yv] n4),(fun s v w=>zDI n1 TDI 1 (i+1) (aq.map (Value.int .i64)++[Value.int .i64 yv]) (.slice ea i ec) n4 v w∧∀b,(s 109).ownBlock=some b→v.ownBlock≠some b),(fun _ v _=>v=(P6 br 2))]:=⟨_,rfl⟩;refine zHM (two 4 16 (fun b=>(Value.slice am i ak).ownBlock=some b) (fun b=>(Value.slice ea i ec).ownBlock=some b)) 18 [105,106,107,108,109,110,111,112,113,114,115,116,117,118,119,120,121,122] [[],[0],[],[2],[1,3],[],[5],[],[7],[],[],[9,10],[11],[8,12],[13],[14],[4,6,15],[0,1,2,3,4,5,6]] [[],[0],[],[2],[1,0,3,2],[],[5],[],[7],[],[],[9,10],[11,9,10],[8,7,12,11,9,10],[13,8,7,12,11,9,10],[14,13,8,7,12,11,9,10],[4,1,0,3,2,6,5,15,14,13,8,7,12,11,9,10],[0,1,2,3,4,5,6]] d1 af qK mixed qK qK qK ?_ ?_
       ·intro wd X0;refine DagStepsX.cons (zBD.eq) (fun _ _ _ _ _ h=>h) (fun s' w' X U H=>?_) ?_
        ·exact zAQ (zAY (b:=br) (o:=0) (o':=2) (U 5 rfl) underlying34 rfl zBr rfl) (Chg.refl _ _) rfl
        refine DagStepsX.cons (zBD.eq) (fun _ _ _ _ _ h=>h) (fun s' w' X U H=>?_) ?_
        ·have dy:=H 0 rfl 105 _ rfl (by rw[af];rfl);exact zAQ (zAG (v:=(.slice am i ak)) dy zBh ((Chg.keep X (fun h=>(fun h=>h.elim (fun h=>by have:=(a0.lt _ h).1;omega) (fun h=>by have:=(ax.lt _ h).1;omega)) (zEO.or h)) (X0.keep Br)).cell rfl)) (Chg.refl _ _) rfl
        refine DagStepsX.cons (zBD.eq) (fun _ _ _ _ _ h=>h) (fun s' w' X U H=>?_) ?_
        ·exact zAQ (zAj (v:=(.slice (some ⟨bq,0,none⟩) c c)) (U 9 rfl)) (Chg.refl _ _) rfl
        refine DagStepsX.cons (zCV (fun y h=>by have:=(a0.lt y h).2;omega) (fun y h=>by have:=(ax.lt y h).2;omega)) (zIt.const) (fun s' w' X U H=>?_) ?_
        ·have df:=H 2 rfl 107 _ rfl (by rw[af];rfl);exact zCH (hs:=n4) underlying32 zBE zEj df qD qD qK (by have:=X0.size;have:=X.size;omega)
        refine DagStepsX.cons (zGk (fun k hk hm=>hk.elim (fun h=>hO.en k hm h) (fun h=>by have:=(ax.lt k hm).2;omega))) (zIt.const) (fun s' w' X U H=>?_) ?_
        ·have dm:=H 1 rfl 106 _ rfl (by rw[af];rfl);obtain ⟨e2,dq,dj,e9⟩:=(show ((fun _=>zEF zDf #[.slice (some ⟨bq,0,none⟩) c c] n4):zEL) s' (s' 108) w' from H 3 rfl 108 ((fun _=>zEF zDf #[.slice (some ⟨bq,0,none⟩) c c] n4)) rfl (by rw[af];rfl));exact zBe (hs:=n4) underlying32 zBE zNN zEj rfl qD dm (zAg (zAg a0 X0) (X.mono (fun y _ h=>zEO.none rfl rfl h))) dq rfl (dj.cells rfl) qS (by unfold maxLen;omega) qO (by have:=X0.size;have:=X.size;omega) (fun y h=>h) (by have:=X0.size;have:=X.size;omega)
        refine DagStepsX.cons (zBD.eq) (fun _ _ _ _ _ h=>h) (fun s' w' X U H=>?_) ?_
        ·exact zAQ (zAY (b:=br) (o:=0) (o':=1) (U 5 rfl) underlying34 rfl zBE rfl) (Chg.refl _ _) rfl
        refine DagStepsX.cons (zBD.eq) (fun _ _ _ _ _ h=>h) (fun s' w' X U H=>?_) ?_
        ·have c8:=H 5 rfl 110 _ rfl (by rw[af];rfl);exact zAQ (zAG (v:=(.slice ea i ec)) c8 zBI ((Chg.keep X (fun h=>(fun h=>h.elim (fun h=>by have:=(a0.lt _ h).1;omega) (fun h=>by have:=(ax.lt _ h).1;omega)) (zEO.or h)) (X0.keep Br)).cell rfl)) (Chg.refl _ _) rfl
        refine DagStepsX.cons (zBD.eq) (fun _ _ _ _ _ h=>h) (fun s' w' X U H=>?_) ?_
        ·exact zAQ (zAY (b:=bd) (o:=0) (o':=1) (U 1 rfl) underlying34 rfl zBE rfl) (Chg.refl _ _) rfl
        refine DagStepsX.cons (zBD.eq) (fun _ _ _ _ _ h=>h) (fun s' w' X U H=>?_) ?_
        ·have de:=H 7 rfl 112 _ rfl (by rw[af];rfl);exact zAQ (zAG (v:=(.slice (some ⟨ab,ao,none⟩) n ac)) de zBI ((Chg.keep X (fun h=>(fun h=>h.elim (fun h=>by have:=(a0.lt _ h).1;omega) (fun h=>by have:=(ax.lt _ h).1;omega)) (zEO.or h)) (X0.keep Bd)).cell rfl)) (Chg.refl _ _) rfl
        refine DagStepsX.cons (zBD.eq) (fun _ _ _ _ _ h=>h) (fun s' w' X U H=>?_) ?_
        ·exact zAQ (zAj (v:=(.slice (some ⟨b5,0,none⟩) sn ah)) (U 7 rfl)) (Chg.refl _ _) rfl
        refine DagStepsX.cons (zBD.eq) (fun _ _ _ _ _ h=>h) (fun s' w' X U H=>?_) ?_
        ·exact zAQ (zAj (v:=(I6 (i:Int))) (U 8 rfl)) (Chg.refl _ _) rfl
        refine DagStepsX.cons (zBD.eq) (fun _ _ _ _ _ h=>h) (fun s' w' X U H=>?_) ?_
        ·have dd:=H 9 rfl 114 _ rfl (by rw[af];rfl);have d3:=H 10 rfl 115 _ rfl (by rw[af];rfl);exact zAQ (zAD (b:=b5) (o:=0) (len:=sn) (cap:=ah) (i:=i) (o':=0+i) dd d3 rfl underlying22 zAv qO qO) (Chg.refl _ _) rfl
        refine DagStepsX.cons (zBD.eq) (fun _ _ _ _ _ h=>h) (fun s' w' X U H=>?_) ?_
        ·have c0:=H 11 rfl 116 _ rfl (by rw[af];rfl);exact zAQ (zAG (v:=(I6 s)) c0 zAm (Chg.cell X (fun h=>(zEO.or h).elim (fun h=>(az _ rfl).1 (.inr (.inl h))) (fun h=>(az _ rfl).1 (.inl h))) (X0.cell (c2 i _ (by rw[List.getElem?_map,av];rfl))))) (Chg.refl _ _) rfl
        refine DagStepsX.cons (zBD.eq) (fun _ _ _ _ _ h=>h) (fun s' w' X U H=>?_) ?_
        ·have c3:=H 8 rfl 113 _ rfl (by rw[af];rfl);have dh:=H 12 rfl 117 _ rfl (by rw[af];rfl);exact zAQ (zAD (b:=ab) (o:=ao) (len:=n) (cap:=ac) (i:=sN) (o':=ao+sN) c3 dh qO underlying22 zAv qO qO) (Chg.refl _ _) rfl
        refine DagStepsX.cons (zBD.eq) (fun _ _ _ _ _ h=>h) (fun s' w' X U H=>?_) ?_
        ·have du:=H 13 rfl 118 _ rfl (by rw[af];rfl);exact zAQ (zAG (v:=(I6 yv)) du zAm (Chg.cell X (fun h=>(zEO.or h).elim (fun h=>by have:=(a0.lt ab h).1;omega) (fun h=>by have:=(ax.lt ab h).1;omega)) (X0.cell (E.cell (fun f=>f) (d7 sN _ d8))))) (Chg.refl _ _) rfl
        refine DagStepsX.cons (zCV (fun y h=>by have:=(a0.lt y h).2;omega) (fun y h=>by have:=(ax.lt y h).2;omega)) (zIt.const) (fun s' w' X U H=>?_) ?_
        ·have dr:=H 14 rfl 119 _ rfl (by rw[af];rfl);exact zCH (hs:=n4) underlying22 zAv zDJ dr qD qD qK (by have:=X0.size;have:=X.size;omega)
        refine DagStepsX.cons (zGj rfl) (fun s1 s2 h v w h2=>⟨h2.1,by have:=h 4 109 rfl rfl;rw[this];exact h2.2⟩) (fun s' w' X U H=>?_) ?_
        ·have dw:=H 6 rfl 111 _ rfl (by rw[af];rfl);obtain ⟨fg,dn,dp,f7⟩:=(show ((fun _=>zEF TDI #[.int .i64 yv] n4):zEL) s' (s' 120) w' from H 15 rfl 120 ((fun _=>zEF TDI #[.int .i64 yv] n4)) rfl (by rw[af];rfl));exact zHK (H 4 rfl 109 _ rfl (by rw[af];rfl)) (zBe (hs:=w'.heap.size) underlying22 zAv zJs zDJ rfl qD dw (zAn (zAg ax X0) (X.mono (fun y _ h=>zEO.fst rfl h)) (fun k hk hm=>hO.en k hk hm)) dn rfl (dp.cells rfl) qS (by unfold maxLen;omega) qO (by have:=X0.size;have:=X.size;omega) (fun y h=>h) (Nat.le_refl _)) (by have:=X0.size;have:=X.size;omega) (fun k h1 h2=>h1.elim (fun h=>hO.en k h2 h) (fun h=>by have:=(ax.lt k h2).2;omega))
        refine DagStepsX.cons (zBD.eq) (fun _ _ _ _ _ h=>h) (fun s' w' X U H=>?_) ?_
        ·exact zAQ (zAY (b:=br) (o:=0) (o':=2) (U 5 rfl) underlying34 rfl zBr rfl) (Chg.refl _ _) rfl
        exact DagStepsX.nil
       ·intro s' e3 eh X0 ba U H;replace ba:=ba.mono (M':=fun y=>(fun b=>(Value.slice am i ak).ownBlock=some b) y∨(fun b=>(Value.slice ea i ec).ownBlock=some b) y) (fun y _ h=>by obtain ⟨j,h⟩:=h;rcases zFB h with h|h;exact .inl h.2;exact .inr h.2);obtain ⟨⟨ay,aw,ck⟩,cw,bx⟩:=(show ((fun _=>zDI n1 zDf 1 (i+1) (vs++[Value.slice (some ⟨bq,0,none⟩) c c]) (.slice am i ak) n4):zEL) s' (s' 109) eh from H 4 109 ((fun _=>zDI n1 zDf 1 (i+1) (vs++[Value.slice (some ⟨bq,0,none⟩) c c]) (.slice am i ak) n4)) rfl (by rw[af];rfl));obtain ⟨⟨⟨a1,a2,cg⟩,cp,b7⟩,bw⟩:=(show ((fun s v w=>zDI n1 TDI 1 (i+1) (aq.map (Value.int .i64)++[Value.int .i64 yv]) (.slice ea i ec) n4 v w∧∀b,(s 109).ownBlock=some b→v.ownBlock≠some b):zEL) s' (s' 121) eh from H 16 121 ((fun s v w=>zDI n1 TDI 1 (i+1) (aq.map (Value.int .i64)++[Value.int .i64 yv]) (.slice ea i ec) n4 v w∧∀b,(s 109).ownBlock=some b→v.ownBlock≠some b)) rfl (by rw[af];rfl));have c5:s' 122=(.pointer (some ⟨br,2,none⟩)):=H 17 122 ((fun _ v _=>v=(.pointer (some ⟨br,2,none⟩)))) rfl (by rw[af];rfl);obtain ⟨j17,rfl⟩:=zAs.out (σ:=s') (l:=[(1,(.pointer (some ⟨bd,0,none⟩))),(2,(.pointer (some ⟨bo,0,none⟩))),(3,(.slice (some ⟨b1,0,none⟩) n n)),(4,(.int .i64 ((c:Nat):Int))),(5,(.pointer (some ⟨br,0,none⟩))),(6,(.map (some bm))),(7,(.slice (some ⟨b5,0,none⟩) sn ah)),(8,(.int .i64 ((i:Nat):Int))),(109,(.slice ay (i+1) aw)),(121,(.slice a1 (i+1) a2)),(122,(.pointer (some ⟨br,2,none⟩)))]) ⟨U 1 rfl,U 2 rfl,U 3 rfl,U 4 rfl,U 5 rfl,U 6 rfl,U 7 rfl,U 8 rfl,ck,cg,c5,trivial⟩;clear U H;replace Bd:=Chg.keep ba (fun h=>h.elim (fun h=>by have:=(a0.lt _ h).1;omega) (fun h=>by have:=(ax.lt _ h).1;omega)) (X0.keep Bd);replace Bo:=Chg.keep ba (fun h=>h.elim (fun h=>by have:=(a0.lt _ h).1;omega) (fun h=>by have:=(ax.lt _ h).1;omega)) (X0.keep Bo);replace ae:=Chg.keep ba (fun h=>h.elim (fun h=>by have:=(a0.lt _ h).1;omega) (fun h=>by have:=(ax.lt _ h).1;omega)) (X0.keep ae);replace Br:=Chg.keep ba (fun h=>h.elim (fun h=>by have:=(a0.lt _ h).1;omega) (fun h=>by have:=(ax.lt _ h).1;omega)) (X0.keep Br);replace Mm:=Chg.keepM ba (fun h=>h.elim (fun h=>by have:=(a0.lt _ h).1;omega) (fun h=>by have:=(ax.lt _ h).1;omega)) (X0.keepM Mm);replace Bq:=Chg.keep ba (fun h=>h.elim (fun h=>by have:=cm _ (.inr (.inl h));omega) (fun h=>by have:=cm _ (.inl h);omega)) (X0.keep Bq);have dt:=Chg.trans (Ext.chg X0) ba;replace E:=(E.ext X0).step ba (fun y hy h=>h.elim (fun h=>by have:=(a0.lt y h).1;omega) (fun h=>by have:=(ax.lt y h).1;omega));rw[ck] at cw bx bw;rw[cg] at cp b7 bw;have b2:=hO.push (y:=yv) (N':=.slice ay (i+1) aw) (E':=.slice a1 (i+1) a2) ez b3.symm qO (fun b hb=>by have:=cm b hb;omega) dt (by rw[cz];exact cw) (fun k hk=>by rw[←es];exact bx k hk) (by rw[cr,List.map_append];exact cp) (fun k hk=>by rw[←es];exact b7 k hk) bw;have bu:=zAn hS dt (fun b hb h=>h.elim (fun h=>(az b hb).1 (.inr (.inl h))) (fun h=>(az b hb).1 (.inl h)));have a6:=Nat.le_trans au dt.size;have d0:∀b,(Value.slice (some ⟨b5,0,none⟩) sn ah).ownBlock=some b→¬zHP (.slice a1 (i+1) a2) (.slice ay (i+1) aw) (vs++[.slice (some ⟨bq,0,none⟩) c c]) b:=fun b hb ho=>zHr (az b hb) (by have:=(hS.lt b hb).2;omega) bx b7 ho;refine zAt (b:=br) (o:=2) (c':=#[(I6 0),(.slice ea i ec),(.slice ay (i+1) aw)]) (v:=(.slice ay (i+1) aw)) rfl rfl rfl zBr Br qP rfl ?_;intro w18 a9;replace b2:=b2.chg a9.chg fun b hb h=>by have:=(b2.lt hb).1;have h':b=br:=h;omega
        replace bu:=zAn bu a9.chg fun b hb h=>by have:=(bu.lt b hb).1;have h':b=br:=h;omega
        replace a6:=Nat.le_trans a6 a9.chg.size;replace Bd:=a9.keep qO Bd;replace Bo:=a9.keep qO Bo;replace ae:=a9.keep qO ae;replace Mm:=a9.keepM qO Mm;replace Bq:=a9.keep qO Bq;replace E:=a9.step E qQ;replace Br:=a9.blk;refine qF br 0 1 rfl underlying34 rfl zBE rfl (zAt (b:=br) (o:=1) (c':=#[(I6 0),(.slice a1 (i+1) a2),(.slice ay (i+1) aw)]) (v:=(.slice a1 (i+1) a2)) rfl rfl rfl zBE Br qP rfl ?_);intro e5 a7;replace b2:=b2.chg a7.chg fun b hb h=>by have:=(b2.lt hb).1;have h':b=br:=h;omega
        replace bu:=zAn bu a7.chg fun b hb h=>by have:=(bu.lt b hb).1;have h':b=br:=h;omega
        replace a6:=Nat.le_trans a6 a7.chg.size;replace Bd:=a7.keep qO Bd;replace Bo:=a7.keep qO Bo;replace ae:=a7.keep qO ae;replace Mm:=a7.keepM qO Mm;replace Bq:=a7.keep qO Bq;replace E:=a7.step E qQ;replace Br:=a7.blk;refine zAB (zAS (zAC (zAF (qM (I6 (i:Int)) rfl (qV (zAw (k:=.i64) (a:=(i:Int)) (b:=1) (c:=(i:Int)+1) rfl rfl (zBf qO)) (qA (I6 ((i:Int)+1)) rfl (zAB (zAC ?_))))))));exact ⟨n - (i+1),qO,i+1,ag++[R],st,aq++[yv],vs++[.slice (some ⟨bq,0,none⟩) c c],some ⟨b5,0,none⟩,a1,ay,ah,sn,a2,aw,zAs.out ⟨rfl,rfl,rfl,rfl,rfl,rfl,rfl,rfl,trivial⟩,E,Bd,Bo,ae,Br,Mm,hC.row b3 dc,(by simp[cz]),bp,qO,(by rw[zDs av,List.map_append,cb,d9];rfl),bu,b2,d0,a6,rfl⟩
   ·have fu:i=st.length:=qO
    have hlc:=hC.st_le;refine zAl (zAV (zAV (zAf (zAC (zAA (qV (zAP (vs:=[(I6 0),(.slice ea i ec),(.slice am i ak)]) rfl zBC zAi rfl (Br.cells rfl)) (zAa (b:=bo) (o:=0) (c':=#[(I6 0),(.slice ea i ec),(.slice am i ak)]) rfl rfl qS zAi rfl Bo qL rfl ?_)))))));intro w20 bv;replace hO:=hO.chg bv.chg fun b hb h=>by have:=(hO.lt hb).1;have h':b=bo:=h;omega
    replace Bd:=bv.keep qO Bd;replace ae:=bv.keep qO ae;replace Br:=bv.keep qO Br;replace Mm:=bv.keepM qO Mm;replace E:=bv.step E qQ;replace Bo:=bv.blk;refine zAB (zAW (zBb results37 (vs:=[(.int .i64 0),(.slice ea i ec),(.slice am i ak)]) (b:=bo) rfl zBC zAi rfl (Bo.cells rfl) ?_));have cf:=hC.done ok cx qO;have a4:aq=st.map (atD d):=by rw[bn,fu,List.take_length]
    have cd:ag.length=i:=cz;have bc:aq.length=i:=by rw[a4,List.length_map];omega
    rw[←a4] at cf;refine ⟨⟨⟨0,aq,ag⟩,_,cf,by show ag.length≤n;omega,fun x hx=>?_,rfl,fun M w' ch hM=>⟨ea,ec,am,ak,by show [_,_,_]=[Value.int .i64 0,.slice ea aq.length ec,.slice am ag.length ak];rw[bc,cd],?_,?_⟩⟩,E⟩
    ·rw[a4] at hx;obtain ⟨u,hu,fw⟩:=List.mem_map.1 hx;have h9:=hC.sl u hu;obtain ⟨uN,fj⟩:=Int.eq_ofNat_of_zero_le h9.1;rw[←fw,fj];exact hac _ (List.mem_of_getElem? (zIq ok (show uN<n by omega)))
    ·show zBa _ (.slice ea aq.length ec) aq;rw[bc];have h9:=(hO.chg ch fun b hb h=>by rcases hM b h with h1|⟨cs,h1⟩;have:=(hO.lt hb).1;omega;exact OutSt.typ hO h1 qD qD hb).e;rw[bc] at h9;exact zEe h9 bc.symm
    ·show zDT _ (.slice am ag.length ak) ag;rw[cd];exact (hO.chg ch fun b hb h=>by rcases hM b h with h1|⟨cs,h1⟩;have:=(hO.lt hb).1;omega;exact OutSt.typ hO h1 qD qD hb).intss
end Go.Proofs
namespace Go.Proofs
open Go Go.Eng Go.Sort
set_option maxRecDepth 100000
theorem zQm {n c:Nat} {d:Dfa} (h:OkD n c d) (hn:1≤n∧n≤200) (hc:1≤c∧c≤16):zEV d=0:=by
  obtain ⟨h1,h2,h3,h4,h5⟩:=h;have af:d.next≠[]:=fun he=>by rw[he] at h1;simp at h1;omega
  have ae:zNI d=c:=by
    unfold zNI;cases hq:d.next with
    | nil=>exact absurd hq af
    | cons y l=>exact (h5 y (by rw[hq];simp)).1
  unfold zEV;rw[if_neg qO,if_neg qO,if_neg qO,if_neg,if_neg]
  · rw[Bool.or_eq_true];rintro (hb|hb)
    · unfold zSL at hb;have ac:d.accept≠[]:=fun he=>by rw[he] at h2;simp at h2;omega
      have:=(zQy ac (z:=-1)).2 (fun x hx=>h4 x hx);simp only[Bool.or_eq_true,decide_eq_true_eq] at hb;omega
    · obtain ⟨ab,hr,hb⟩:=List.any_eq_true.1 hb;obtain ⟨hl,hx⟩:=h5 ab hr;have aa:ab≠[]:=fun he=>by rw[he] at hl;simp at hl;omega
      have h6:=(zQy aa (z:=-1)).2 (fun x ad=>(hx x ad).1);have h7:=(zWO aa (z:=((n:Nat):Int))).2 (fun x ad=>(hx x ad).2);simp only[zDc,Bool.or_eq_true,decide_eq_true_eq] at hb;omega
  · intro hb;obtain ⟨ab,hr,hb⟩:=List.any_eq_true.1 hb;obtain ⟨hl,_⟩:=h5 ab hr;simp only[zGy,Bool.or_eq_true,decide_eq_true_eq] at hb;omega
theorem zRn (w0:World) (d:Dfa) (dv:List Value) (s:Int) (h:zBV w0 d dv) (hs:s<d.accept.length) :
  Ret prog 133 #[.agg dv.toArray,.int .i64 s] w0 fun r w=>r=.int .i64 (atD d s)∧Ext w0 w:=by
 obtain ⟨aa,ac,na,nc,rfl,ae,af⟩:=h;refine qR func133 rfl ntmps133 rfl (fun E=>(zAA (zBY (v:=(.agg #[(I6 d.start),(.slice aa d.accept.length ac),(.slice na d.next.length nc)])) (c:=#[(I6 d.start),(.slice aa d.accept.length ac),(.slice na d.next.length nc)]) qD rfl rfl ?_)));intro bq wq Nq;replace E:=E.ext Nq.ext;have Bq:=Nq.blk;refine qA _ rfl (zAB (zAH (zAA (qM _ rfl (qV (zBA rfl rfl) (zAB (qC rfl (fun ad=>?_) (fun ad=>?_))))))))
 ·refine zAA (qA _ rfl (zAB (zAW (zAX (zAZ results133 (v:=(.int .i64 (-1))) rfl ?_)))));exact ⟨zBM (by unfold atD;rw[if_pos ad]),E⟩
 ·obtain ⟨sN,ag⟩:=Int.eq_ofNat_of_zero_le (show 0≤s by omega);obtain ⟨ab,ao,rfl,ah⟩:=zAy ae qO;obtain ⟨y,hy⟩:=zAJ (l:=d.accept) (i:=sN) qO;refine zAO (zAC (zAA (qF bq 0 1 rfl underlying34 rfl zBE rfl (qV (zAG rfl zBI (Bq.cell rfl)) (qM _ rfl (qV (zAD (b:=ab) (o:=ao) (len:=d.accept.length) (cap:=ac) (i:=sN) (o':=ao+sN) rfl rfl qO underlying22 zAv qO qO) (qV (zAG rfl zAm (E.cell (fun f=>f) (ah sN _ hy))) (qA _ rfl (zAB (zAW (zAZ results133 (v:=(.int .i64 y)) rfl ?_)))))))))));exact ⟨zBM (by rw[ag,zDi hy]),E⟩
theorem zRl (w0:World) (n c:Nat) (d:Dfa) (dv:List Value) (s x:Int) (ok:OkD n c d) (h:zBV w0 d dv) (hs:s<n) (hx:0≤x∧x<c) :
  Ret prog 131 #[.agg dv.toArray,.int .i64 s,.int .i64 x] w0 fun r w=>r=.int .i64 (toD d s x.toNat)∧Ext w0 w:=by
 obtain ⟨aa,ac,na,nc,rfl,aj,af⟩:=h;have hnl:=ok.nl;obtain ⟨xN,rfl⟩:=Int.eq_ofNat_of_zero_le hx.1;rw[Int.toNat_natCast];refine qR func131 rfl ntmps131 rfl (fun E=>(zAA (zBY (v:=(.agg #[(I6 d.start),(.slice aa d.accept.length ac),(.slice na d.next.length nc)])) (c:=#[(I6 d.start),(.slice aa d.accept.length ac),(.slice na d.next.length nc)]) qD rfl rfl ?_)));intro bq wq Nq;replace E:=E.ext Nq.ext;have Bq:=Nq.blk;refine qA _ rfl (zAB (zAH (zAA (qM _ rfl (qV (zBA rfl rfl) (zAB (qC rfl (fun ae=>?_) (fun ae=>?_))))))))
 ·refine zAA (qA _ rfl (zAB (zAW (zAX (zAZ results131 (v:=(.int .i64 (-1))) rfl ?_)))));exact ⟨zBM (by rw[zDw ae]),E⟩
 ·obtain ⟨sN,ak⟩:=Int.eq_ofNat_of_zero_le (show 0≤s by omega);obtain ⟨nb,no,rfl,ah⟩:=zBi af qO;obtain ⟨row,ab⟩:=zAJ (l:=d.next) (i:=sN) qO;have hrl:=(ok.row row (List.mem_of_getElem? ab)).1;obtain ⟨ra,rc,ad,ai⟩:=ah sN row ab;obtain ⟨rb,ro,rfl,ag⟩:=zAy ai qO;obtain ⟨y,hy⟩:=zAJ (l:=row) (i:=xN) qO;refine zAO (zAC (zAA (qF bq 0 2 rfl underlying34 rfl zBr rfl (qV (zAG rfl zBh (Bq.cell rfl)) (qM _ rfl (qV (zAD (b:=nb) (o:=no) (len:=d.next.length) (cap:=nc) (i:=sN) (o':=no+sN) rfl rfl qO underlying32 zBE qO qO) (qV (zAG rfl zBI (E.cell (fun f=>f) ad)) (qM _ rfl (qV (zAD (b:=rb) (o:=ro) (len:=row.length) (cap:=rc) (i:=xN) (o':=ro+xN) rfl rfl rfl underlying22 zAv qO qO) (qV (zAG rfl zAm (E.cell (fun f=>f) (ag xN _ hy))) (qA _ rfl (zAB (zAW (zAZ results131 (v:=(.int .i64 y)) rfl ?_))))))))))))));exact ⟨zBM (by rw[ak,zEq ab hy]),E⟩
theorem zGc (b:Bool) (w0:World):Ret prog 88 #[.bool b] w0 fun r w=>r=.int .i64 (if b=true then 0 else -1)∧Ext w0 w:=by
 refine qR func88 rfl ntmps88 rfl (fun E=>(zAA (qA _ rfl (zAB (zAH (zAA (qM _ rfl (zAB (zAx rfl (fun hb=>?_) (fun hb=>?_))))))))))
 ·have aa:=hb;refine zAA (qA _ rfl (zAB (zAW (zAX (zAZ results88 (v:=(.int .i64 0)) rfl ?_)))));exact ⟨zBM (by rw[if_pos hb]),E⟩
 ·have aa:=hb;refine zAO (zAC (zAA (qA _ rfl (zAB (zAW (zAZ results88 (v:=(.int .i64 (-1))) rfl ?_))))));exact ⟨zBM (by rw[hb];rfl),E⟩
end Go.Proofs
namespace Go.Proofs
open Go Go.Eng Go.Sort
set_option maxRecDepth 100000
--BEGIN
def nt (n:Nat) (t:Int):Int:=if t<0 then (n:Int) else t
def ntR (n:Nat) (l:List Int) (x:Nat):List Int:=(l.take x).map (nt n)++l.drop x
def fl (a:Int):Int:=if a<0 then 0 else -1
def zKv (n c:Nat) (d:Dfa):Dfa:=⟨d.start,d.accept.map fl++[0],d.next.map (fun r=>r.map (nt n))++[List.replicate c (n:Int)]⟩
theorem zQq (n:Nat) (l:List Int) (x:Nat):(ntR n l x).length=l.length:=by simp[ntR];omega
theorem zTQ (n:Nat) (l:List Int):ntR n l 0=l:=by simp[ntR]
theorem zWJ (n:Nat) (l:List Int):ntR n l l.length=l.map (nt n):=by simp[ntR]
theorem zWI {n:Nat} {l:List Int} {x:Nat} {t:Int} (h:l[x]?=some t):(ntR n l x)[x]?=some t:=by
 have hx:=zAE h;rw[ntR,List.getElem?_append_right (by simp;omega)];simp only[List.length_map,List.length_take,List.getElem?_drop];rw[show x+(x - min x l.length)=x by omega,h]
theorem zLY {n:Nat} {l:List Int} {x:Nat} {t:Int} (h:l[x]?=some t):ntR n l x=(l.take x).map (nt n)++t::l.drop (x+1):=by
 have hx:=zAE h;have:l[x]=t:=by rw[List.getElem?_eq_getElem hx] at h;simpa using h
 rw[ntR,List.drop_eq_getElem_cons hx,this]
theorem zOF {n:Nat} {l:List Int} {x:Nat} {t:Int} (h:l[x]?=some t):ntR n l (x+1)=(l.take x).map (nt n)++nt n t::l.drop (x+1):=by
 rw[ntR,List.take_add_one,h];simp
theorem zTR {n:Nat} {l:List Int} {x:Nat} {t:Int} (h:l[x]?=some t) (ht:¬t<0):ntR n l x=ntR n l (x+1):=by
 rw[zLY h,zOF h,nt,if_neg ht]
theorem zWH {n:Nat} {l:List Int} {x:Nat} {t:Int} (h:l[x]?=some t) (ht:t<0):(ntR n l x).set x (n:Int)=ntR n l (x+1):=by
 have hx:=zAE h;rw[zLY h,zOF h,nt,if_pos ht,List.set_append_right _ _ (by simp;omega)];simp only[List.length_map,List.length_take];rw[show x - min x l.length=0 by omega];rfl
theorem zXy {n:Nat} {t:Int} (h : -1≤t∧t<n):0≤nt n t∧nt n t<(n+1:Nat):=by
 unfold nt;split<;>omega
theorem zZD {n c:Nat} {d:Dfa} (h:OkD n c d):OkD (n+1) c (zKv n c d) where
 nl:=by simp[zKv,h.nl]
 al:=by simp[zKv,h.al]
 st:=by have:=h.st;show 0≤d.start∧d.start<((n+1:Nat):Int);omega
 acc:=fun x hx=>by
  simp only[zKv,List.mem_append,List.mem_map,List.mem_singleton] at hx;rcases hx with ⟨a,_,rfl⟩|rfl
  ·unfold fl;split<;>omega
  ·decide
 row:=fun r hr=>by
  simp only[zKv,List.mem_append,List.mem_map,List.mem_singleton] at hr;rcases hr with ⟨q,hq,rfl⟩|rfl
  ·have h1:=h.row q hq;refine ⟨by simpa using h1.1,fun x hx=>?_⟩;obtain ⟨t,ht,rfl⟩:=List.mem_map.1 hx;have:=zXy (h1.2 t ht);omega
  ·refine ⟨qP,fun x hx=>?_⟩;rw[List.eq_of_mem_replicate hx];omega
theorem zVf {n c:Nat} {d:Dfa} (h:OkD n c d) {s:Int} {x:Nat} (hs : -1≤s∧s<n) (hx:x<c):toD (zKv n c d) (nt n s) x=nt n (toD d s x):=by
 have ab:=h.nl;rcases Int.lt_or_le s 0 with h1|h1
 ·rw[zDw h1,show nt n s=((n:Nat):Int) by unfold nt;rw[if_pos h1]];rw[zEq (r:=List.replicate c (n:Int)) (t:=(n:Int)) (by simp[zKv,ab]) (by simp[hx])];rfl
 ·obtain ⟨sN,rfl⟩:=Int.eq_ofNat_of_zero_le h1;rw[show nt n ((sN:Nat):Int)=((sN:Nat):Int) by unfold nt;rw[if_neg qO]];obtain ⟨row,aa⟩:=zAJ (l:=d.next) (i:=sN) qO;have hrl:=(h.row row (List.mem_of_getElem? aa)).1;obtain ⟨t,ht⟩:=zAJ (l:=row) (i:=x) qO;rw[zEq aa ht,zEq (r:=row.map (nt n)) (t:=nt n t)]
  ·simp only[zKv];rw[List.getElem?_append_left (by simp;omega),List.getElem?_map,aa];rfl
  ·rw[List.getElem?_map,ht];rfl
theorem zWv {n c:Nat} {d:Dfa} (h:OkD n c d) {s:Int} (hs : -1≤s∧s<n):atD (zKv n c d) (nt n s)=fl (atD d s):=by
 have aa:=h.al;rcases Int.lt_or_le s 0 with h1|h1
 ·rw[show nt n s=((n:Nat):Int) by unfold nt;rw[if_pos h1],show atD d s = -1 by unfold atD;rw[if_pos h1]];rw[zDi (t:=0) (by simp[zKv,aa])];rfl
 ·obtain ⟨sN,rfl⟩:=Int.eq_ofNat_of_zero_le h1;rw[show nt n ((sN:Nat):Int)=((sN:Nat):Int) by unfold nt;rw[if_neg qO]];obtain ⟨a,ha⟩:=zAJ (l:=d.accept) (i:=sN) qO;rw[zDi ha,zDi (t:=fl a)];simp only[zKv];rw[List.getElem?_append_left (by simp;omega),List.getElem?_map,ha];rfl
theorem zSG {n c:Nat} {d:Dfa} (h:OkD n c d):∀{w:List Nat} {s:Int},inW c w→-1≤s∧s<n→beh (zKv n c d) (nt n s) w=fl (beh d s w)
  | [],s,_,hs=>zWv h hs
  | x::w,s,hw,hs=>by
    simp only[beh];rw[zVf h hs hw.head];exact zSG h hw.tail h.to
theorem zUN {n c:Nat} {d:Dfa} (h:OkD n c d) {w:List Nat} (hw:inW c w):beh (zKv n c d) (zKv n c d).start w=fl (beh d d.start w):=by
 have hst:=h.st;have:=zSG h (s:=d.start) hw qO
 rwa [show nt n d.start=d.start by unfold nt;rw[if_neg qO]] at this
theorem zTT {n c:Nat} {d:Dfa}:∀x∈(zKv n c d).accept,x<2147483648:=fun x hx=>by
 simp only[zKv,List.mem_append,List.mem_map,List.mem_singleton] at hx;rcases hx with ⟨a,_,rfl⟩|rfl
 ·unfold fl;split<;>omega
 ·decide
theorem zCc.congr {c:Nat} {f g:List Nat→Int} {C:Dfa} (h:zCc c f C) (e:∀w,inW c w→f w=g w):zCc c g C:=by
 obtain ⟨m,h1,h2,h3,h4⟩:=h;exact ⟨m,h1,fun w hw=>(h2 w hw).trans (e w hw),h3,h4⟩
--END
def cloF (l:List Int) (hs:Nat) (r:Value) (w:World):Prop:=∃b rest k,r=.slice (some ⟨b,0,none⟩) l.length k∧hs≤b∧Blk w b (l.map (Value.int .i64)++rest).toArray TDI∧l.length+rest.length=k∧k≤9223372036854775807
theorem zUC (w0:World) (v:Value) (l:List Int) (h:zBa w0 v l) (hl:l.length≤2000000) (h1:0<l.length) :
  Ret prog 87 #[v] w0 fun r w=>cloF l w0.heap.size r w∧Ext w0 w:=by
 obtain ⟨a,c,rfl⟩:=zCQ.form h;simp only[List.length_map] at h⊢;obtain ⟨base,ad⟩:∃base,base=w0.heap.size:=⟨_,rfl⟩;obtain ⟨b,o,rfl,af⟩:=zAy h h1;refine qR func87 rfl ntmps87 rfl (fun E=>(zAA (qA _ rfl (zAB (zAH (zAA (qM _ rfl (zBo (v:=(.bool ((some (⟨b,o,none⟩:Addr)).isNone))) rfl rfl qD (zKM underlying22 rfl rfl) (zAB ?_)))))))));have ah:((some (⟨b,o,none⟩:Addr)).isNone)=false:=rfl;refine zAN (cbk ah) (zAO (zAC (zAA (zGM qD underlying22 zAv ?_))));intro bq wq Nq;have Fq:=Nq.ge E;replace E:=E.ext Nq.ext;have Bq:=Nq.blk;refine qM _ rfl ?_;have aa:=zGT (base:=base) (size:=1) Bq qO;have ag:base≤wq.heap.size:=by have:=Nq.ext.size;omega
 refine zBt (base:=base) (n:=0) (m:=l.length) (xs:=[]) (news:=l.map (Value.int .i64)) (size:=1) (bytes:=8) (v:=(.slice (some ⟨bq,0,none⟩) 0 0)) qD underlying22 zAv zJs zDJ rfl qD rfl aa rfl qP (fun i u hu=>by rw[List.getElem?_map,Option.map_eq_some_iff] at hu;obtain ⟨x,hx,rfl⟩:=hu;exact Nq.ext.cell (af i x hx)) qS (by unfold maxLen;omega) qO (ag) ?_;intro v9 w29 ac ae Dv9;replace E:=E.step ae (fun x hx h=>absurd (aa.lt x h).1 qO);obtain ⟨la,lc,rfl⟩:=zBR ac;refine qA _ rfl (zAB (zAW (zAZ results87 (v:=(.slice la (0+l.length) lc)) rfl ?_)));simp only[Nat.zero_add,List.nil_append] at ac;simp only[Nat.zero_add];rcases ac.2 with ⟨_,h2⟩|⟨g,cap,ab,h1,h2,h3,h4,h5,h6,h7⟩
 ·omega
 ·simp only[Value.slice.injEq] at h1;obtain ⟨rfl,_,rfl⟩:=h1;have e9:(l.map (Value.int .i64)++ab.toList.drop (l.length*1)).toArray=ab:=by rw[←h7,List.take_append_drop]
  refine ⟨⟨g,ab.toList.drop (l.length*1),lc,rfl,qO,by rw[e9];exact h3,?_,h5⟩,E⟩;have e8:=congrArg Array.size e9;simp only[List.size_toArray,List.length_append,List.length_map] at e8;omega
theorem zVy {w:World} {b base k:Nat} {l:List Int} {rest:List Value} (h:Blk w b (l.map (Value.int .i64)++rest).toArray TDI) (hb:base≤b) (hk:l.length+rest.length=k) (hm:k≤9223372036854775807):w.ownsRow base TDI 1 (.slice (some ⟨b,0,none⟩) l.length k) l.length (l.map (Value.int .i64)):=
 ⟨qP,.inr ⟨b,k,_,rfl,hb,h,qO,hm,by simp;omega,by simp[List.take_append_of_le_length]⟩⟩
end Go.Proofs
namespace Go.Proofs
open Go Go.Eng Go.Sort
set_option maxRecDepth 100000
theorem zSy (w0:World) (b sc n hs:Nat) (y:Int) (T:TypeId) (hB:Blk w0 b #[.int .i64 y] T) (h1:1≤n) (hn:n≤60000) (hhs:hs≤w0.heap.size) :
  Ret prog 74 #[.slice (some ⟨b,0,none⟩) 1 sc,.int .i64 ((n:Nat):Int)] w0 fun r w=>zDI hs TDI 1 n ((List.replicate n y).map (Value.int .i64)) (.slice none 0 0) hs r w∧Ext w0 w:=by
 refine (zGP w0 b sc n y T hB h1 hn).mono ?_;rintro r w ⟨⟨g,rfl,hg,hG⟩,e⟩;have ho:w.ownsRow hs TDI 1 (.slice (some ⟨g,0,none⟩) n n) n ((List.replicate n y).map (Value.int .i64)):=zFN hG qO qP;exact ⟨⟨⟨_,_,rfl⟩,ho,fun k hk=>.inr (ho.lt k hk).1⟩,e⟩
theorem zRm (y:Int) (w0:World):Ret prog 88 #[.bool (decide (y<0))] w0 fun r w=>r=.int .i64 (fl y)∧Ext w0 w:=by
 refine (zGc (decide (y<0)) w0).mono ?_;rintro r w ⟨rfl,e⟩;exact ⟨by unfold fl;simp only[decide_eq_true_eq],e⟩
theorem zUT {c1 c2 i base e size n hs:Nat} {M1 M2:Nat→Prop} {xs:List Value} {ws:List Nat} (h1:∀y,M1 y→y<hs) (h2:∀y,M2 y→y<hs):zBD (two c1 c2 M1 M2) i ws (fun _=>zDI base e size n xs (.slice none 0 0) hs):=by
 rintro p _ _ σ v w w' x ⟨h3,h4,h5⟩;refine ⟨h3,zAn h4 x fun k hk h=>?_,h5⟩;have h6:hs≤k:=(h5 k hk).elim (fun h=>by cases h) id;rcases zFB h with h|h
 ·have:=h1 k h.2;omega
 ·have:=h2 k h.2;omega
theorem zTa {c1 c2 i e hs t:Nat} {M1 M2:Nat→Prop} {ws:List Nat} (h1:∀y,M1 y→y<hs) (h2:∀y,M2 y→y<hs):zBD (two c1 c2 M1 M2) i ws (fun s=>zEF e #[s t] hs):=by
 rintro p _ _ σ v w w' x ⟨b,h3,h4,h5⟩;exact ⟨b,h3,x.keep (fun h=>by rcases zFB h with h|h;have:=h1 b h.2;omega;have:=h2 b h.2;omega) h4,h5⟩
theorem zUR {c1 c2 base e size n hs t:Nat} {M1 M2:Nat→Prop} {xs:List Value} {old:Value} {ws:List Nat} (h:∀k,(old.ownBlock=some k∨hs≤k)→¬M2 k):zBD (two c1 c2 M1 M2) c1 ws (fun s v w=>zDI base e size n (xs++[s t]) old hs v w∧∀b,(s t).ownBlock=some b→v.ownBlock≠some b):=by
 rintro p hp _ σ v w w' x ⟨⟨h1,h2,h3⟩,h6⟩;rcases zKC x with h4|h4|h4
 ·exact absurd h4.1 hp
 ·exact ⟨⟨h1,zAn h2 h4.2 (fun k hk=>h k (h3 k hk)),h3⟩,h6⟩
 ·exact ⟨⟨h1,zAg h2 h4,h3⟩,h6⟩
theorem zUS {c1 c2 base e size n hs:Nat} {M1 M2:Nat→Prop} {xs:List Value} {old:Value} {ws:List Nat} (hw:ws.contains c1=true):zBD (two c1 c2 M1 M2) c2 ws (fun _=>zDI base e size n xs old hs):=by
 rintro p hp aa σ v w w' x ⟨h1,h2,h3⟩;rcases zKC x with h5|h5|h5
 ·rw[h5.1,hw] at aa;cases aa
 ·exact absurd h5.1 hp
 ·exact ⟨h1,zAg h2 h5,h3⟩
theorem LSt.intss {w:World} {base:Nat} {N:Value} {vs:List Value} {rows:List (List Int)} (h:LSt zDf TDI 1 w base N vs (rows.map zKY)):zDT w N rows:=by
 have hl:vs.length=rows.length:=by simpa using h.len
 refine ⟨vs,?_,hl,fun i u l hu hl=>?_⟩
 ·have ho:=h.o;rw[show vs=(vs.map fun x=>[x]).flatten by simp[List.flatten_eq_flatMap,List.flatMap_map]] at ho;exact zCz ho (by intro r hr;simp only[List.mem_map] at hr;obtain ⟨x,_,rfl⟩:=hr;rfl) (by simp[hl]) qD
 ·exact zEe (h.inn i u (zKY l) hu (by rw[List.getElem?_map,hl];rfl)) rfl
theorem OutSt.last {w w':World} {base n4:Nat} {E N N' u:Value} {vs:List Value} {acc row:List Int} {rows:List (List Int)} (h:OutSt w base E N vs acc rows) (h4:n4=w.heap.size) (hb:base≤n4) (C:Chg (fun b=>N.ownBlock=some b∨E.ownBlock=some b) w w')
  (ON:w'.ownsRow base zDf 1 N' (rows.length+1) (vs++[u])) (hu:w'.ownsRow n4 TDI 1 u row.length (row.map (Value.int .i64))) (WN:∀k,N'.ownBlock=some k→N.ownBlock=some k∨n4≤k) (ap:∀b,u.ownBlock=some b→N'.ownBlock≠some b) :
  LSt zDf TDI 1 w' base N' (vs++[u]) ((rows++[row]).map zKY):=by
 have hl:vs.length=rows.length:=by simpa using h.n.len
 have ab:∀(i:Nat) v,(vs++[u])[i]?=some v→vs[i]?=some v∨(i=vs.length∧v=u):=fun i v hv=>by
  rcases Nat.lt_or_ge i vs.length with h1|h1
  ·left;rwa [List.getElem?_append_left h1] at hv
  ·right;rw[List.getElem?_append_right h1] at hv;have h2:=zAE hv;simp at h2;rw[show i - vs.length=0 by omega] at hv;simp at hv;exact ⟨qO,hv.symm⟩
 refine ⟨by simpa using ON,by simp[hl],fun i v p hv hp=>?_,fun i v b hv aa e=>?_⟩
 ·rw[List.map_append] at hp;rcases ab i v hv with h1|⟨h1,rfl⟩
  ·rw[List.getElem?_append_left (by have:=zAE h1;simp;omega)] at hp;exact zAn (h.n.inn i v p h1 hp) C fun b aa hC=>hC.elim (fun h4=>h.n.apo i v b h1 aa h4) (fun h4=>h.ei i v b h1 aa h4)
  ·rw[h1,hl,List.getElem?_append_right qP,List.length_map,Nat.sub_self] at hp;simp[zKY] at hp;subst hp;exact zFM hu hb
 ·rcases ab i v hv with h1|⟨_,rfl⟩
  ·rcases WN b e with h2|h2
   ·exact h.n.apo i v b h1 aa h2
   ·have:=(h.lt (.inr (.inr ⟨i,v,h1,aa⟩))).2;omega
  ·exact ap b aa e
theorem zPU {w:World} {base:Nat} {d:Dfa} {E N:Value} {vs:List Value} (hE:∃a c,E=.slice a d.accept.length c) (hN:∃a c,N=.slice a d.next.length c) (oE:w.ownsRow base TDI 1 E d.accept.length (d.accept.map (Value.int .i64))) (oN:LSt zDf TDI 1 w base N vs (d.next.map zKY)):zBV w d [.int .i64 d.start,E,N]:=by
 obtain ⟨ea,ec,rfl⟩:=hE;obtain ⟨na,nc,rfl⟩:=hN;exact ⟨ea,ec,na,nc,rfl,zEe oE rfl,oN.intss⟩
def zYp (c:Nat) (f:List Nat→Int) (n m:Nat) (r:Value) (w:World):Prop:=∃C ca cc ma mc,zCc c f C∧C.next.length≤n∧(∀x∈C.accept,x<2147483648)∧r=.agg #[.int .i64 C.start,.slice ca C.accept.length cc,.slice ma C.next.length mc]∧zCu m w C [.int .i64 C.start,.slice ca C.accept.length cc,.slice ma C.next.length mc]
theorem zEy (w0:World) (n c:Nat) (d:Dfa) (dv:List Value) (ok:OkD n c d) (h:zBV w0 d dv) (hn:n≤20000∧1≤c∧c≤16) (hac:∀x∈d.accept,x<2147483648) :
  Ret prog 37 #[.agg dv.toArray] w0 fun r w=>zYp c (beh d d.start) n w0.heap.size r w∧Ext w0 w:=by
 refine (zWq w0 n c d dv ok h hn hac).mono ?_;rintro r w ⟨⟨C,cv,hC,hl,ha,rfl,hN⟩,e⟩;have h1:=hN.at';obtain ⟨ca,cc,ma,mc,rfl,_,_⟩:=h1;exact ⟨⟨C,ca,cc,ma,mc,hC,hl,ha,rfl,hN⟩,e⟩
theorem zWg (w0:World) (n c:Nat) (d:Dfa) (dv:List Value) (ok:OkD n c d) (h:zBV w0 d dv) (hn:1≤n∧n≤19999∧1≤c∧c≤16) :
  Ret prog 54 #[.agg dv.toArray] w0 fun r w=>zYp c (fun w=>fl (beh d d.start w)) (n+1) w0.heap.size r w∧Ext w0 w:=by
 obtain ⟨aa,ac,na,nc,rfl,be,bg⟩:=h;have b4:=ok.nl;have ck:=ok.al;have hst:=ok.st;rw[ck,b4];rw[ck] at be;rw[b4] at bg;obtain ⟨nb,no,rfl,d0⟩:=zBi (n:=n) bg qO;obtain ⟨ab,ao,rfl,b6⟩:=zAy (n:=n) be qO;have aw:∀(s:Nat),s<n→∃row ra rc,d.next[s]?=some row∧row.length=c∧w0.cell? ⟨nb,no+s,none⟩=some (.slice ra row.length rc)∧zBa w0 (.slice ra row.length rc) row:=fun s hs=>by
  obtain ⟨row,av⟩:=zAJ (l:=d.next) (i:=s) qO;have cp:=(ok.row row (List.mem_of_getElem? av)).1;obtain ⟨ra,rc,h1,h2⟩:=d0 s row av;exact ⟨row,ra,rc,av,cp,h1,h2⟩
 have hab:ab<w0.heap.size:=by
  obtain ⟨x,hx⟩:=zAJ (l:=d.accept) (i:=0) qO;exact World.block_lt_of_cell? w0 _ (b6 0 x hx)
 have hnb:nb<w0.heap.size:=by
  obtain ⟨row,ra,rc,_,_,h1,_⟩:=aw 0 qO;exact World.block_lt_of_cell? w0 _ h1
 refine qR func54 rfl ntmps54 rfl (fun E=>(zAA (zBY (v:=(.agg #[(I6 d.start),(.slice (some ⟨ab,ao,none⟩) n ac),(.slice (some ⟨nb,no,none⟩) n nc)])) (c:=#[(I6 d.start),(.slice (some ⟨ab,ao,none⟩) n ac),(.slice (some ⟨nb,no,none⟩) n nc)]) qD rfl rfl ?_)));intro bd wd Nd;have Fd:=Nd.ge E;replace E:=E.ext Nd.ext;have Bd:=Nd.blk;refine zBB (c:=#[(I6 0),(.slice none 0 0),(.slice none 0 0)]) qD zBn rfl ?_;intro bo wo No;have Fo:=No.ge E;have Oo_bd:=No.lt Bd;replace Bd:=No.keep Bd;replace E:=E.ext No.ext;have Bo:=No.blk;refine zAB (zAA (qF bd 0 2 rfl underlying34 rfl zBr rfl (qV (zAG (v:=(.slice (some ⟨nb,no,none⟩) n nc)) rfl zBh (Bd.cell rfl)) (qV (zAK (ad:=some ⟨nb,no,none⟩) (n:=n) (cap:=nc) underlying32 rfl) (qA (I6 (n:Int)) rfl (zAB (zAA (qF bd 0 0 rfl underlying34 rfl zAv rfl (qV (zAG (v:=(I6 d.start)) rfl zAm (Bd.cell rfl)) (qV (zBF (ps:=[(0,(I6 d.start))]) (v:=(.agg #[(I6 d.start),(.slice none 0 0),(.slice none 0 0)])) rfl qK) (zAd (v:=(.agg #[(I6 d.start),(.slice none 0 0),(.slice none 0 0)])) (c:=#[(I6 d.start),(.slice none 0 0),(.slice none 0 0)]) (n:=3) qD zBn rfl zAi rfl rfl rfl qS ?_)))))))))));intro bx wx Nx;have Fx:=Nx.ge E;have Ox_bd:=Nx.lt Bd;have Ox_bo:=Nx.lt Bo;replace Bd:=Nx.keep Bd;replace Bo:=Nx.keep Bo;replace E:=E.ext Nx.ext;have Bx:=Nx.blk;refine zAB (zAH (zAA (qF bd 0 2 rfl underlying34 rfl zBr rfl (qV (zAG (v:=(.slice (some ⟨nb,no,none⟩) n nc)) rfl zBh (Bd.cell rfl)) (qV (zAK (ad:=some ⟨nb,no,none⟩) (n:=n) (cap:=nc) underlying32 rfl) (qM (I6 0) rfl (zAB (zAT ?_))))))));have dm:=Bd.lt;have cw:=Bo.lt;obtain ⟨n1,dh⟩:∃n1,n1=wx.heap.size:=⟨_,rfl⟩;have dt:bx<n1:=by have:=Bx.lt;omega
 refine zAo (fun nn_ σ W1=>∃(i:Nat) (an:List (List Int)) (am:List Int) (vs:List Value) (ea aj:Option Addr) (ec ak:Nat),(∃jj_,σ=zCT jj_ [(1,(P6 bd 0)),(2,(P6 bo 0)),(3,(I6 (n:Int))),(4,(P6 bx 0)),(17,(.slice (some ⟨nb,no,none⟩) n nc)),(18,(I6 (n:Int))),(19,(I6 (i:Int)))])∧Chg zAe w0 W1∧Blk W1 bd #[(I6 d.start),(.slice (some ⟨ab,ao,none⟩) n ac),(.slice (some ⟨nb,no,none⟩) n nc)] 34∧Blk W1 bo #[(I6 0),(.slice none 0 0),(.slice none 0 0)] 34∧Blk W1 bx (#[Value.int .i64 d.start,.slice ea i ec,.slice aj i ak]) 34∧(i≤n)∧(an=(d.next.take i).map (fun r=>r.map (nt n)))∧(am=(d.accept.take i).map fl)∧(OutSt W1 n1 (.slice ea i ec) (.slice aj i ak) vs am an)∧(n1≤W1.heap.size)∧nn_=n - i) (n:=n - 0) ?_ ?_
 ·exact ⟨0,[],[],[],none,none,0,0,zAs.out ⟨rfl,rfl,rfl,rfl,rfl,rfl,rfl,trivial⟩,E,Bd,Bo,Bx,Nat.zero_le _,rfl,rfl,OutSt.start _ _,qO,rfl⟩
 ·clear E Bd Bo Bx;rintro _ _ W1 ⟨i,an,am,vs,ea,aj,ec,ak,⟨j1,rfl⟩,E,Bd,Bo,Bx,hi,ap,aq,hO,ax,rfl⟩;refine zAA (qV (zBA (k:=.i64) (a:=(i:Int)) (b:=(n:Int)) rfl rfl) (zAB (zAH (qC rfl (fun dj=>?_) (fun dj=>?_)))))
  ·obtain ⟨row,ra,rc,av,cp,bc,cu⟩:=aw i qO;obtain ⟨z0,hz0⟩:∃z0,z0=(W1).heap.size:=⟨_,rfl⟩;have bk:∀b,zHP (.slice ea i ec) (.slice aj i ak) vs b→b<z0:=fun b hb=>by have:=(hO.lt hb).2;omega
   have hnz:n1≤z0:=qO
   refine zAO (zAC (zAH (zAT (zAA (qM (I6 (i:Int)) rfl (qV (zAD (b:=nb) (o:=no) (len:=n) (cap:=nc) (i:=i) (o':=no+i) rfl rfl rfl underlying32 zBE qO qO) (qV (zAG (v:=(.slice ra row.length rc)) rfl zBI (E.cell (fun f=>f) bc)) (qA (I6 (i:Int)) rfl (qA (.slice ra row.length rc) rfl (zAB (zAA (qM (.slice ra row.length rc) rfl (qE rfl (zAU (vs:=[(.slice ra row.length rc)]) func87 kQ kQ rfl) (zUC _ _ row (cu.ext E) qO qO) ?_)))))))))))));rintro _ w9 ⟨⟨bq,bi,k9,rfl,hq,hQ,c5,du⟩,X9⟩;replace Bd:=X9.keep Bd;replace Bo:=X9.keep Bo;replace Bx:=X9.keep Bx;replace hO:=hO.ext X9;replace ax:=Nat.le_trans ax X9.size;replace E:=E.ext X9;have hqz:z0≤bq:=qO
   rw[show row.map (Value.int .i64)=(ntR n row 0).map (Value.int .i64) by rw[zTQ]] at hQ;refine qA (.slice (some ⟨bq,0,none⟩) row.length k9) rfl (zAB (zAH (zAA (qM (.slice (some ⟨bq,0,none⟩) row.length k9) rfl (qV (zAK (ad:=some ⟨bq,0,none⟩) (n:=row.length) (cap:=k9) underlying22 rfl) (qM (I6 0) rfl (zAB (zAT (zAo (fun nn_ σ W3=>∃(x:Nat),(∃jj_,σ=zCT jj_ [(1,(P6 bd 0)),(2,(P6 bo 0)),(3,(I6 (n:Int))),(4,(P6 bx 0)),(5,(I6 (i:Int))),(7,(.slice (some ⟨bq,0,none⟩) row.length k9)),(17,(.slice (some ⟨nb,no,none⟩) n nc)),(18,(I6 (n:Int))),(19,(I6 (i:Int))),(26,(.slice (some ⟨bq,0,none⟩) row.length k9)),(27,(I6 (row.length:Int))),(28,(I6 (x:Int)))])∧Chg zAe w0 W3∧Blk W3 bd #[(I6 d.start),(.slice (some ⟨ab,ao,none⟩) n ac),(.slice (some ⟨nb,no,none⟩) n nc)] 34∧Blk W3 bo #[(I6 0),(.slice none 0 0),(.slice none 0 0)] 34∧Blk W3 bx (#[Value.int .i64 d.start,.slice ea i ec,.slice aj i ak]) 34∧Blk W3 bq (((ntR n row x).map (Value.int .i64)++bi).toArray) 3∧(x≤c)∧(OutSt W3 n1 (.slice ea i ec) (.slice aj i ak) vs am an)∧(n1≤W3.heap.size)∧nn_=c - x) (n:=c - 0) ?_ ?_)))))))))
   ·exact ⟨0,zAs.out ⟨rfl,rfl,rfl,rfl,rfl,rfl,rfl,rfl,rfl,rfl,rfl,rfl,trivial⟩,E,Bd,Bo,Bx,hQ,Nat.zero_le _,hO,ax,rfl⟩
   ·clear E Bd Bo Bx hQ;rintro _ _ W3 ⟨x,⟨j3,rfl⟩,E,Bd,Bo,Bx,hQ,hx,hO,ax,rfl⟩;refine zAA (qV (zBA (k:=.i64) (a:=(x:Int)) (b:=(row.length:Int)) rfl rfl) (zAB (zAH (qC rfl (fun bw=>?_) (fun bw=>?_)))))
    ·obtain ⟨t,ht⟩:=zAJ (l:=row) (i:=x) qO;refine zAO (zAC (zAH (zAT (zAA (qM (I6 (x:Int)) rfl (qV (zAD (b:=bq) (o:=0) (len:=row.length) (cap:=k9) (i:=x) (o':=0+x) rfl rfl rfl underlying22 zAv qO qO) (qV (zAG (v:=(I6 t)) rfl zAm (by rw[Nat.zero_add];exact zTf hQ (zWI ht))) (qA (I6 (x:Int)) rfl (qA (I6 t) rfl (zAB (zAA (qM (I6 t) rfl (qV (zBA (k:=.i64) (a:=t) (b:=0) rfl rfl) (zAB (qC rfl (fun a4=>?_) (fun a4=>?_))))))))))))))))
     ·refine zAF (qM (.slice (some ⟨bq,0,none⟩) row.length k9) rfl (qM (I6 (x:Int)) rfl (qM (I6 (n:Int)) rfl (qV (zAD (b:=bq) (o:=0) (len:=row.length) (cap:=k9) (i:=x) (o':=0+x) rfl rfl rfl underlying22 zAv qO qO) (zAt (b:=bq) (o:=0+x) (c':=((ntR n row (x+1)).map (Value.int .i64)++bi).toArray) (v:=(I6 (n:Int))) rfl rfl rfl zAv hQ (by simp[zQq];omega) (by rw[Nat.zero_add,zTe (by rw[zQq];omega),zWH ht a4]) ?_)))));intro w6 S6;replace hO:=hO.chg S6.chg fun b hb h=>by have:=bk b hb;have h':b=bq:=h;omega
      replace ax:=Nat.le_trans ax S6.chg.size;replace Bd:=S6.keep qO Bd;replace Bo:=S6.keep qO Bo;replace Bx:=S6.keep qO Bx;replace E:=S6.step E qQ;replace hQ:=S6.blk;refine zAB (zAS (zAC (zAF (qV (zAw (k:=.i64) (a:=(x:Int)) (b:=1) (c:=(x:Int)+1) rfl rfl (zBf qO)) (qM (I6 ((x:Int)+1)) rfl (zAB (zAC ?_)))))));exact ⟨c - (x+1),qO,x+1,zAs.out ⟨rfl,rfl,rfl,rfl,rfl,rfl,rfl,rfl,rfl,rfl,rfl,rfl,trivial⟩,E,Bd,Bo,Bx,hQ,qO,hO,ax,rfl⟩
     ·rw[zTR ht a4] at hQ;refine zAO (zAS (zAC (zAF (qV (zAw (k:=.i64) (a:=(x:Int)) (b:=1) (c:=(x:Int)+1) rfl rfl (zBf qO)) (qM (I6 ((x:Int)+1)) rfl (zAB (zAC ?_)))))));exact ⟨c - (x+1),qO,x+1,zAs.out ⟨rfl,rfl,rfl,rfl,rfl,rfl,rfl,rfl,rfl,rfl,rfl,rfl,trivial⟩,E,Bd,Bo,Bx,hQ,qO,hO,ax,rfl⟩
    ·have c7:x=row.length:=qO
     rw[c7,zWJ] at hQ;have cm:=zVy (base:=bq) hQ (Nat.le_refl _) (by rw[List.length_map];exact c5) du;rw[List.length_map] at cm;obtain ⟨n4,bs⟩:∃n4,n4=(W3).heap.size:=⟨_,rfl⟩;have bn:an.length=i:=by rw[ap,List.length_map,List.length_take];omega
     have ar:am.length=i:=by rw[aq,List.length_map,List.length_take];omega
     have ah:(W3).ownsRow n1 TDI 1 (.slice ea i ec) i (am.map (Value.int .i64)):=by have h9:=hO.e;rwa [ar] at h9
     have ai:(W3).ownsRow n1 zDf 1 (.slice aj i ak) i vs:=hO.n.on (by rw[List.length_map];omega);have bv:=zIq ok (show i<n by omega);obtain ⟨yv,db⟩:∃y,y=atD d ((i:Nat):Int):=⟨_,rfl⟩;rw[←db] at bv;refine zAl (zAV (zAV (zAf (zAC ?_))));obtain ⟨ee,ag⟩:∃Fs:List zEL,Fs=[(fun _ v _=>v=(P6 bx 2)),(fun _ v _=>v=(.slice aj i ak)),(fun _ v _=>v=(.slice (some ⟨bq,0,none⟩) row.length k9)),(fun _=>zEF zDf #[.slice (some ⟨bq,0,none⟩) row.length k9] n4),(fun _=>zDI n1 zDf 1 (i+1) (vs++[Value.slice (some ⟨bq,0,none⟩) row.length k9]) (.slice aj i ak) n4),(fun _ v _=>v=(P6 bx 1)),(fun _ v _=>v=(.slice ea i ec)),(fun _ v _=>v=(P6 bd 1)),(fun _ v _=>v=(.slice (some ⟨ab,ao,none⟩) n ac)),(fun _ v _=>v=(I6 (i:Int))),(fun _ v _=>v=(.pointer (some ⟨ab,ao+i,none⟩))),(fun _ v _=>v=(I6 yv)),(fun _ v _=>v=(.bool (decide (yv<0)))),(fun _ v _=>v=(I6 (fl yv))),(fun _=>zEF TDI #[.int .i64 (fl yv)] n4),(fun s v w=>zDI n1 TDI 1 (i+1) (am.map (Value.int .i64)++[Value.int .i64 (fl yv)]) (.slice ea i ec) n4 v w∧∀b,(s 44).ownBlock=some b→v.ownBlock≠some b),(fun _ v _=>v=(P6 bx 2))]:=⟨_,rfl⟩;refine zHM (two 4 15 (fun b=>(Value.slice aj i ak).ownBlock=some b) (fun b=>(Value.slice ea i ec).ownBlock=some b)) 17 [40,41,42,43,44,45,46,47,48,49,50,51,52,53,54,55,56] [[],[0],[],[2],[1,3],[],[5],[],[7],[],[8,9],[10],[11],[4,12],[13],[6,13,14],[0,1,2,3,4,5,6]] [[],[0],[],[2],[1,0,3,2],[],[5],[],[7],[],[8,7,9],[10,8,7,9],[11,10,8,7,9],[4,1,0,3,2,12,11,10,8,7,9],[13,4,1,0,3,2,12,11,10,8,7,9],[6,5,13,4,1,0,3,2,12,11,10,8,7,9,14],[0,1,2,3,4,5,6]] ee ag qK mixed qK qK qK ?_ ?_
     ·intro wd X0;refine DagStepsX.cons (zBD.eq) (fun _ _ _ _ _ h=>h) (fun s' w' X U H=>?_) ?_
      ·exact zAQ (zAY (b:=bx) (o:=0) (o':=2) (U 4 rfl) underlying34 rfl zBr rfl) (Chg.refl _ _) rfl
      refine DagStepsX.cons (zBD.eq) (fun _ _ _ _ _ h=>h) (fun s' w' X U H=>?_) ?_
      ·have cx:=H 0 rfl 40 _ rfl (by rw[ag];rfl);exact zAQ (zAG (v:=(.slice aj i ak)) cx zBh ((Chg.keep X (fun h=>(fun h=>h.elim (fun h=>by have:=(ai.lt _ h).1;omega) (fun h=>by have:=(ah.lt _ h).1;omega)) (zEO.or h)) (X0.keep Bx)).cell rfl)) (Chg.refl _ _) rfl
      refine DagStepsX.cons (zBD.eq) (fun _ _ _ _ _ h=>h) (fun s' w' X U H=>?_) ?_
      ·exact zAQ (zAj (v:=(.slice (some ⟨bq,0,none⟩) row.length k9)) (U 7 rfl)) (Chg.refl _ _) rfl
      refine DagStepsX.cons (zCV (fun y h=>by have:=(ai.lt y h).2;omega) (fun y h=>by have:=(ah.lt y h).2;omega)) (zIt.const) (fun s' w' X U H=>?_) ?_
      ·have cv:=H 2 rfl 42 _ rfl (by rw[ag];rfl);exact zCH (hs:=n4) underlying32 zBE zEj cv qD qD qK (by have:=X0.size;have:=X.size;omega)
      refine DagStepsX.cons (zGk (fun k hk hm=>hk.elim (fun h=>hO.en k hm h) (fun h=>by have:=(ah.lt k hm).2;omega))) (zIt.const) (fun s' w' X U H=>?_) ?_
      ·have dw:=H 1 rfl 41 _ rfl (by rw[ag];rfl);obtain ⟨b43,di,d3,g43⟩:=(show ((fun _=>zEF zDf #[.slice (some ⟨bq,0,none⟩) row.length k9] n4):zEL) s' (s' 43) w' from H 3 rfl 43 ((fun _=>zEF zDf #[.slice (some ⟨bq,0,none⟩) row.length k9] n4)) rfl (by rw[ag];rfl));exact zBe (hs:=n4) underlying32 zBE zNN zEj rfl qD dw (zAg (zAg ai X0) (X.mono (fun y _ h=>zEO.none rfl rfl h))) di rfl (d3.cells rfl) qS (by unfold maxLen;omega) qO (by have:=X0.size;have:=X.size;omega) (fun y h=>h) (by have:=X0.size;have:=X.size;omega)
      refine DagStepsX.cons (zBD.eq) (fun _ _ _ _ _ h=>h) (fun s' w' X U H=>?_) ?_
      ·exact zAQ (zAY (b:=bx) (o:=0) (o':=1) (U 4 rfl) underlying34 rfl zBE rfl) (Chg.refl _ _) rfl
      refine DagStepsX.cons (zBD.eq) (fun _ _ _ _ _ h=>h) (fun s' w' X U H=>?_) ?_
      ·have c3:=H 5 rfl 45 _ rfl (by rw[ag];rfl);exact zAQ (zAG (v:=(.slice ea i ec)) c3 zBI ((Chg.keep X (fun h=>(fun h=>h.elim (fun h=>by have:=(ai.lt _ h).1;omega) (fun h=>by have:=(ah.lt _ h).1;omega)) (zEO.or h)) (X0.keep Bx)).cell rfl)) (Chg.refl _ _) rfl
      refine DagStepsX.cons (zBD.eq) (fun _ _ _ _ _ h=>h) (fun s' w' X U H=>?_) ?_
      ·exact zAQ (zAY (b:=bd) (o:=0) (o':=1) (U 1 rfl) underlying34 rfl zBE rfl) (Chg.refl _ _) rfl
      refine DagStepsX.cons (zBD.eq) (fun _ _ _ _ _ h=>h) (fun s' w' X U H=>?_) ?_
      ·have d4:=H 7 rfl 47 _ rfl (by rw[ag];rfl);exact zAQ (zAG (v:=(.slice (some ⟨ab,ao,none⟩) n ac)) d4 zBI ((Chg.keep X (fun h=>(fun h=>h.elim (fun h=>by have:=(ai.lt _ h).1;omega) (fun h=>by have:=(ah.lt _ h).1;omega)) (zEO.or h)) (X0.keep Bd)).cell rfl)) (Chg.refl _ _) rfl
      refine DagStepsX.cons (zBD.eq) (fun _ _ _ _ _ h=>h) (fun s' w' X U H=>?_) ?_
      ·exact zAQ (zAj (v:=(I6 (i:Int))) (U 5 rfl)) (Chg.refl _ _) rfl
      refine DagStepsX.cons (zBD.eq) (fun _ _ _ _ _ h=>h) (fun s' w' X U H=>?_) ?_
      ·have c2:=H 8 rfl 48 _ rfl (by rw[ag];rfl);have c6:=H 9 rfl 49 _ rfl (by rw[ag];rfl);exact zAQ (zAD (b:=ab) (o:=ao) (len:=n) (cap:=ac) (i:=i) (o':=ao+i) c2 c6 rfl underlying22 zAv qO qO) (Chg.refl _ _) rfl
      refine DagStepsX.cons (zBD.eq) (fun _ _ _ _ _ h=>h) (fun s' w' X U H=>?_) ?_
      ·have ct:=H 10 rfl 50 _ rfl (by rw[ag];rfl);exact zAQ (zAG (v:=(I6 yv)) ct zAm (Chg.cell X (fun h=>(zEO.or h).elim (fun h=>by have:=(ai.lt ab h).1;omega) (fun h=>by have:=(ah.lt ab h).1;omega)) (X0.cell (E.cell (fun f=>f) (b6 i _ bv))))) (Chg.refl _ _) rfl
      refine DagStepsX.cons (zBD.eq) (fun _ _ _ _ _ h=>h) (fun s' w' X U H=>?_) ?_
      ·have ed:=H 11 rfl 51 _ rfl (by rw[ag];rfl);exact zAQ (zBA ed rfl) (Chg.refl _ _) rfl
      refine DagStepsX.cons (zBD.eq) (fun _ _ _ _ _ h=>h) (fun s' w' X U H=>?_) ?_
      ·have dp:=H 12 rfl 52 _ rfl (by rw[ag];rfl);exact zCS (zAU (vs:=[(.bool (decide (yv<0)))]) func88 kQ kQ (zPI dp)) (zRm yv _)
      refine DagStepsX.cons (zCV (fun y h=>by have:=(ai.lt y h).2;omega) (fun y h=>by have:=(ah.lt y h).2;omega)) (zIt.const) (fun s' w' X U H=>?_) ?_
      ·have dl:=H 13 rfl 53 _ rfl (by rw[ag];rfl);exact zCH (hs:=n4) underlying22 zAv zDJ dl qD qD qK (by have:=X0.size;have:=X.size;omega)
      refine DagStepsX.cons (zGj rfl) (fun s1 s2 h v w h2=>⟨h2.1,by have:=h 4 44 rfl rfl;rw[this];exact h2.2⟩) (fun s' w' X U H=>?_) ?_
      ·have cz:=H 6 rfl 46 _ rfl (by rw[ag];rfl);obtain ⟨b54,dg,d6,g54⟩:=(show ((fun _=>zEF TDI #[.int .i64 (fl yv)] n4):zEL) s' (s' 54) w' from H 14 rfl 54 ((fun _=>zEF TDI #[.int .i64 (fl yv)] n4)) rfl (by rw[ag];rfl));exact zHK (H 4 rfl 44 _ rfl (by rw[ag];rfl)) (zBe (hs:=w'.heap.size) underlying22 zAv zJs zDJ rfl qD cz (zAn (zAg ah X0) (X.mono (fun y _ h=>zEO.fst rfl h)) (fun k hk hm=>hO.en k hk hm)) dg rfl (d6.cells rfl) qS (by unfold maxLen;omega) qO (by have:=X0.size;have:=X.size;omega) (fun y h=>h) (Nat.le_refl _)) (by have:=X0.size;have:=X.size;omega) (fun k h1 h2=>h1.elim (fun h=>hO.en k h2 h) (fun h=>by have:=(ah.lt k h2).2;omega))
      refine DagStepsX.cons (zBD.eq) (fun _ _ _ _ _ h=>h) (fun s' w' X U H=>?_) ?_
      ·exact zAQ (zAY (b:=bx) (o:=0) (o':=2) (U 4 rfl) underlying34 rfl zBr rfl) (Chg.refl _ _) rfl
      exact DagStepsX.nil
     ·intro s' wd7 w7 X0 X7 U H;replace X7:=X7.mono (M':=fun y=>(fun b=>(Value.slice aj i ak).ownBlock=some b) y∨(fun b=>(Value.slice ea i ec).ownBlock=some b) y) (fun y _ h=>by obtain ⟨j,h⟩:=h;rcases zFB h with h|h;exact .inl h.2;exact .inr h.2);obtain ⟨⟨ba,a8,b7⟩,ci,b8⟩:=(show ((fun _=>zDI n1 zDf 1 (i+1) (vs++[Value.slice (some ⟨bq,0,none⟩) row.length k9]) (.slice aj i ak) n4):zEL) s' (s' 44) w7 from H 4 44 ((fun _=>zDI n1 zDf 1 (i+1) (vs++[Value.slice (some ⟨bq,0,none⟩) row.length k9]) (.slice aj i ak) n4)) rfl (by rw[ag];rfl));obtain ⟨⟨⟨bh,bb,cq⟩,b9,ce⟩,bu⟩:=(show ((fun s v w=>zDI n1 TDI 1 (i+1) (am.map (Value.int .i64)++[Value.int .i64 (fl yv)]) (.slice ea i ec) n4 v w∧∀b,(s 44).ownBlock=some b→v.ownBlock≠some b):zEL) s' (s' 55) w7 from H 15 55 ((fun s v w=>zDI n1 TDI 1 (i+1) (am.map (Value.int .i64)++[Value.int .i64 (fl yv)]) (.slice ea i ec) n4 v w∧∀b,(s 44).ownBlock=some b→v.ownBlock≠some b)) rfl (by rw[ag];rfl));have dd:s' 56=(.pointer (some ⟨bx,2,none⟩)):=H 16 56 ((fun _ v _=>v=(.pointer (some ⟨bx,2,none⟩)))) rfl (by rw[ag];rfl);obtain ⟨j7,rfl⟩:=zAs.out (σ:=s') (l:=[(1,(.pointer (some ⟨bd,0,none⟩))),(2,(.pointer (some ⟨bo,0,none⟩))),(3,(.int .i64 ((n:Nat):Int))),(4,(.pointer (some ⟨bx,0,none⟩))),(17,(.slice (some ⟨nb,no,none⟩) n nc)),(18,(.int .i64 ((n:Nat):Int))),(19,(.int .i64 ((i:Nat):Int))),(44,(.slice ba (i+1) a8)),(55,(.slice bh (i+1) bb)),(56,(.pointer (some ⟨bx,2,none⟩)))]) ⟨U 1 rfl,U 2 rfl,U 3 rfl,U 4 rfl,U 17 rfl,U 18 rfl,U 19 rfl,b7,cq,dd,trivial⟩;clear U H;replace Bd:=Chg.keep X7 (fun h=>h.elim (fun h=>by have:=(ai.lt _ h).1;omega) (fun h=>by have:=(ah.lt _ h).1;omega)) (X0.keep Bd);replace Bo:=Chg.keep X7 (fun h=>h.elim (fun h=>by have:=(ai.lt _ h).1;omega) (fun h=>by have:=(ah.lt _ h).1;omega)) (X0.keep Bo);replace Bx:=Chg.keep X7 (fun h=>h.elim (fun h=>by have:=(ai.lt _ h).1;omega) (fun h=>by have:=(ah.lt _ h).1;omega)) (X0.keep Bx);replace hQ:=Chg.keep X7 (fun h=>h.elim (fun h=>by have:=bk _ (.inr (.inl h));omega) (fun h=>by have:=bk _ (.inl h);omega)) (X0.keep hQ);have bp:=Chg.trans (Ext.chg X0) X7;replace E:=(E.ext X0).step X7 (fun y hy h=>h.elim (fun h=>by have:=(ai.lt y h).1;omega) (fun h=>by have:=(ah.lt y h).1;omega));rw[b7] at ci b8 bu;rw[cq] at b9 ce bu;have a3:=hO.push (y:=fl yv) (row:=row.map (nt n)) (N':=.slice ba (i+1) a8) (E':=.slice bh (i+1) bb) cm (by rw[List.length_map]) qO (fun b hb=>by have:=bk b hb;omega) bp (by rw[bn];exact ci) (fun k hk=>by rw[←bs];exact b8 k hk) (by rw[ar,List.map_append];exact b9) (fun k hk=>by rw[←bs];exact ce k hk) bu;have au:=Nat.le_trans ax bp.size;refine zAt (b:=bx) (o:=2) (c':=#[(I6 d.start),(.slice ea i ec),(.slice ba (i+1) a8)]) (v:=(.slice ba (i+1) a8)) rfl rfl rfl zBr Bx qP rfl ?_;intro w8 S8;replace a3:=a3.chg S8.chg fun b hb h=>by have:=(a3.lt hb).1;have h':b=bx:=h;omega
      replace au:=Nat.le_trans au S8.chg.size;replace Bd:=S8.keep qO Bd;replace Bo:=S8.keep qO Bo;replace hQ:=S8.keep qO hQ;replace E:=S8.step E qQ;replace Bx:=S8.blk;refine qF bx 0 1 rfl underlying34 rfl zBE rfl (zAt (b:=bx) (o:=1) (c':=#[(I6 d.start),(.slice bh (i+1) bb),(.slice ba (i+1) a8)]) (v:=(.slice bh (i+1) bb)) rfl rfl rfl zBE Bx qP rfl ?_);intro w9 S9;replace a3:=a3.chg S9.chg fun b hb h=>by have:=(a3.lt hb).1;have h':b=bx:=h;omega
      replace au:=Nat.le_trans au S9.chg.size;replace Bd:=S9.keep qO Bd;replace Bo:=S9.keep qO Bo;replace hQ:=S9.keep qO hQ;replace E:=S9.step E qQ;replace Bx:=S9.blk;refine zAB (zAS (zAC (zAF (qV (zAw (k:=.i64) (a:=(i:Int)) (b:=1) (c:=(i:Int)+1) rfl rfl (zBf qO)) (qM (I6 ((i:Int)+1)) rfl (zAB (zAC ?_)))))));exact ⟨n - (i+1),qO,i+1,an++[row.map (nt n)],am++[fl yv],vs++[.slice (some ⟨bq,0,none⟩) row.length k9],bh,ba,bb,a8,zAs.out ⟨rfl,rfl,rfl,rfl,rfl,rfl,rfl,trivial⟩,E,Bd,Bo,Bx,qO,(by rw[zDs av,List.map_append,ap];rfl),(by rw[zDs bv,List.map_append,aq];rfl),a3,au,rfl⟩
  ·have cj:i=n:=qO
   obtain ⟨af,bt,b2,cg,b3,a6,dq⟩:=aw 0 qO;obtain ⟨n4,bs⟩:∃n4,n4=(W1).heap.size:=⟨_,rfl⟩;have bn:an.length=n:=by rw[ap,List.length_map,List.length_take];omega
   have ar:am.length=n:=by rw[aq,List.length_map,List.length_take];omega
   rw[cj] at hO Bx;have ah:(W1).ownsRow n1 TDI 1 (.slice ea n ec) n (am.map (Value.int .i64)):=by have h9:=hO.e;rwa [ar] at h9
   have ai:(W1).ownsRow n1 zDf 1 (.slice aj n ak) n vs:=hO.n.on (by rw[List.length_map];omega);refine zAl (zAV (zAV (zAf (zAC (zAH ?_)))));obtain ⟨b1,ae⟩:∃Fs:List zEL,Fs=[(fun _ v _=>v=(P6 bx 2)),(fun _ v _=>v=(.slice aj n ak)),(fun _ v _=>v=(I6 (n:Int))),(fun _=>zEF TDI #[.int .i64 (n:Int)] n4),(fun _ v _=>v=(P6 bd 2)),(fun _ v _=>v=(.slice (some ⟨nb,no,none⟩) n nc)),(fun _ v _=>v=(.pointer (some ⟨nb,no+0,none⟩))),(fun _ v _=>v=(.slice bt af.length b2)),(fun _ v _=>v=(I6 (af.length:Int))),(fun _=>zDI n4 TDI 1 af.length ((List.replicate af.length (n:Int)).map (Value.int .i64)) (.slice none 0 0) n4),(fun s v w=>zEF zDf #[s 68] n4 v w),(fun s v w=>zDI n1 zDf 1 (n+1) (vs++[s 68]) (.slice aj n ak) n4 v w∧∀b,(s 68).ownBlock=some b→v.ownBlock≠some b),(fun _ v _=>v=(P6 bx 1)),(fun _ v _=>v=(.slice ea n ec)),(fun _=>zEF TDI #[.int .i64 0] n4),(fun _=>zDI n1 TDI 1 (n+1) (am.map (Value.int .i64)++[Value.int .i64 0]) (.slice ea n ec) n4),(fun _ v _=>v=(P6 bx 2))]:=⟨_,rfl⟩;refine zHM (two 11 15 (fun b=>(Value.slice aj n ak).ownBlock=some b) (fun b=>(Value.slice ea n ec).ownBlock=some b)) 17 [59,60,61,62,63,64,65,66,67,68,69,70,71,72,73,74,75] [[],[0],[],[2],[],[4],[5],[6],[7],[3,8],[9],[1,9,10],[],[12],[],[11,13,14],[0,1,2,3,4,5,6,7,8,9,10,11,12,13]] [[],[0],[],[2],[],[4],[5,4],[6,5,4],[7,6,5,4],[3,2,8,7,6,5,4],[9,3,2,8,7,6,5,4],[1,0,9,3,2,8,7,6,5,4,10],[],[12],[],[11,1,0,9,3,2,8,7,6,5,4,10,13,12,14],[0,1,2,3,4,5,6,7,8,9,10,11,12,13]] b1 ae qK mixed qK qK qK ?_ ?_
   ·intro wd X0;refine DagStepsX.cons (zBD.eq) (fun _ _ _ _ _ h=>h) (fun s' w' X U H=>?_) ?_
    ·exact zAQ (zAY (b:=bx) (o:=0) (o':=2) (U 4 rfl) underlying34 rfl zBr rfl) (Chg.refl _ _) rfl
    refine DagStepsX.cons (zBD.eq) (fun _ _ _ _ _ h=>h) (fun s' w' X U H=>?_) ?_
    ·have cs:=H 0 rfl 59 _ rfl (by rw[ae];rfl);exact zAQ (zAG (v:=(.slice aj n ak)) cs zBh ((Chg.keep X (fun h=>(fun h=>h.elim (fun h=>by have:=(ai.lt _ h).1;omega) (fun h=>by have:=(ah.lt _ h).1;omega)) (zEO.or h)) (X0.keep Bx)).cell rfl)) (Chg.refl _ _) rfl
    refine DagStepsX.cons (zBD.eq) (fun _ _ _ _ _ h=>h) (fun s' w' X U H=>?_) ?_
    ·exact zAQ (zAj (v:=(I6 (n:Int))) (U 3 rfl)) (Chg.refl _ _) rfl
    refine DagStepsX.cons (zCV (fun y h=>by have:=(ai.lt y h).2;omega) (fun y h=>by have:=(ah.lt y h).2;omega)) (zIt.const) (fun s' w' X U H=>?_) ?_
    ·have c4:=H 2 rfl 61 _ rfl (by rw[ae];rfl);exact zCH (hs:=n4) underlying22 zAv zDJ c4 qD qD qK (by have:=X0.size;have:=X.size;omega)
    refine DagStepsX.cons (zBD.eq) (fun _ _ _ _ _ h=>h) (fun s' w' X U H=>?_) ?_
    ·exact zAQ (zAY (b:=bd) (o:=0) (o':=2) (U 1 rfl) underlying34 rfl zBr rfl) (Chg.refl _ _) rfl
    refine DagStepsX.cons (zBD.eq) (fun _ _ _ _ _ h=>h) (fun s' w' X U H=>?_) ?_
    ·have c0:=H 4 rfl 63 _ rfl (by rw[ae];rfl);exact zAQ (zAG (v:=(.slice (some ⟨nb,no,none⟩) n nc)) c0 zBh ((Chg.keep X (fun h=>(fun h=>h.elim (fun h=>by have:=(ai.lt _ h).1;omega) (fun h=>by have:=(ah.lt _ h).1;omega)) (zEO.or h)) (X0.keep Bd)).cell rfl)) (Chg.refl _ _) rfl
    refine DagStepsX.cons (zBD.eq) (fun _ _ _ _ _ h=>h) (fun s' w' X U H=>?_) ?_
    ·have dz:=H 5 rfl 64 _ rfl (by rw[ae];rfl);exact zAQ (zAD (b:=nb) (o:=no) (len:=n) (cap:=nc) (i:=0) (o':=no+0) dz rfl rfl underlying32 zBE qO qO) (Chg.refl _ _) rfl
    refine DagStepsX.cons (zBD.eq) (fun _ _ _ _ _ h=>h) (fun s' w' X U H=>?_) ?_
    ·have de:=H 6 rfl 65 _ rfl (by rw[ae];rfl);exact zAQ (zAG (v:=(.slice bt af.length b2)) de zBI (Chg.cell X (fun h=>(zEO.or h).elim (fun h=>by have:=(ai.lt nb h).1;omega) (fun h=>by have:=(ah.lt nb h).1;omega)) (X0.cell (E.cell (fun f=>f) a6)))) (Chg.refl _ _) rfl
    refine DagStepsX.cons (zBD.eq) (fun _ _ _ _ _ h=>h) (fun s' w' X U H=>?_) ?_
    ·have d5:=H 7 rfl 66 _ rfl (by rw[ae];rfl);exact zAQ (zAK (ad:=bt) (n:=af.length) (cap:=b2) underlying22 d5) (Chg.refl _ _) rfl
    refine DagStepsX.cons (zUT (fun y h=>by have:=(ai.lt y h).2;omega) (fun y h=>by have:=(ah.lt y h).2;omega)) (zIt.const) (fun s' w' X U H=>?_) ?_
    ·obtain ⟨cb,dc,df,g62⟩:=(show ((fun _=>zEF TDI #[.int .i64 (n:Int)] n4):zEL) s' (s' 62) w' from H 3 rfl 62 ((fun _=>zEF TDI #[.int .i64 (n:Int)] n4)) rfl (by rw[ae];rfl));have c1:=H 8 rfl 67 _ rfl (by rw[ae];rfl);exact zCS (zAU (vs:=[(.slice (some ⟨cb,0,none⟩) 1 1),(I6 (af.length:Int))]) func74 kQ kQ (zPH dc c1)) (zSy _ cb 1 af.length n4 (n:Int) _ df qO qO (by have:=X0.size;have:=X.size;omega))
    refine DagStepsX.cons (zTa (fun y h=>by have:=(ai.lt y h).2;omega) (fun y h=>by have:=(ah.lt y h).2;omega)) (fun s1 s2 h v w h2=>by have:=h 9 68 rfl rfl;rw[this];exact h2) (fun s' w' X U H=>?_) ?_
    ·obtain ⟨⟨d8,dn,bz⟩,cd,dx⟩:=(show ((fun _=>zDI n4 TDI 1 af.length ((List.replicate af.length (n:Int)).map (Value.int .i64)) (.slice none 0 0) n4):zEL) s' (s' 68) w' from H 9 rfl 68 ((fun _=>zDI n4 TDI 1 af.length ((List.replicate af.length (n:Int)).map (Value.int .i64)) (.slice none 0 0) n4)) rfl (by rw[ae];rfl));exact zCH (hs:=n4) underlying32 zBE zEj bz qD qD (by rw[bz];kernel_rfl) (by have:=X0.size;have:=X.size;omega)
    refine DagStepsX.cons (zUR (fun k hk hm=>hk.elim (fun h=>hO.en k hm h) (fun h=>by have:=(ah.lt k hm).2;omega))) (fun s1 s2 h v w h2=>by have:=h 9 68 rfl rfl;rw[this];exact h2) (fun s' w' X U H=>?_) ?_
    ·have c8:=H 1 rfl 60 _ rfl (by rw[ae];rfl);obtain ⟨b69,c9,d1,g69⟩:=(show ((fun s v w=>zEF zDf #[s 68] n4 v w):zEL) s' (s' 69) w' from H 10 rfl 69 ((fun s v w=>zEF zDf #[s 68] n4 v w)) rfl (by rw[ae];rfl));exact zHK (H 9 rfl 68 _ rfl (by rw[ae];rfl)) (zBe (hs:=w'.heap.size) underlying32 zBE zNN zEj rfl qD c8 (zAg (zAg ai X0) (X.mono (fun y _ h=>zEO.none rfl rfl h))) c9 rfl (d1.cells rfl) (by have h9:zDI n4 TDI 1 af.length ((List.replicate af.length (n:Int)).map (Value.int .i64)) (.slice none 0 0) n4 (s' 68) w':=H 9 rfl 68 _ rfl (by rw[ae];rfl);obtain ⟨⟨_,_,e9⟩,_⟩:=h9;intro u hu;rw[List.mem_singleton] at hu;rw[hu,e9];rfl) (by unfold maxLen;omega) qO (by have:=X0.size;have:=X.size;omega) (fun y h=>h) (Nat.le_refl _)) (by have:=X0.size;have:=X.size;omega) (fun k h1 h2=>h1.elim (fun h=>by cases h) (fun h=>by have:=(ai.lt k h2).2;omega))
    refine DagStepsX.cons (zBD.eq) (fun _ _ _ _ _ h=>h) (fun s' w' X U H=>?_) ?_
    ·exact zAQ (zAY (b:=bx) (o:=0) (o':=1) (U 4 rfl) underlying34 rfl zBE rfl) (Chg.refl _ _) rfl
    refine DagStepsX.cons (zBD.eq) (fun _ _ _ _ _ h=>h) (fun s' w' X U H=>?_) ?_
    ·have ds:=H 12 rfl 71 _ rfl (by rw[ae];rfl);exact zAQ (zAG (v:=(.slice ea n ec)) ds zBI ((Chg.keep X (fun h=>(fun h=>h.elim (fun h=>by have:=(ai.lt _ h).1;omega) (fun h=>by have:=(ah.lt _ h).1;omega)) (zEO.or h)) (X0.keep Bx)).cell rfl)) (Chg.refl _ _) rfl
    refine DagStepsX.cons (zCV (fun y h=>by have:=(ai.lt y h).2;omega) (fun y h=>by have:=(ah.lt y h).2;omega)) (zIt.const) (fun s' w' X U H=>?_) ?_
    ·exact zCH (hs:=n4) underlying22 zAv zDJ rfl qD qD qK (by have:=X0.size;have:=X.size;omega)
    refine DagStepsX.cons (zUS rfl) (zIt.const) (fun s' w' X U H=>?_) ?_
    ·have dr:=H 13 rfl 72 _ rfl (by rw[ae];rfl);obtain ⟨b73,dy,d9,g73⟩:=(show ((fun _=>zEF TDI #[.int .i64 0] n4):zEL) s' (s' 73) w' from H 14 rfl 73 ((fun _=>zEF TDI #[.int .i64 0] n4)) rfl (by rw[ae];rfl));exact zBe (hs:=n4) underlying22 zAv zJs zDJ rfl qD dr (zAn (zAg ah X0) (X.mono (fun y _ h=>zEO.fst rfl h)) (fun k hk hm=>hO.en k hk hm)) dy rfl (d9.cells rfl) qS (by unfold maxLen;omega) qO (by have:=X0.size;have:=X.size;omega) (fun y h=>h) (by have:=X0.size;have:=X.size;omega)
    refine DagStepsX.cons (zBD.eq) (fun _ _ _ _ _ h=>h) (fun s' w' X U H=>?_) ?_
    ·exact zAQ (zAY (b:=bx) (o:=0) (o':=2) (U 4 rfl) underlying34 rfl zBr rfl) (Chg.refl _ _) rfl
    exact DagStepsX.nil
   ·intro s' ef bj X0 a2 U H;replace a2:=a2.mono (M':=fun y=>(fun b=>(Value.slice aj n ak).ownBlock=some b) y∨(fun b=>(Value.slice ea n ec).ownBlock=some b) y) (fun y _ h=>by obtain ⟨j,h⟩:=h;rcases zFB h with h|h;exact .inl h.2;exact .inr h.2);obtain ⟨⟨d8,dn,bz⟩,cd,dx⟩:=(show ((fun _=>zDI n4 TDI 1 af.length ((List.replicate af.length (n:Int)).map (Value.int .i64)) (.slice none 0 0) n4):zEL) s' (s' 68) bj from H 9 68 ((fun _=>zDI n4 TDI 1 af.length ((List.replicate af.length (n:Int)).map (Value.int .i64)) (.slice none 0 0) n4)) rfl (by rw[ae];rfl));obtain ⟨⟨⟨az,ay,b5⟩,ch,cn⟩,cf⟩:=(show ((fun s v w=>zDI n1 zDf 1 (n+1) (vs++[s 68]) (.slice aj n ak) n4 v w∧∀b,(s 68).ownBlock=some b→v.ownBlock≠some b):zEL) s' (s' 70) bj from H 11 70 ((fun s v w=>zDI n1 zDf 1 (n+1) (vs++[s 68]) (.slice aj n ak) n4 v w∧∀b,(s 68).ownBlock=some b→v.ownBlock≠some b)) rfl (by rw[ae];rfl));obtain ⟨⟨a0,a1,co⟩,cl,dk⟩:=(show ((fun _=>zDI n1 TDI 1 (n+1) (am.map (Value.int .i64)++[Value.int .i64 0]) (.slice ea n ec) n4):zEL) s' (s' 74) bj from H 15 74 ((fun _=>zDI n1 TDI 1 (n+1) (am.map (Value.int .i64)++[Value.int .i64 0]) (.slice ea n ec) n4)) rfl (by rw[ae];rfl));have cy:s' 75=(.pointer (some ⟨bx,2,none⟩)):=H 16 75 ((fun _ v _=>v=(.pointer (some ⟨bx,2,none⟩)))) rfl (by rw[ae];rfl);obtain ⟨j10,rfl⟩:=zAs.out (σ:=s') (l:=[(2,(.pointer (some ⟨bo,0,none⟩))),(4,(.pointer (some ⟨bx,0,none⟩))),(70,(.slice az (n+1) ay)),(74,(.slice a0 (n+1) a1)),(75,(.pointer (some ⟨bx,2,none⟩)))]) ⟨U 2 rfl,U 4 rfl,b5,co,cy,trivial⟩;clear U H;replace Bd:=Chg.keep a2 (fun h=>h.elim (fun h=>by have:=(ai.lt _ h).1;omega) (fun h=>by have:=(ah.lt _ h).1;omega)) (X0.keep Bd);replace Bo:=Chg.keep a2 (fun h=>h.elim (fun h=>by have:=(ai.lt _ h).1;omega) (fun h=>by have:=(ah.lt _ h).1;omega)) (X0.keep Bo);replace Bx:=Chg.keep a2 (fun h=>h.elim (fun h=>by have:=(ai.lt _ h).1;omega) (fun h=>by have:=(ah.lt _ h).1;omega)) (X0.keep Bx);have bp:=Chg.trans (Ext.chg X0) a2;replace E:=(E.ext X0).step a2 (fun y hy h=>h.elim (fun h=>by have:=(ai.lt y h).1;omega) (fun h=>by have:=(ah.lt y h).1;omega));rw[b5] at ch cn cf;rw[co] at cl dk;have hL:=hO.last (row:=List.replicate af.length (n:Int)) bs qO bp (by rw[bn];exact ch) (by rw[List.length_replicate];exact cd) cn cf;have a5:(bj).ownsRow n1 TDI 1 (.slice a0 (n+1) a1) (n+1) ((am++[0]).map (Value.int .i64)):=by rw[List.map_append];exact cl
    have eb:(⟨d.start,am++[0],an++[List.replicate af.length (n:Int)]⟩:Dfa)=zKv n c d:=by rw[ap,aq,cj,b3,List.take_of_length_le qO,List.take_of_length_le qO];rfl
    refine zAt (b:=bx) (o:=2) (c':=#[(I6 d.start),(.slice ea n ec),(.slice az (n+1) ay)]) (v:=(.slice az (n+1) ay)) rfl rfl rfl zBr Bx qP rfl ?_;intro w11 a7;replace hL:=hL.chg a7.chg fun b hb _ h=>by have h':b=bx:=h;omega
    replace a5:=zAn a5 a7.chg fun b hb h=>by have:=(a5.lt b hb).1;have h':b=bx:=h;omega
    replace Bd:=a7.keep qO Bd;replace Bo:=a7.keep qO Bo;replace E:=a7.step E qQ;replace Bx:=a7.blk;refine qF bx 0 1 rfl underlying34 rfl zBE rfl (zAt (b:=bx) (o:=1) (c':=#[(I6 d.start),(.slice a0 (n+1) a1),(.slice az (n+1) ay)]) (v:=(.slice a0 (n+1) a1)) rfl rfl rfl zBE Bx qP rfl ?_);intro da a9;replace hL:=hL.chg a9.chg fun b hb _ h=>by have h':b=bx:=h;omega
    replace a5:=zAn a5 a9.chg fun b hb h=>by have:=(a5.lt b hb).1;have h':b=bx:=h;omega
    replace Bd:=a9.keep qO Bd;replace Bo:=a9.keep qO Bo;replace E:=a9.step E qQ;replace Bx:=a9.blk;refine zAB (zAC (zAA (qV (zAP (vs:=[(I6 d.start),(.slice a0 (n+1) a1),(.slice az (n+1) ay)]) rfl zBC zAi rfl (Bx.cells rfl)) ?_)));obtain ⟨n9,d7⟩:∃n9,n9=(da).heap.size:=⟨_,rfl⟩;have b0:w0.heap.size≤n9∧bo<n9:=⟨by have:=E.size;omega,by have:=Bo.lt;omega⟩;refine qE rfl (zAU (vs:=[(.agg #[(I6 d.start),(.slice a0 (n+1) a1),(.slice az (n+1) ay)])]) func37 kQ kQ rfl) (zEy _ (n+1) c (zKv n c d) [.int .i64 d.start,.slice a0 (n+1) a1,.slice az (n+1) ay] (zZD ok) (by rw[←eb];exact zPU ⟨a0,a1,by simp[ar]⟩ ⟨az,ay,by simp[bn]⟩ (by simpa[ar] using a5) hL) qO zTT) ?_;rintro _ w99 ⟨⟨C,ca,cc,ma,mc,hC,cr,d2,rfl,bm⟩,br⟩;replace Bd:=br.keep Bd;replace Bo:=br.keep Bo;replace Bx:=br.keep Bx;replace E:=E.ext br;rw[←d7] at bm;refine zAa (b:=bo) (o:=0) (c':=#[(I6 C.start),(.slice ca C.accept.length cc),(.slice ma C.next.length mc)]) rfl rfl qS zAi rfl Bo qL rfl ?_;intro w13 bf;replace bm:=bm.chg bf.chg fun b h=>by have h':b=bo:=h;omega
    replace Bd:=bf.keep qO Bd;replace Bx:=bf.keep qO Bx;replace E:=bf.step E qQ;replace Bo:=bf.blk;refine zAB (zAW (zBb results54 (vs:=[(.int .i64 C.start),(.slice ca C.accept.length cc),(.slice ma C.next.length mc)]) (b:=bo) rfl zBC zAi rfl (Bo.cells rfl) ?_));exact ⟨⟨C,ca,cc,ma,mc,hC.congr (fun w hw=>zUN ok hw),cr,d2,rfl,bm.low b0.1⟩,E⟩
end Go.Proofs
namespace Go.Proofs
open Go Go.Eng Go.Sort
set_option maxRecDepth 100000
def CanE (c:Nat) (f:List Nat→Int) (n m:Nat) (r:Value) (w:World):Prop:=∃C ca cc ma mc,zCc c f C∧C.next.length≤n∧(∀x∈C.accept,x<2147483648)∧r=.tuple #[.agg #[.int .i64 C.start,.slice ca C.accept.length cc,.slice ma C.next.length mc],.int .i64 0]∧zCu m w C [.int .i64 C.start,.slice ca C.accept.length cc,.slice ma C.next.length mc]
end Go.Proofs
namespace Go.Proofs
open Go Go.Eng
--BEGIN
def zZe (c:Nat):Nat→(List Nat→Int)→Int
  | 0,f=>if 0≤f [] then 1 else 0
  | k+1,f=>((List.range c).map fun x=>zZe c k fun w=>f (x::w)).sum
end Go.Proofs
namespace Go.Proofs
open Go Go.Eng Go.Sort
set_option maxRecDepth 100000
def wt (c:Nat) (d:Dfa) (j:Nat) (i:Nat):Int:=zZe c j (beh d ((i:Nat):Int))
end Go.Proofs
namespace Go.Proofs
open Go Go.Eng Go.Sort
--BEGIN
section
variable {α : Type}
def zGD (stp:α→Nat→Option α):α→List Nat→Option α
  | a,[]=>some a
  | a,x::w=>(stp a x).bind fun b=>zGD stp b w
theorem zEc (stp:α→Nat→Option α) (x:Nat):∀(w:List Nat) (a:α),zGD stp a (w++[x])=(zGD stp a w).bind fun b=>stp b x
  | [],a=>by simp only[List.nil_append,zGD,Option.bind_some];cases stp a x<;>rfl
  | y::w,a=>by
    simp only[List.cons_append,zGD];cases h:stp a y with
    | none=>rfl
    | some b=>simp only[Option.bind_some];exact zEc stp x w b
theorem inW.snoc {c x:Nat} {w:List Nat} (h:inW c w) (hx:x<c):inW c (w++[x]):=fun y hy=>by
 rcases List.mem_append.1 hy with h1|h1
 ·exact h y h1
 ·rw[List.mem_singleton] at h1;rw[h1];exact hx
variable {c : Nat} {stp : α → Nat → Option α} {a0 : α} {work : List α} {ws : List (List Nat)} {ps : List (Nat × Nat)} {i x : Nat}
end
end Go.Proofs
namespace Go.Eng
open Go
def zIc (p:Int×Int):Value:=.agg #[.int .i64 p.1,.int .i64 p.2]
end Go.Eng
namespace Go.Proofs
open Go Go.Eng Go.Sort
set_option maxRecDepth 100000
end Go.Proofs
namespace Go.Proofs
open Go Go.Eng
set_option maxRecDepth 100000
theorem zPe (x n:Int) (hn:0<n):(if x.tmod n<0 then x.tmod n+n else x.tmod n)=x % n:=by
 have h:=Int.tmod_eq_emod (a:=x) (b:=n);have h1:=Int.emod_nonneg x (Int.ne_of_gt hn);have h2:=Int.emod_lt_of_pos x hn;have h3:n.natAbs=n:=qO
 split at h<;>split<;>omega
theorem zWs (x n:Int) (hn:0<n) (hm:n≤2000) (w0:World) :
  Ret prog 101 #[.int .i64 x,.int .i64 n] w0 fun v w=>v=.int .i64 (x % n)∧w=w0:=by
 have hb:=zPe x n hn;have h1:=Int.emod_nonneg x (Int.ne_of_gt hn);have h2:=Int.emod_lt_of_pos x hn;refine qR func101 rfl ntmps101 rfl (fun E=>(zAA (qA (I6 0) rfl (zAB (zAA (qM (I6 x) rfl (qM (I6 n) rfl (qV (zVs (k:=.i64) (a:=x) (b:=n) (c:=x.tmod n) rfl rfl qO rfl) (qA (I6 (x.tmod n)) rfl (zAB (zAH (zAA (qM (I6 (x.tmod n)) rfl (qV (zBA (k:=.i64) (a:=x.tmod n) (b:=0) rfl rfl) (zAB (qC rfl (fun h=>?_) (fun h=>?_)))))))))))))))))
 ·rw[if_pos h] at hb;refine zAF (qM (I6 (x.tmod n)) rfl (qM (I6 n) rfl (qV (zAw (k:=.i64) (a:=x.tmod n) (b:=n) (c:=(x.tmod n)+n) rfl rfl (zBf qO)) (qA (I6 ((x.tmod n)+n)) rfl (zAB (zAC (zAA (qM (I6 ((x.tmod n)+n)) rfl (qA (I6 ((x.tmod n)+n)) rfl (zAB (zAW (zAZ results101 (v:=(.int .i64 ((x.tmod n)+n))) rfl ?_))))))))))));exact ⟨by rw[hb],rfl⟩
 ·rw[if_neg h] at hb;refine zAO (zAC (zAA (qM (I6 (x.tmod n)) rfl (qA (I6 (x.tmod n)) rfl (zAB (zAW (zAZ results101 (v:=(.int .i64 (x.tmod n))) rfl ?_)))))));exact ⟨by rw[hb],rfl⟩
end Go.Proofs
namespace Go.Proofs
open Go Go.Eng
set_option maxRecDepth 100000
abbrev TS:Nat:=62
def zHN (wb w:World) (bs:Nat) (l:List Int):Prop:=∃a c,Blk w bs #[.slice a l.length c] TS∧zBa wb (.slice a l.length c) l
theorem zHN.ext {wb w w':World} {bs:Nat} {l:List Int} (h:zHN wb w bs l) (e:Ext w w'):zHN wb w' bs l:=let ⟨a,c,h1,h2⟩:=h;⟨a,c,e.keep h1,h2⟩
theorem zHN.lt {wb w:World} {bs:Nat} {l:List Int} (h:zHN wb w bs l):bs<w.heap.size:=let ⟨_,_,h1,_⟩:=h;h1.lt
theorem zHX (wb w0:World) (bs:Nat) (l:List Int) (n:Int) (hn:0<n) (hm:n≤2000) (hE:Ext wb w0) (hb:wb.heap.size≤bs) (hS:zHN wb w0 bs l) :
  Ret prog 61 #[.pointer (some ⟨bs,0,none⟩),.int .i64 n] w0 fun v w=>∃x l',v=.int .i64 x∧0≤x∧x<n∧zHN wb w bs l'∧Chg (fun x=>x=bs) w0 w:=by
 obtain ⟨a,c,hB,hl⟩:=hS;have af:=zCQ.cap hl;have ae:l.length≤9223372036854775807:=by simpa using zCQ.le hl
 refine zDE func61 rfl ntmps61 (leT rfl) ?_;have E:Chg (fun x=>x=bs) w0 w0:=Chg.refl _ _;refine zAA (qA (I6 0) rfl (zAB (zAH (zAA (qM (P6 bs 0) rfl (qV (zBd (a:=⟨bs,0,none⟩) rfl) (qF bs 0 0 rfl underlying62 rfl zBE rfl (qV (zAG (v:=(.slice a l.length c)) rfl zBI (hB.cell rfl)) (qV (zAK (ad:=a) (n:=l.length) (cap:=c) underlying22 rfl) (qV (zAq (k:=.i64) (a:=(l.length:Int)) (b:=0) rfl rfl) (zAB (qC rfl (fun h0=>?_) (fun h0=>?_)))))))))))))
 ·refine zAA (qA (I6 0) rfl (zAB (zAW (zAX (zAZ results61 (v:=(.int .i64 0)) rfl ?_)))));exact ⟨0,l,rfl,Int.le_refl _,hn,⟨a,c,hB,hl⟩,E⟩
 ·obtain ⟨x,hx⟩:=zAJ (l:=l) (i:=0) qO;obtain ⟨b,o,rfl,ah⟩:=zAy hl qO;refine zAO (zAC (zAA (qM (P6 bs 0) rfl (qV (zBd (a:=⟨bs,0,none⟩) rfl) (qF bs 0 0 rfl underlying62 rfl zBE rfl (qV (zAG (v:=(.slice (some ⟨b,o,none⟩) l.length c)) rfl zBI (hB.cell rfl)) (qV (zAD (b:=b) (o:=o) (len:=l.length) (cap:=c) (i:=0) (o':=o+0) rfl rfl rfl underlying22 zAv qO qO) (qV (zAG (v:=(I6 x)) rfl zAm ((hE.cell (ah 0 x hx)))) (qA (I6 x) rfl (zAB (zAA (qM (P6 bs 0) rfl (qM (P6 bs 0) rfl (qV (zBd (a:=⟨bs,0,none⟩) rfl) (qF bs 0 0 rfl underlying62 rfl zBE rfl (qV (zAG (v:=(.slice (some ⟨b,o,none⟩) l.length c)) rfl zBI (hB.cell rfl)) ?_))))))))))))))));obtain ⟨sl,ac⟩:∃a':Option Addr,(if c=1 then (some ⟨b,o,none⟩) else Option.map (fun q:Addr=>q.add (1*1)) (some ⟨b,o,none⟩))=a':=⟨_,rfl⟩;refine qV (zFL (a:=(some ⟨b,o,none⟩)) (len:=l.length) (cap:=c) (lo:=1) (l:=1) (n':=(l.length - 1)) (c':=(c - 1)) underlying22 zAv rfl rfl qO qO ac qO qO) (qV (zBd (a:=⟨bs,0,none⟩) rfl) (qF bs 0 0 rfl underlying62 rfl zBE rfl (zAt (b:=bs) (o:=0) (c':=#[(.slice sl (l.length - 1) (c - 1))]) (v:=(.slice sl (l.length - 1) (c - 1))) rfl rfl rfl zBE hB qP rfl ?_)));intro w2 S2;replace E:=S2.step E qQ;replace hB:=S2.blk;refine zAB (zAA (qM (I6 x) rfl (qM (I6 n) rfl (qE rfl (zAU (vs:=[(I6 x),(I6 n)]) func101 kQ kQ rfl) (zWs x n hn hm _) ?_))));rintro _ _ ⟨rfl,rfl⟩;have aa:=zCQ.cut (lo:=1) (hi:=l.length) hl qO (Nat.le_refl _) ac rfl rfl;have ag:((l.map zND).drop 1).take (l.length - 1)=(l.drop 1).map zND:=by rw[List.take_of_length_le qP,List.map_drop]
  rw[ag] at aa;have ab:(l.drop 1).length=l.length - 1:=qP
  refine qA (I6 (x % n)) rfl (zAB (zAW (zAZ results61 (v:=(.int .i64 (x % n))) rfl ?_)));exact ⟨x % n,l.drop 1,rfl,Int.emod_nonneg x qO,Int.emod_lt_of_pos x hn,⟨sl,c - 1,by rw[ab];exact hB,by rw[ab];exact aa⟩,E⟩
end Go.Proofs
namespace Go.Eng
open Go
def zDk (S:Nat→Prop) (w:World) (k:Nat) (v:Value) (rows:List (List Value)):Prop:=
 ∃a cap,v=.slice a rows.length cap∧rows.length≤9223372036854775807∧rows.length≤cap∧(rows=[]∨∃b o,S b∧a=some ⟨b,o,none⟩∧∀i r,rows[i]?=some r→zAz w b (o+i*k) r)
theorem zDk.at {S:Nat→Prop} {w:World} {k:Nat} {v:Value} {rows:List (List Value)} (h:zDk S w k v rows):zCQ w k v rows:=by
 obtain ⟨a,aa,h1,h2,h3,h4⟩:=h;refine ⟨a,aa,h1,h2,h3,?_⟩;rcases h4 with h|⟨b,o,_,h5,h6⟩
 ·exact .inl h
 ·exact .inr ⟨b,o,h5,h6⟩
theorem zDk.chg {S M:Nat→Prop} {w w':World} {k:Nat} {v:Value} {rows:List (List Value)} (h:zDk S w k v rows) (c:Chg M w w') (hm:∀b,S b→¬M b):zDk S w' k v rows:=by
 obtain ⟨a,aa,h1,h2,h3,h4⟩:=h;refine ⟨a,aa,h1,h2,h3,?_⟩;rcases h4 with h|⟨b,o,hb,h5,h6⟩
 ·exact .inl h
 ·exact .inr ⟨b,o,hb,h5,fun i r hr=>(h6 i r hr).chg c (hm b hb)⟩
theorem zDk.mono {S S':Nat→Prop} {w:World} {k:Nat} {v:Value} {rows:List (List Value)} (h:zDk S w k v rows) (hs:∀b,S b→S' b):zDk S' w k v rows:=by
 obtain ⟨a,aa,h1,h2,h3,h4⟩:=h;refine ⟨a,aa,h1,h2,h3,?_⟩;rcases h4 with h|⟨b,o,hb,h5⟩
 ·exact .inl h
 ·exact .inr ⟨b,o,hs b hb,h5⟩
theorem zDk.nil (S:Nat→Prop) (w:World) (k:Nat) (a:Option Addr) (cap:Nat):zDk S w k (.slice a 0 cap) []:=⟨a,cap,rfl,qP,qP,.inl rfl⟩
theorem zDk.mk {S:Nat→Prop} {w:World} {k:Nat} {b o n c:Nat} {rows:List (List Value)} (h:zCQ w k (.slice (some ⟨b,o,none⟩) n c) rows) (hs:S b):zDk S w k (.slice (some ⟨b,o,none⟩) n c) rows:=by
 obtain ⟨a,aa,h1,h2,h3,h4⟩:=h;refine ⟨a,aa,h1,h2,h3,?_⟩;rcases h4 with h|⟨b',o',h5,h6⟩
 ·exact .inl h
 ·simp only[Value.slice.injEq] at h1;have:b'=b:=by rw[←h1.1] at h5;simp at h5;exact h5.1.symm
  exact .inr ⟨b',o',this▸hs,h5,h6⟩
mutual
def zBs (S:Nat→Prop) (w:World):Re→List Value→Prop
  | .mk k set args mn mx ng,vs=>∃sa sc aa ac,vs=[.int .i64 k,.slice sa set.length sc,.slice aa args.length ac,.int .i64 mn,.int .i64 mx,.bool ng]∧zDk S w 2 (.slice sa set.length sc) (set.map zBw)∧(args.length≤ac∧ac≤9223372036854775807)∧
      (args=[]∨∃b o,S b∧aa=some ⟨b,o,none⟩∧zCO S w b o args)
def zCO (S:Nat→Prop) (w:World) (b:Nat):Nat→List Re→Prop
  | _,[]=>True
  | o,t::ts=>(∃vs,zAz w b o vs∧zBs S w t vs)∧zCO S w b (o+6) ts
end
mutual
theorem zBs.at {S:Nat→Prop} {w:World}:∀(t:Re) {vs:List Value},zBs S w t vs→zBm w t vs
  | .mk k set args mn mx ng,vs,h=>by
    simp only[zBs] at h;simp only[zBm];obtain ⟨sa,sc,aa,ac,hv,hs,hl,ha⟩:=h;refine ⟨sa,sc,aa,ac,hv,hs.at,hl,?_⟩;rcases ha with h|⟨b,o,_,h1,h2⟩
    · exact .inl h
    · exact .inr ⟨b,o,h1,zCO.at args h2⟩
theorem zCO.at {S:Nat→Prop} {w:World} {b:Nat}:∀(ts:List Re) {o:Nat},zCO S w b o ts→zDS w b o ts
  | [],_,_=>by simp only[zDS]
  | t::ts,o,h=>by
    simp only[zCO] at h;simp only[zDS];obtain ⟨⟨vs,h1,h2⟩,h3⟩:=h;exact ⟨⟨vs,h1,zBs.at t h2⟩,zCO.at ts h3⟩
end
mutual
theorem zBs.chg {S M:Nat→Prop} {w w':World} (c:Chg M w w') (hm:∀b,S b→¬M b):∀(t:Re) {vs:List Value},zBs S w t vs→zBs S w' t vs
  | .mk k set args mn mx ng,vs,h=>by
    simp only[zBs] at h⊢;obtain ⟨sa,sc,aa,ac,hv,hs,hl,ha⟩:=h;refine ⟨sa,sc,aa,ac,hv,hs.chg c hm,hl,?_⟩;rcases ha with h|⟨b,o,hb,h1,h2⟩
    · exact .inl h
    · exact .inr ⟨b,o,hb,h1,zCO.chg c hm args hb h2⟩
theorem zCO.chg {S M:Nat→Prop} {w w':World} (c:Chg M w w') (hm:∀b,S b→¬M b) {b:Nat}:∀(ts:List Re) {o:Nat},S b→zCO S w b o ts→zCO S w' b o ts
  | [],_,_,_=>by simp only[zCO]
  | t::ts,o,hb,h=>by
    simp only[zCO] at h⊢;obtain ⟨⟨vs,h1,h2⟩,h3⟩:=h;exact ⟨⟨vs,h1.chg c (hm b hb),zBs.chg c hm t h2⟩,zCO.chg c hm ts hb h3⟩
end
mutual
theorem zBs.mono {S S':Nat→Prop} {w:World} (hs:∀b,S b→S' b):∀(t:Re) {vs:List Value},zBs S w t vs→zBs S' w t vs
  | .mk k set args mn mx ng,vs,h=>by
    simp only[zBs] at h⊢;obtain ⟨sa,sc,aa,ac,hv,h0,hl,ha⟩:=h;refine ⟨sa,sc,aa,ac,hv,h0.mono hs,hl,?_⟩;rcases ha with h|⟨b,o,hb,h1,h2⟩
    · exact .inl h
    · exact .inr ⟨b,o,hs b hb,h1,zCO.mono hs args h2⟩
theorem zCO.mono {S S':Nat→Prop} {w:World} (hs:∀b,S b→S' b) {b:Nat}:∀(ts:List Re) {o:Nat},zCO S w b o ts→zCO S' w b o ts
  | [],_,_=>by simp only[zCO]
  | t::ts,o,h=>by
    simp only[zCO] at h⊢;obtain ⟨⟨vs,h1,h2⟩,h3⟩:=h;exact ⟨⟨vs,h1,zBs.mono hs t h2⟩,zCO.mono hs ts h3⟩
end
theorem zBs.ext {S:Nat→Prop} {w w':World} (e:Ext w w') (t:Re) {vs:List Value} (h:zBs S w t vs):zBs S w' t vs:=zBs.chg e (fun _ _ f=>f) t h
theorem zBs.form {S:Nat→Prop} {w:World} {t:Re} {vs:List Value} (h:zBs S w t vs):∃sa sc aa ac,vs=[.int .i64 t.kind,.slice sa t.set.length sc,.slice aa t.args.length ac,.int .i64 t.mn,.int .i64 t.mx,.bool t.neg]∧zDk S w 2 (.slice sa t.set.length sc) (t.set.map zBw)∧(t.args.length≤ac∧ac≤9223372036854775807)∧
  (t.args=[]∨∃b o,S b∧aa=some ⟨b,o,none⟩∧zCO S w b o t.args):=by
 cases t;simp only[zBs] at h;exact h
theorem zBs.of {S:Nat→Prop} {w:World} {k:Int} {set:List (Int×Int)} {args:List Re} {mn mx:Int} {ng:Bool} {sa aa:Option Addr} {sc ac:Nat} (hs:zDk S w 2 (.slice sa set.length sc) (set.map zBw)) (hl:(args.length≤ac∧ac≤9223372036854775807)) (ha:args=[]∨∃b o,S b∧aa=some ⟨b,o,none⟩∧zCO S w b o args) :
  zBs S w (.mk k set args mn mx ng) [.int .i64 k,.slice sa set.length sc,.slice aa args.length ac,.int .i64 mn,.int .i64 mx,.bool ng]:=by
 simp only[zBs];exact ⟨sa,sc,aa,ac,rfl,hs,hl,ha⟩
theorem zCO.one {S:Nat→Prop} {w:World} {b o:Nat} {t:Re} {vs:List Value} (hc:zAz w b o vs) (h:zBs S w t vs):zCO S w b o [t]:=by
 simp only[zCO];exact ⟨⟨vs,hc,h⟩,trivial⟩
theorem zCO.two {S:Nat→Prop} {w:World} {b o:Nat} {t u:Re} {vs us:List Value} (hc:zAz w b o vs) (h:zBs S w t vs) (hc':zAz w b (o+6) us) (h':zBs S w u us):zCO S w b o [t,u]:=by
 simp only[zCO];exact ⟨⟨vs,hc,h⟩,⟨us,hc',h'⟩,trivial⟩
theorem zBs.len {S:Nat→Prop} {w:World} {t:Re} {vs:List Value} (h:zBs S w t vs):vs.length=6:=(zBs.at t h).len
end Go.Eng
namespace Go.Proofs
open Go Go.Eng Go.Sort
set_option maxRecDepth 100000
theorem zVC (w0:World) (v1 v2:Value) (l1 l2:List Int) (h1:zBa w0 v1 l1) (h2:zBa w0 v2 l2) :
  Ret prog 25 #[v1,v2] w0 fun v w=>v=.bool (decide (l1=l2))∧Ext w0 w:=by
 obtain ⟨a1,c1,rfl⟩:=zCQ.form h1;obtain ⟨a2,c2,rfl⟩:=zCQ.form h2;have hb1:l1.length≤9223372036854775807:=by simpa using zCQ.le h1
 simp only[List.length_map] at h1 h2⊢;refine qR func25 rfl ntmps25 rfl (fun E=>(zAA (qA (.bool false) rfl (zAB (zAH (zAA (qM (.slice a1 l1.length c1) rfl (qV (zAK (ad:=a1) (n:=l1.length) (cap:=c1) underlying22 rfl) (qM (.slice a2 l2.length c2) rfl (qV (zAK (ad:=a2) (n:=l2.length) (cap:=c2) underlying22 rfl) (qV (zEY (k:=.i64) (a:=(l1.length:Int)) (b:=(l2.length:Int)) rfl rfl) (zAB (qC rfl (fun hl=>?_) (fun hl=>?_))))))))))))))
 ·refine zAA (qA (.bool false) rfl (zAB (zAW (zAX (zAZ results25 (v:=(.bool false)) rfl ?_)))));exact ⟨zBx (by symm;rw[decide_eq_false_iff_not];intro h;rw[h] at hl;exact hl rfl),E⟩
 ·refine zAO (zAC (zAH (zAA (qM (.slice a1 l1.length c1) rfl (qV (zAK (ad:=a1) (n:=l1.length) (cap:=c1) underlying22 rfl) (qM (I6 0) rfl (zAB (zAT (zAo (fun nn_ σ W2=>∃(k:Nat),(∃jj_,σ=zCT jj_ [(0,(.slice a1 l1.length c1)),(1,(.slice a2 l2.length c2)),(12,(I6 (l1.length:Int))),(13,(I6 (k:Int)))])∧Chg zAe w0 W2∧(k≤l1.length)∧(∀(i:Nat),i<k→l1[i]?=l2[i]?)∧nn_=l1.length - k) (n:=l1.length - 0) ?_ ?_)))))))))
  ·exact ⟨0,zAs.out ⟨rfl,rfl,rfl,rfl,trivial⟩,E,Nat.zero_le _,(fun i h=>absurd h (Nat.not_lt_zero _)),rfl⟩
  ·clear E;rintro _ _ W2 ⟨k,⟨j2,rfl⟩,E,hk,ac,rfl⟩;refine zAA (qV (zBA (k:=.i64) (a:=(k:Int)) (b:=(l1.length:Int)) rfl rfl) (zAB (zAH (qC rfl (fun ae=>?_) (fun ae=>?_)))))
   ·obtain ⟨p,hp⟩:=zAJ (l:=l1) (i:=k) qO;obtain ⟨q,hq⟩:=zAJ (l:=l2) (i:=k) qO;obtain ⟨b1,o1,rfl,ag⟩:=zAy h1 qO;obtain ⟨b2,o2,rfl,af⟩:=zAy h2 qO;refine zAO (zAC (zAH (zAT (zAA (qM (I6 (k:Int)) rfl (qA (I6 (k:Int)) rfl (zAB (zEK 8 mixed qK ?_))))))));intro w4 X4 _;replace E:=E.ext X4;refine qT (zAj (v:=(.slice (some ⟨b1,o1,none⟩) l1.length c1)) rfl) (qT (zAj (v:=(I6 (k:Int))) rfl) (qT (zAD (b:=b1) (o:=o1) (len:=l1.length) (cap:=c1) (i:=k) (o':=o1+k) rfl rfl rfl underlying22 zAv qO qO) (qT (zAG (v:=(I6 p)) rfl zAm (E.cell (fun f=>f) (ag k p hp))) (qT (zAj (v:=(.slice (some ⟨b2,o2,none⟩) l2.length c2)) rfl) (qT (zAj (v:=(I6 (k:Int))) rfl) (qT (zAD (b:=b2) (o:=o2) (len:=l2.length) (cap:=c2) (i:=k) (o':=o2+k) rfl rfl rfl underlying22 zAv qO qO) (qT (zAG (v:=(I6 q)) rfl zAm (E.cell (fun f=>f) (af k q hq))) (zEW (qV (zEY (k:=.i64) (a:=p) (b:=q) rfl rfl) (zAB (qC rfl (fun ab=>?_) (fun ab=>?_))))))))))))
    ·refine zAA (qA (.bool false) rfl (zAB (zAW (zAh (zAX (zAX (zAh (zAX (zAZ results25 (v:=(.bool false)) rfl ?_)))))))));exact ⟨zBx (by symm;rw[decide_eq_false_iff_not];intro h;subst h;rw[hp] at hq;cases hq;exact ab rfl),E⟩
    ·have aa:p=q:=qO
     refine zAO (zAS (zAC (zAF (qV (zAw (k:=.i64) (a:=(k:Int)) (b:=1) (c:=(k:Int)+1) rfl rfl (zBf qO)) (qM (I6 ((k:Int)+1)) rfl (zAB (zAC ?_)))))));exact ⟨l1.length - (k+1),qO,k+1,zAs.out ⟨rfl,rfl,rfl,rfl,trivial⟩,E,qO,(fun i hi=>by rcases Nat.lt_or_ge i k with h|h;exact ac i h;obtain rfl:i=k:=qO;rw[hp,hq,aa]),rfl⟩
   ·have hkk:k=l1.length:=qO
    refine zAl (zAV (zAV (zAf (zAC (zAA (qA (.bool true) rfl (zAB (zAW (zAZ results25 (v:=(.bool true)) rfl ?_)))))))));exact ⟨zBx (by symm;rw[decide_eq_true_eq];exact zNF qO (fun i hi=>ac i qO)),E⟩
end Go.Proofs
namespace Go.Eng
open Go
theorem zGC {M:Nat→Prop} {P:Program} {N:Nat} {σ:Env} {w:World} {dst:Option Tmp} {z:Operand} {args:List Operand} {tys:Array TypeId} {ty:TypeId} {pos:String} {af:Array Edge} {g:Option (Nat×Bool)} {fv:Value} {vs:List Value} {R:Fct}
  (hz:ev σ z=fv) (ha:args.map (ev σ)=vs) (hc:zCJ P fv vs.toArray w fun v w'=>R v w'∧Chg M w w'):zCg M P N ⟨dst,.call ⟨.value z,args.toArray,tys⟩,ty,pos,af,g⟩ R σ w:=by
 obtain ⟨f,fn,aa,cap,rfl,hf,hn,hb,hr⟩:=hc;exact zCS (zCy hz hf hn hb ha rfl) hr
theorem zRF {P:Program} {kt:TypeId} {κ:Type} [DecidableEq κ] {ek:κ→Value} (hwide:(match P.underlying kt with|some (.array _ _)|some (.struct _)=>true|_=>false)=true)
    (hchk:∀(b:Bool) (w:World) (k:κ),(Instr.checkKey b 10000 kt (ek k)).run P w=.ok () w) (heq:∀(w:World) (a b:κ),(Op.equal kt (ek a) (ek b)).run P w=.ok (decide (a=b)) w) (hsame:∀k,Instr.sameBits 10000 (ek k) (ek k)=true):KeyOk P kt ek where
  check:=hchk
  same:=hsame
  find:=fun ν w k es eV L hL=>by
    have key:∀(L:List MapEntry) (es:List (κ×ν)) (i:Nat),L.map (fun e=>(e.key,e.val))=es.map (fun p=>(ek p.1,eV p.2))→(Instr.findAsking kt (ek k) L i).run P w=.ok (zHj eV es k i) w:=by
      intro L
      induction L with
      | nil=>
        intro es i h;cases es with
        | nil=>rfl
        | cons _ _=>simp at h
      | cons e L ih=>
        intro es i h;cases es with
        | nil=>simp at h
        | cons p es=>
          simp only[List.map_cons,List.cons.injEq,Prod.mk.injEq] at h;obtain ⟨⟨h1,h2⟩,h3⟩:=h;unfold Instr.findAsking zHj;simp only[Sem.run_bind,h1,heq,Result.andThen_ok];by_cases hk:p.1=k
          · rw[if_pos hk,hk];simp[h2]
          · rw[if_neg hk,show decide (k=p.1)=false by simpa using fun h=>hk h.symm];exact ih es (i+1) h3
    rw[run_findKey_eq w hwide];exact key L es 0 hL
theorem zYO {P:Program} {t e:TypeId} {i:TypeInfo} (hu:P.underlying t=some (.array 2 e)) (he:P.underlying e=some (.int .i64)) (hi:P.info? e=some i) (hc:P.cellsOf e=1) (w:World) (a b:Int×Int):(Op.equal t (zIc a) (zIc b)).run P w=.ok (decide (a=b)) w:=by
 have hp:P.plainKey e=true:=by simp[Program.plainKey,he]
 have aa:∀(d:Nat) (x y:Int),(Op.equalIn (d+1) e (.int .i64 x) (.int .i64 y)).run P w=.ok (x == y) w:=fun d x y=>by
  simp[Op.equalIn,run_underlying he]
 have hq:∀x y:Int,(Op.equalIn 9999 e (.int .i64 x) (.int .i64 y)).run P w=.ok (x == y) w:=aa 9998;show (Op.equalIn (9999+1) t (.agg #[.int .i64 a.1,.int .i64 a.2]) (.agg #[.int .i64 b.1,.int .i64 b.2])).run P w=_;rw[run_equalIn_array w 9999 _ _ hu hi,hc,show List.range 2=[0,1] from rfl];obtain ⟨a1,a2⟩:=a;obtain ⟨b1,b2⟩:=b;have p1:∀(x y:Int),(part e #[.int .i64 x,.int .i64 y] 0).run P w=.ok (.int .i64 x) w:=fun x y=>run_part_plain w hp rfl;have p2:∀(x y:Int),(part e #[.int .i64 x,.int .i64 y] 1).run P w=.ok (.int .i64 y) w:=fun x y=>run_part_plain w hp rfl;simp only[Op.eqItems,Sem.run_bind,Nat.zero_mul,Nat.one_mul,p1,p2,Result.andThen_ok,hq,Prod.mk.injEq];by_cases h1:a1=b1
 ·by_cases h2:a2=b2
  ·simp[h1,h2,p2,hq]
  ·simp[h1,h2,p2,hq,show (a2 == b2)=false by simpa using h2]
 ·simp[h1,show (a1 == b1)=false by simpa using h1]
theorem zQT (k:Int×Int):Instr.sameBits 10000 (zIc k) (zIc k)=true:=by
 show Instr.sameBits (9999+1) (.agg _) (.agg _)=true;simp[Instr.sameBits]
end Go.Eng
namespace Go.Proofs
open Go Go.Eng Go.Sort
set_option maxRecDepth 100000
--BEGIN
section
variable {α : Type}
def zBH:List α→Nat→List (α×Int)
  | [],_=>[]
  | m::ks,n=>(m,((n:Nat):Int))::zBH ks (n+1)
theorem zJh:∀(ks:List α) (m:α) (n:Nat),zBH (ks++[m]) n=zBH ks n++[(m,(((n+ks.length:Nat):Nat):Int))]
  | [],m,n=>rfl
  | x::ks,m,n=>by
    show (x,_)::zBH (ks++[m]) (n+1)=(x,_)::(zBH ks (n+1)++_);rw[zJh ks m (n+1),List.length_cons,show n+1+ks.length=n+(ks.length+1) by omega]
theorem zLk:∀{ks:List α} {n:Nat} {q:α×Int},q∈zBH ks n→∃(j:Nat) (m:α),ks[j]?=some m∧q=(m,(((n+j:Nat):Nat):Int))
  | [],_,_,h=>by cases h
  | x::ks,n,q,h=>by
    rcases List.mem_cons.1 h with h|h
    · exact ⟨0,x,rfl,h⟩
    · obtain ⟨j,m,h1,h2⟩:=zLk h;exact ⟨j+1,m,h1,by rw[h2];congr 2;omega⟩
theorem zLl:∀{ks:List α} {n:Nat} {m:α},m∈ks→m∈(zBH ks n).map (·.1)
  | x::ks,n,m,h=>by
    rcases List.mem_cons.1 h with rfl|h
    · exact List.mem_cons_self
    · exact List.mem_cons_of_mem _ (zLl (n:=n+1) h)
variable [DecidableEq α]
theorem zIb {ks:List α} {m:α} {v:Int} (h:zBk (zBH ks 0) m=some v):∃j:Nat,v=((j:Nat):Int)∧ks[j]?=some m:=by
 obtain ⟨j,m',h1,h2⟩:=zLk (zDp h);simp only[Prod.mk.injEq,Nat.zero_add] at h2;exact ⟨j,h2.2,by rw[h1,h2.1]⟩
theorem zGt {ks:List α} {m:α} (h:zBk (zBH ks 0) m=none):m∉ks∧zHq (zBH ks 0) m ((ks.length:Nat):Int)=zBH (ks++[m]) 0:=by
 refine ⟨fun hm=>?_,?_⟩
 ·have:=zEI.2 (zLl (n:=0) hm);rw[h] at this;cases this
 ·rw[zDy _ h,zJh,Nat.zero_add]
end
section
variable {α : Type}
def zJL (stp:α→Nat→Option α) (keys:List α) (k:α) (x:Nat) (y:Int):Prop:=match stp k x with|none=>y = -1|some b=>∃j:Nat,y=((j:Nat):Int)∧keys[j]?=some b
theorem zJL.mono {stp:α→Nat→Option α} {keys:List α} {k:α} {x:Nat} {y:Int} (h:zJL stp keys k x y) (u:List α):zJL stp (keys++u) k x y:=by
  unfold zJL at h⊢;cases hs:stp k x with
  | none=>rw[hs] at h;exact h
  | some b=>rw[hs] at h;obtain ⟨j,h1,h2⟩:=h;exact ⟨j,h1,by rw[List.getElem?_append_left (zAE h2)];exact h2⟩
structure ExpP (c:Nat) (stp:α→Nat→Option α) (a0:α) (keys:List α) (rows:List (List Int)) (row:List Int):Prop where
 k0:keys[0]?=some a0
 nd:keys.Nodup
 rch:∀k∈keys,∃w,inW c w∧zGD stp a0 w=some k
 len:∀r∈rows,r.length=c
 ent:∀(i x:Nat) r y k,rows[i]?=some r→r[x]?=some y→keys[i]?=some k→zJL stp keys k x y
 cur:∀(x:Nat) y k,row[x]?=some y→keys[rows.length]?=some k→zJL stp keys k x y
variable {c : Nat} {stp : α → Nat → Option α} {a0 : α} {keys : List α} {rows : List (List Int)} {row : List Int}
theorem ExpP.start (c:Nat) (stp:α→Nat→Option α) (a0:α):ExpP c stp a0 [a0] [] []:=by
 refine ⟨rfl,qP,fun k hk=>?_,fun r h=>(by cases h),fun i x r y k h=>by simp at h,fun x y k h=>by simp at h⟩;rw[List.mem_singleton] at hk;subst hk;exact ⟨[],inW.nil c,rfl⟩
theorem ExpP.add {k:α} {y:Int} (h:ExpP c stp a0 keys rows row) (hk:keys[rows.length]?=some k) (hE:zJL stp keys k row.length y):ExpP c stp a0 keys rows (row++[y]):=by
 refine {h with cur:=fun x z q hx hq=>?_};rcases zCD hx with h1|⟨h1,h2⟩
 ·exact h.cur x z q h1 hq
 ·rw[hk] at hq;cases hq;rw[h1,h2];exact hE
theorem ExpP.new {k b:α} (h:ExpP c stp a0 keys rows row) (hk:keys[rows.length]?=some k) (hx:row.length<c) (hs:stp k row.length=some b) (hb:b∉keys):ExpP c stp a0 (keys++[b]) rows (row++[((keys.length:Nat):Int)]):=by
 have ab:=zAE hk;have hE:zJL stp (keys++[b]) k row.length ((keys.length:Nat):Int):=by
  unfold zJL;rw[hs];exact ⟨keys.length,rfl,qP⟩
 refine ⟨by rw[List.getElem?_append_left (zAE h.k0)];exact h.k0,?_,fun q hq=>?_,h.len,fun i x r y q hr hy hq=>?_,fun x z q hz hq=>?_⟩
 ·rw[List.nodup_append];refine ⟨h.nd,qP,fun p hp q hq=>?_⟩;rw[List.mem_singleton] at hq;subst hq;exact fun e=>hb (e▸hp)
 ·rcases List.mem_append.1 hq with h1|h1
  ·exact h.rch q h1
  ·rw[List.mem_singleton] at h1;subst h1;obtain ⟨w,h2,h3⟩:=h.rch k (List.mem_of_getElem? hk);exact ⟨w++[row.length],h2.snoc hx,by rw[zEc,h3];exact hs⟩
 ·rcases zCD hq with h1|⟨h1,_⟩
  ·exact (h.ent i x r y q hr hy h1).mono _
  ·have:=zAE hr;omega
 ·have aa:q=k:=by
   rw[List.getElem?_append_left ab,hk] at hq;exact (Option.some.inj hq).symm
  subst aa;rcases zCD hz with h1|⟨h1,h2⟩
  ·exact (h.cur x z q h1 hk).mono _
  ·rw[h1,h2];exact hE
theorem ExpP.rowed (h:ExpP c stp a0 keys rows row) (hl:row.length=c):ExpP c stp a0 keys (rows++[row]) []:=by
 refine ⟨h.k0,h.nd,h.rch,fun r hm=>?_,fun i x r y s h1 h2 h3=>?_,fun x y s h1=>by simp at h1⟩
 ·rcases List.mem_append.1 hm with h1|h1
  ·exact h.len r h1
  ·rw[List.mem_singleton] at h1;rw[h1];exact hl
 ·rcases zCD h1 with h4|⟨h4,h5⟩
  ·exact h.ent i x r y s h4 h2 h3
  ·subst h5;rw[h4] at h3;exact h.cur x y s h2 h3
def zHl (c:Nat) (stp:α→Nat→Option α) (a0:α) (m:Nat):Prop:=∀l:List α,l.Nodup→(∀k∈l,∃w,inW c w∧zGD stp a0 w=some k)→l.length≤m
theorem zLa {β:Type}:∀{l m:List β},l.Nodup→(∀x∈l,x∈m)→l.length≤m.length
  | [],_,_,_=>Nat.zero_le _
  | x::l,m,hd,h=>by
    have hd':=List.nodup_cons.1 hd;obtain ⟨s,t,rfl⟩:=List.append_of_mem (h x List.mem_cons_self);have:=zLa (l:=l) (m:=s++t) hd'.2 fun y hy=>by
      have h1:=h y (List.mem_cons_of_mem _ hy);rcases List.mem_append.1 h1 with h2|h2
      · exact List.mem_append_left _ h2
      · rcases List.mem_cons.1 h2 with rfl|h3
        · exact absurd hy hd'.1
        · exact List.mem_append_right _ h3
    simp only[List.length_append,List.length_cons] at this⊢;omega
theorem ExpP.closed (h:ExpP c stp a0 keys rows []) (hl:rows.length=keys.length):∀(w:List Nat) (k q:α),inW c w→k∈keys→zGD stp k w=some q→q∈keys
  | [],k,q,_,hk,hr=>by simp only[zGD,Option.some.injEq] at hr;exact hr▸hk
  | x::w,k,q,hw,hk,hr=>by
    simp only[zGD] at hr;obtain ⟨i,hi⟩:=List.getElem?_of_mem hk;obtain ⟨r,hrr⟩:=zAJ (l:=rows) (i:=i) (by have:=zAE hi;omega);obtain ⟨y,hy⟩:=zAJ (l:=r) (i:=x) (by have:=h.len r (List.mem_of_getElem? hrr);have:=hw.head;omega);have hE:=h.ent i x r y k hrr hy hi;unfold zJL at hE;cases hs:stp k x with
    | none=>rw[hs] at hr;cases hr
    | some b=>
      rw[hs] at hE hr;obtain ⟨j,_,h2⟩:=hE;simp only[Option.bind_some] at hr;exact h.closed hl w b q hw.tail (List.mem_of_getElem? h2) hr
theorem ExpP.all (h:ExpP c stp a0 keys rows []) (hl:rows.length=keys.length):zHl c stp a0 keys.length:=fun l hd hr=>zLa hd fun k hk=>by
 obtain ⟨w,hw,h1⟩:=hr k hk;exact h.closed hl w a0 k hw (List.mem_of_getElem? h.k0) h1
theorem zHl.mono {m m':Nat} (h:zHl c stp a0 m) (hm:m≤m'):zHl c stp a0 m':=fun l hd hr=>Nat.le_trans (h l hd hr) hm
def zPf (stp:α→Nat→Option α) (acc:α→Int) (k:α) (w:List Nat):Int:=match zGD stp k w with|some b=>acc b|none=>-1
theorem ExpP.done {acc:α→Int} (h:ExpP c stp a0 keys rows []) (hl:rows.length=keys.length) (ha:∀k∈keys,-1≤acc k):OkD keys.length c ⟨0,keys.map acc,rows⟩∧∀w,inW c w→beh ⟨0,keys.map acc,rows⟩ 0 w=zPf stp acc a0 w:=by
  have hk0:=zAE h.k0;have ok:OkD keys.length c ⟨0,keys.map acc,rows⟩:=⟨hl,qP,⟨Int.le_refl _,by show (0:Int)<_;omega⟩,fun x hx=>by
    obtain ⟨k,hk,rfl⟩:=List.mem_map.1 hx;exact ha k hk,fun r hr=>by
    have hr:r∈rows:=hr;refine ⟨h.len r hr,fun y hy=>?_⟩;obtain ⟨i,hi⟩:=List.getElem?_of_mem hr;obtain ⟨x,hx⟩:=List.getElem?_of_mem hy;obtain ⟨k,hk⟩:=zAJ (l:=keys) (i:=i) (by have:=zAE hi;omega);have hE:=h.ent i x r y k hi hx hk;unfold zJL at hE;cases hs:stp k x with
    | none=>rw[hs] at hE;simp only at hE;omega
    | some b=>rw[hs] at hE;obtain ⟨j,h1,h2⟩:=hE;have:=zAE h2;omega⟩
  refine ⟨ok,?_⟩;have aa:∀(w:List Nat) (i:Nat) (k:α),inW c w→keys[i]?=some k→beh ⟨0,keys.map acc,rows⟩ ((i:Nat):Int) w=zPf stp acc k w:=by
    intro w
    induction w with
    | nil=>
      intro i k _ hk;simp only[beh,zPf,zGD];exact zDi (by simp[hk])
    | cons x w ih=>
      intro i k hw hk;obtain ⟨r,hr⟩:=zAJ (l:=rows) (i:=i) (by have:=zAE hk;omega);obtain ⟨y,hy⟩:=zAJ (l:=r) (i:=x) (by have:=h.len r (List.mem_of_getElem? hr);have:=hw.head;omega);have hE:=h.ent i x r y k hr hy hk;simp only[beh,zPf,zGD];rw[zEq (d:=⟨0,keys.map acc,rows⟩) hr hy];unfold zJL at hE;cases hs:stp k x with
      | none=>rw[hs] at hE;simp only at hE;simp only[Option.bind_none];exact zCh qO
      | some b=>
        rw[hs] at hE;obtain ⟨j,rfl,h2⟩:=hE;simp only[Option.bind_some];exact ih j b hw.tail h2
  intro w hw;exact aa w 0 a0 hw h.k0
end
--END
end Go.Proofs
namespace Go.Proofs
open Go Go.Eng Go.Sort
set_option maxRecDepth 100000
def kcS (k:ByteArray):List Value:=[.string k]
def kcP (k:Int×Int):List Value:=[.int .i64 k.1,.int .i64 k.2]
theorem zDO {α:Type} {kc:α→List Value} {sz:Nat} (hk:∀k,(kc k).length=sz) {w:World} {b:Nat}:∀{l:List α} {o i:Nat} {k:α},zAz w b o (l.map kc).flatten→l[i]?=some k→zAz w b (o+i*sz) (kc k)
  | [],_,_,_,_,h=>by simp at h
  | q::l,o,0,k,h,hi=>by
    simp at hi;subst hi;intro j v hv;rw[Nat.zero_mul,Nat.add_zero];exact h j v (by rw[List.map_cons,List.flatten_cons,List.getElem?_append_left (zAE hv)];exact hv)
  | q::l,o,i+1,k,h,hi=>by
    have h2:zAz w b (o+sz) (l.map kc).flatten:=fun j v hv=>by
      have:=h (sz+j) v (by rw[List.map_cons,List.flatten_cons,List.getElem?_append_right (by rw[hk];omega),hk,show sz+j - sz=j by omega];exact hv)
      rwa [←Nat.add_assoc] at this
    have:=zDO hk h2 (i:=i) (k:=k) (by simpa using hi)
    rwa [show o+(i+1)*sz=o+sz+i*sz by rw[Nat.add_mul];omega]
def Rch {α:Type} (c:Nat) (stp:α→Nat→Option α) (a0 k:α):Prop:=∃w,inW c w∧zGD stp a0 w=some k
def zVL (base:Nat) (D:Dfa) (r:Value) (w:World):Prop:=∃ea ec na nc vs,r=.agg #[.int .i64 D.start,.slice ea D.accept.length ec,.slice na D.next.length nc]∧OutSt w base (.slice ea D.accept.length ec) (.slice na D.next.length nc) vs D.accept D.next
structure ExpOf {α:Type} (c most:Nat) (stp:α→Nat→Option α) (acc:α→Int) (a0:α) (D:Dfa):Prop where
 ok:OkD D.next.length c D
 most:D.next.length≤most
 start:D.start=0
 beh:∀w,inW c w→beh D 0 w=zPf stp acc a0 w
 acc:∀x∈D.accept,x<2147483648
def zJy {α:Type} (c most:Nat) (stp:α→Nat→Option α) (acc:α→Int) (first:α) (base:Nat) (r:Value) (w:World):Prop:=
 (zHl c stp first most∧∃D v,(∀mx,zHl c stp first mx→ExpOf c mx stp acc first D)∧r=.tuple #[v,.bool true]∧zVL base D v w)∨(¬zHl c stp first most∧r=.tuple #[.agg #[.int .i64 0,.slice none 0 0,.slice none 0 0],.bool false])
theorem OutSt.low {w:World} {base b0:Nat} {E N:Value} {vs:List Value} {acc:List Int} {rows:List (List Int)} (h:OutSt w base E N vs acc rows) (hb:b0≤base):OutSt w b0 E N vs acc rows:=
 ⟨zFM h.e hb,⟨zFM h.n.o hb,h.n.len,fun i v p hv hp=>zFM (h.n.inn i v p hv hp) hb,h.n.apo⟩,h.en,h.ei⟩
theorem zRe (w0:World) (first:ByteArray) (c most:Nat) (sv av:Value) (stp:ByteArray→Nat→Option ByteArray) (acc:ByteArray→Int) (hc:1≤c∧c≤16) (hm:1≤most∧most≤20000) (hac:∀k,Rch c stp first k→-1≤acc k∧acc k<2147483648)
  (hs:∀w k x,Ext w0 w→Rch c stp first k→x<c→zCJ prog sv #[.string k,.int .i64 ((x:Nat):Int)] w fun r w'=>(∃q,r=.tuple #[.string q,.bool (stp k x).isSome]∧∀b,stp k x=some b→q=b)∧Ext w w')
  (ha:∀w k,Ext w0 w→Rch c stp first k→zCJ prog av #[.string k] w fun r w'=>r=.int .i64 (acc k)∧Ext w w') :
  Ret prog 38 #[.string first,.int .i64 ((c:Nat):Int),sv,av,.int .i64 ((most:Nat):Int)] w0 fun r w=>zJy c most stp acc first w0.heap.size r w∧Ext w0 w:=by
 have cy:∀k,(kcS k).length=1:=fun _=>rfl;refine qR func38 rfl ntmps38 rfl (fun E=>(zAA (zBB (c:=#[(I6 0),(.slice none 0 0),(.slice none 0 0)]) qD zBn rfl ?_)));intro br wr Nr;have Fr:=Nr.ge E;replace E:=E.ext Nr.ext;have Br:=Nr.blk;refine qA (.bool false) rfl (zAB (zAA (qM (.string first) rfl (zAc (ps:=[(0,(.string first))]) (c:=#[(.string first)]) qD rfl underlying114 zXF zYg qD qD qK ?_))));intro bs ws Ns;have Fs:=Ns.ge E;have Os_br:=Ns.lt Br;replace Br:=Ns.keep Br;replace E:=E.ext Ns.ext;have Bs:=Ns.blk;refine qA (.slice (some ⟨bs,0,none⟩) 1 1) rfl (zAB (zAA (zEb zKw zFH qD ?_)));intro bm wm Nm;have Fm:=Nm.ge E;have Om_br:=Nm.lt Br;have Om_bs:=Nm.lt Bs;replace Br:=Nm.keep Br;replace Bs:=Nm.keep Bs;replace E:=E.ext Nm.ext;intro Mm;refine qM (.string first) rfl (zHm (k:=first) (v:=0) underlying80 (zHb underlying9) Mm rfl rfl rfl ?_);intro w1 S1 H1;replace Br:=S1.keep qO Br;replace Bs:=S1.keep qO Bs;replace E:=S1.step E qQ;replace Mm:=H1;refine qM (.map (some bm)) rfl (qA (.map (some bm)) rfl (zAB (zAA (zBB (c:=#[(I6 0),(.slice none 0 0),(.slice none 0 0)]) qD zBn rfl ?_))));intro bd wd Nd;have Fd:=Nd.ge E;have Od_br:=Nd.lt Br;have Od_bs:=Nd.lt Bs;have Od_bm:=Nd.ltM Mm;replace Br:=Nd.keep Br;replace Bs:=Nd.keep Bs;replace Mm:=Nd.keepM Mm;replace E:=E.ext Nd.ext;have Bd:=Nd.blk;refine zAB (zAH (zAA (qA (I6 0) rfl (zAB (zAT ?_)))));obtain ⟨n1,dp⟩:∃n1,n1=bs:=⟨_,rfl⟩;obtain ⟨n2,aq⟩:∃n2,n2=(wd).heap.size:=⟨_,rfl⟩;have dt:br<n2∧bs<n2∧bm<n2∧bd<n2:=⟨by rw[aq];exact Br.lt,by rw[aq];exact Bs.lt,by rw[aq];exact Mm.lt,by rw[aq];exact Bd.lt⟩;have ch:w0.heap.size≤n1∧w0.heap.size≤n2:=qO
 have d7:(wd).ownsRow n1 9 1 (.slice (some ⟨bs,0,none⟩) 1 1) 1 ([first].map kcS).flatten:=zKO (base:=n1) Bs qO;refine zAo (fun nn_ σ W2=>∃(i:Nat) (ab:List (List Int)) (ks:List ByteArray) (ac:List Int) (vs:List Value) (sa ea af:Option Addr) (ae sn ec ag:Nat),(∃jj_,σ=zCT jj_ [(1,(I6 (c:Int))),(2,sv),(3,av),(4,(I6 (most:Int))),(10,(P6 br 0)),(13,(.map (some bm))),(14,(P6 bd 0)),(15,(I6 (i:Int))),(12,(.slice sa sn ae))])∧Chg zAe w0 W2∧Blk W2 br #[(I6 0),(.slice none 0 0),(.slice none 0 0)] 34∧zCG W2 bm zKw zFH (zBH ks 0)∧Blk W2 bd (#[Value.int .i64 0,.slice ea i ec,.slice af i ag]) 34∧(ExpP c stp first ks ab [])∧(ab.length=i)∧(ks.length≤most)∧(sn=ks.length)∧(i≤sn)∧(ac=(ks.take i).map acc)∧(W2.ownsRow n1 9 1 (.slice sa sn ae) sn (ks.map kcS).flatten)∧(OutSt W2 n2 (.slice ea i ec) (.slice af i ag) vs ac ab)∧(∀b,(Value.slice sa sn ae).ownBlock=some b→¬zHP (.slice ea i ec) (.slice af i ag) vs b∧b≠bm∧b≠bd)∧(n2≤W2.heap.size)∧nn_=most - i) (n:=most - 0) ?_ ?_
 ·exact ⟨0,[],[first],[],[],some ⟨bs,0,none⟩,none,none,1,1,0,0,zAs.out ⟨rfl,rfl,rfl,rfl,rfl,rfl,rfl,rfl,rfl,trivial⟩,E,Br,Mm,Bd,ExpP.start _ _ _,rfl,hm.1,rfl,qO,rfl,d7,OutSt.start _ _,(fun b hb=>⟨(fun h=>by rcases h with h|h|⟨i,v,h,_⟩;cases h;cases h;simp at h),(by have dg:bs=b:=Option.some.inj hb;omega),(by have dg:bs=b:=Option.some.inj hb;omega)⟩),qO,rfl⟩
 ·clear E Br Mm Bd;rintro _ _ W2 ⟨i,ab,ks,ac,vs,sa,ea,af,ae,sn,ec,ag,⟨j2,rfl⟩,E,Br,Mm,Bd,hC,bt,ba,be,dq,a0,hS,hO,ah,ak,rfl⟩;refine zAH (zAA (qM (I6 (i:Int)) rfl (qM (.slice sa sn ae) rfl (qV (zAK (ad:=sa) (n:=sn) (cap:=ae) underlying114 rfl) (qV (zBA (k:=.i64) (a:=(i:Int)) (b:=(sn:Int)) rfl rfl) (zAB (qC rfl (fun dr=>?_) (fun dr=>?_))))))))
  ·obtain ⟨k,al⟩:=zAJ (l:=ks) (i:=i) qO;have cx:=hC.rch k (List.mem_of_getElem? al);obtain ⟨sb,rfl,c7,hsc⟩:=zBS hS qO;obtain ⟨z0,hz0⟩:∃z0,z0=(W2).heap.size:=⟨_,rfl⟩;have du:n2≤z0:=qO
   have bk:∀b,zHP (.slice ea i ec) (.slice af i ag) vs b→b<z0:=fun b hb=>by have:=(hO.lt hb).2;omega
   have d5:∀b,(Value.slice (some ⟨sb,0,none⟩) sn ae).ownBlock=some b→b<z0:=fun b hb=>by have:=(hS.lt b hb).2;omega
   refine zAO (zAC (zAH (zAT (zAA (qM (I6 (c:Int)) rfl (zEQ (n:=c) (z:=(I6 0)) (bytes:=8) qD underlying22 zAv zJs zDJ rfl rfl rfl qO qO ?_))))));intro bq wq Nq;have Fq:=Nq.ge E;have Oq_br:=Nq.lt Br;have Oq_bm:=Nq.ltM Mm;have Oq_bd:=Nq.lt Bd;replace Br:=Nq.keep Br;replace Mm:=Nq.keepM Mm;replace Bd:=Nq.keep Bd;replace hS:=zAg hS Nq.ext;replace hO:=hO.ext Nq.ext;replace ak:=Nat.le_trans ak Nq.ext.size;replace E:=E.ext Nq.ext;have Bq:=Nq.blk;refine qA (.slice (some ⟨bq,0,none⟩) c c) rfl (zAB (zAH (zAA (qM (I6 (c:Int)) rfl (qM (I6 0) rfl (zAB (zAT ?_)))))));have hqz:z0≤bq:=by have:=Nq.eq;omega
   rw[show List.replicate c (Value.int .i64 0)=(List.replicate c (0:Int)).map (Value.int .i64) by simp] at Bq;refine zAo (fun nn_ σ W4=>∃(x:Nat) (R:List Int) (ks:List ByteArray) (sa:Option Addr) (ae sn:Nat),(∃jj_,σ=zCT jj_ [(1,(I6 (c:Int))),(2,sv),(3,av),(4,(I6 (most:Int))),(10,(P6 br 0)),(13,(.map (some bm))),(14,(P6 bd 0)),(15,(I6 (i:Int))),(16,(.slice (some ⟨bq,0,none⟩) c c)),(35,(I6 (c:Int))),(36,(I6 (x:Int))),(12,(.slice sa sn ae))])∧Chg zAe w0 W4∧Blk W4 br #[(I6 0),(.slice none 0 0),(.slice none 0 0)] 34∧zCG W4 bm zKw zFH (zBH ks 0)∧Blk W4 bd (#[Value.int .i64 0,.slice ea i ec,.slice af i ag]) 34∧Blk W4 bq ((R.map (Value.int .i64)).toArray) 3∧(x≤c)∧(R.length=c)∧(ExpP c stp first ks ab (R.take x))∧(ks.length≤most)∧(ks[i]?=some k)∧(sn=ks.length)∧((ks.take i).map acc=ac)∧(W4.ownsRow n1 9 1 (.slice sa sn ae) sn (ks.map kcS).flatten)∧(OutSt W4 n2 (.slice ea i ec) (.slice af i ag) vs ac ab)∧(∀b,(Value.slice sa sn ae).ownBlock=some b→¬zHP (.slice ea i ec) (.slice af i ag) vs b∧b≠bm∧b≠bd∧b≠bq)∧(n2≤W4.heap.size)∧nn_=c - x) (n:=c - 0) ?_ ?_
   ·exact ⟨0,List.replicate c 0,ks,some ⟨sb,0,none⟩,ae,sn,zAs.out ⟨rfl,rfl,rfl,rfl,rfl,rfl,rfl,rfl,rfl,rfl,rfl,rfl,trivial⟩,E,Br,Mm,Bd,Bq,Nat.zero_le _,qP,(by simpa using hC),ba,al,be,a0.symm,hS,hO,(fun b hb=>⟨(ah b hb).1,(ah b hb).2.1,(ah b hb).2.2,fun e=>by have:=d5 b hb;omega⟩),ak,rfl⟩
   ·clear E Br Mm Bd Bq;rintro _ _ W4 ⟨x,R,ks,sa,ae,sn,⟨j4,rfl⟩,E,Br,Mm,Bd,Bq,hx,bf,hC,ba,al,be,bu,hS,hO,ah,ak,rfl⟩;refine zAA (qV (zBA (k:=.i64) (a:=(x:Int)) (b:=(c:Int)) rfl rfl) (zAB (zAH (qC rfl (fun cb=>?_) (fun cb=>?_)))))
    ·obtain ⟨aj,rfl,_,a2⟩:=zBS hS (by have:=zAE al;omega);have ds:i<sn:=by have:=zAE al;omega
     have b5:(W4).cell? ⟨aj,0+i,none⟩=some (.string k):=by have h9:=zDO cy a2 al 0 _ rfl;rwa [Nat.mul_one,Nat.add_zero] at h9
     refine zAO (zAC (zAH (zAT (zAA (qM (I6 (x:Int)) rfl (qA (I6 (x:Int)) rfl (zAB (zAA (qM sv rfl (qM (.slice (some ⟨aj,0,none⟩) sn ae) rfl (qM (I6 (i:Int)) rfl (qV (zAD (b:=aj) (o:=0) (len:=sn) (cap:=ae) (i:=i) (o':=0+i) rfl rfl rfl underlying114 zXF qO qO) (qV (zAG (v:=(.string k)) rfl zRV (b5)) (qM (I6 (x:Int)) rfl (zDD (fv:=sv) (vs:=[(.string k),(I6 (x:Int))]) qD rfl rfl (hs _ k x E cx qO) ?_)))))))))))))));rintro _ w9 ⟨⟨q,rfl,hq⟩,X9⟩;replace Br:=X9.keep Br;replace Mm:=X9.keepM Mm;replace Bd:=X9.keep Bd;replace Bq:=X9.keep Bq;replace E:=E.ext X9;have hS:=zAg hS X9;have hO:=hO.ext X9;have ak:=Nat.le_trans ak X9.size;have a4:(R.take x).length=x:=by simp;omega
     have a3:ks[ab.length]?=some k:=by rw[bt];exact al
     have dz:=zBp (L:=R) (s:=x) (x:=-1) qO;refine qM (.tuple #[(.string q),(.bool ((stp k x).isSome))]) rfl (qV (zAb (vs:=#[(.string q),(.bool ((stp k x).isSome))]) (v:=(.string q)) rfl rfl) (qV (zAb (vs:=#[(.string q),(.bool ((stp k x).isSome))]) (v:=(.bool ((stp k x).isSome))) rfl rfl) (qA (.string q) rfl (qA (.bool ((stp k x).isSome)) rfl (zAB (zAH (zAA (qM (.slice (some ⟨bq,0,none⟩) c c) rfl (qM (I6 (x:Int)) rfl (qV (zAD (b:=bq) (o:=0) (len:=c) (cap:=c) (i:=x) (o':=0+x) rfl rfl rfl underlying22 zAv qO qO) (zAt (b:=bq) (o:=0+x) (c':=((R.set x (-1)).map (Value.int .i64)).toArray) (v:=(I6 (-1))) rfl rfl rfl zAv Bq (by simp;omega) (zCW _) ?_)))))))))));intro w6 S6;replace hS:=zAn hS S6.chg fun b hb h=>(ah b hb).2.2.2 h;replace hO:=hO.chg S6.chg fun b hb h=>by have:=bk b hb;have h':b=bq:=h;omega
     replace ak:=Nat.le_trans ak S6.chg.size;replace Br:=S6.keep qO Br;replace Mm:=S6.keepM qO Mm;replace Bd:=S6.keep qO Bd;replace E:=S6.step E qQ;replace Bq:=S6.blk;refine zAB (zAA (qM (.bool ((stp k x).isSome)) rfl (qV (zCa (b:=(stp k x).isSome) rfl) (zAB (zAx (b:=!((stp k x).isSome)) rfl (fun ar=>?_) (fun ar=>?_))))))
     ·have ck:=ar;replace ar:=by simpa using ar
      have b2:stp k x=none:=by simpa using ar
      have dy:zJL stp ks k (R.take x).length (-1):=by unfold zJL;rw[a4,b2]
      refine zAl (zAV (zAf (zAC (zAF (qV (zAw (k:=.i64) (a:=(x:Int)) (b:=1) (c:=(x:Int)+1) rfl rfl (zBf qO)) (qM (I6 ((x:Int)+1)) rfl (zAB (zAC ?_))))))));exact ⟨c - (x+1),qO,x+1,R.set x (-1),ks,some ⟨aj,0,none⟩,ae,sn,zAs.out ⟨rfl,rfl,rfl,rfl,rfl,rfl,rfl,rfl,rfl,rfl,rfl,rfl,trivial⟩,E,Br,Mm,Bd,Bq,qO,(by simp[bf]),(by rw[dz];exact hC.add a3 dy),ba,al,be,bu,hS,hO,ah,ak,rfl⟩
     ·have ck:=ar;replace ar:=by simpa using ar
      obtain ⟨q',cn⟩:=Option.isSome_iff_exists.1 (show (stp k x).isSome=true by simpa using ar);have d9:=hq q' cn;subst d9;refine zAO (zAC (zAA (qM (.map (some bm)) rfl (qM (.string q) rfl (zBo (v:=(.tuple #[(I6 ((zBk (zBH ks 0) q).getD 0)),(.bool ((zBk (zBH ks 0) q).isSome))])) rfl rfl qD (zEd (k:=q) (z:=0) underlying80 (zHb underlying9) zDJ Mm rfl rfl) (qM (.tuple #[(I6 ((zBk (zBH ks 0) q).getD 0)),(.bool ((zBk (zBH ks 0) q).isSome))]) rfl (qV (zAb (vs:=#[(I6 ((zBk (zBH ks 0) q).getD 0)),(.bool ((zBk (zBH ks 0) q).isSome))]) (v:=(I6 ((zBk (zBH ks 0) q).getD 0))) rfl rfl) (qV (zAb (vs:=#[(I6 ((zBk (zBH ks 0) q).getD 0)),(.bool ((zBk (zBH ks 0) q).isSome))]) (v:=(.bool ((zBk (zBH ks 0) q).isSome))) rfl rfl) (qA (I6 ((zBk (zBH ks 0) q).getD 0)) rfl (qA (.bool ((zBk (zBH ks 0) q).isSome)) rfl (zAB (zFq (fun σ W8=>∃(aw:List ByteArray) (j:Nat) (bv:Option Addr) (bz a5:Nat),(∃jj_,σ=zCT jj_ [(1,(I6 (c:Int))),(2,sv),(3,av),(4,(I6 (most:Int))),(10,(P6 br 0)),(13,(.map (some bm))),(14,(P6 bd 0)),(15,(I6 (i:Int))),(16,(.slice (some ⟨bq,0,none⟩) c c)),(17,(I6 (x:Int))),(35,(I6 (c:Int))),(36,(I6 (x:Int))),(12,(.slice bv a5 bz)),(20,(I6 (j:Int)))])∧Chg zAe w0 W8∧Blk W8 br #[(I6 0),(.slice none 0 0),(.slice none 0 0)] 34∧zCG W8 bm zKw zFH (zBH aw 0)∧Blk W8 bd (#[Value.int .i64 0,.slice ea i ec,.slice af i ag]) 34∧Blk W8 bq (((R.set x (-1)).map (Value.int .i64)).toArray) 3∧(ExpP c stp first aw ab (R.take x++[(j:Int)]))∧(aw.length≤most)∧(aw[i]?=some k)∧(a5=aw.length)∧((aw.take i).map acc=ac)∧(W8.ownsRow n1 9 1 (.slice bv a5 bz) a5 (aw.map kcS).flatten)∧(OutSt W8 n2 (.slice ea i ec) (.slice af i ag) vs ac ab)∧(∀b,(Value.slice bv a5 bz).ownBlock=some b→¬zHP (.slice ea i ec) (.slice af i ag) vs b∧b≠bm∧b≠bd∧b≠bq)∧(n2≤W8.heap.size)) ?_ ?_))))))))))))
      ·skip
       refine zAA (qM (.bool ((zBk (zBH ks 0) q).isSome)) rfl (qV (zCa (b:=(zBk (zBH ks 0) q).isSome) rfl) (zAB (zAx (b:=!((zBk (zBH ks 0) q).isSome)) rfl (fun ai=>?_) (fun ai=>?_)))))
       ·have b0:=ai;replace ai:=by simpa using ai
        have dj:zBk (zBH ks 0) q=none:=by simpa using ai
        obtain ⟨ci,b6⟩:=zGt dj;have b3:=hC.new a3 qO (by rw[a4];exact cn) ci;refine zAA (qM (.slice (some ⟨aj,0,none⟩) sn ae) rfl (qV (zAK (ad:=some ⟨aj,0,none⟩) (n:=sn) (cap:=ae) underlying114 rfl) (qA (I6 (sn:Int)) rfl (zAB (zAH (zAA (qM (I6 (sn:Int)) rfl (qM (I6 (most:Int)) rfl (qV (zAq (k:=.i64) (a:=(sn:Int)) (b:=(most:Int)) rfl rfl) (zAB (qC rfl (fun bi=>?_) (fun bi=>?_))))))))))))
        ·refine zAA (qV (zBF (ps:=[]) (v:=(.agg #[(I6 0),(.slice none 0 0),(.slice none 0 0)])) rfl qK) (zAa (b:=br) (o:=0) (c':=#[(I6 0),(.slice none 0 0),(.slice none 0 0)]) rfl rfl qS zAi rfl Br qL rfl ?_));intro w11 bo;replace Mm:=bo.keepM qO Mm;replace Bd:=bo.keep qO Bd;replace Bq:=bo.keep qO Bq;replace E:=bo.step E qQ;replace Br:=bo.blk;refine qA (.bool false) rfl (zAB (zAW (zAX (zAX (zAh (zAX (zAX (zAh (zAX (zAh (zAX (zAX (zAh (zAX (zBG results38 (vs:=[(.int .i64 0),(.slice none 0 0),(.slice none 0 0)]) (b:=br) (v':=(.bool false)) rfl zBC zAi rfl (Br.cells rfl) rfl ?_)))))))))))))));exact ⟨.inr ⟨fun hF=>by have h9:=hF _ b3.nd b3.rch;rw[List.length_append,List.length_singleton] at h9;omega,rfl⟩,E⟩
        ·refine zAO (zAC (zAA (qM (.map (some bm)) rfl (qM (.string q) rfl (qM (I6 (sn:Int)) rfl (zDL (k:=q) (v:=(sn:Int)) underlying80 (zHb underlying9) Mm rfl rfl rfl ?_))))));intro w12 bc da;replace hS:=zAn hS bc.chg fun b hb h=>(ah b hb).2.1 h;replace hO:=hO.chg bc.chg fun b hb h=>by have:=(hO.lt hb).1;have h':b=bm:=h;omega
         replace ak:=Nat.le_trans ak bc.chg.size;replace Br:=bc.keep qO Br;replace Bd:=bc.keep qO Bd;replace Bq:=bc.keep qO Bq;replace E:=bc.step E qQ;replace Mm:=da;refine zAB (zAF (qM (.slice (some ⟨aj,0,none⟩) sn ae) rfl (qM (.string q) rfl (zAc (ps:=[(0,(.string q))]) (c:=#[(.string q)]) qD rfl underlying114 zXF zYg qD qD qK ?_))));intro b13 df am;have F13:=am.ge E;have O13_br:=am.lt Br;have O13_bm:=am.ltM Mm;have O13_bd:=am.lt Bd;have O13_bq:=am.lt Bq;replace Br:=am.keep Br;replace Mm:=am.keepM Mm;replace Bd:=am.keep Bd;replace Bq:=am.keep Bq;replace hS:=zAg hS am.ext;replace hO:=hO.ext am.ext;replace ak:=Nat.le_trans ak am.ext.size;replace E:=E.ext am.ext;have dl:=am.blk;have db:bq<(df).heap.size:=Bq.lt;refine zBt (base:=n1) (n:=sn) (m:=1) (xs:=(ks.map kcS).flatten) (news:=[(.string q)]) (size:=1) (bytes:=16) (v:=(.slice (some ⟨aj,0,none⟩) sn ae)) qD underlying114 zXF byt9 zYg rfl qD rfl hS rfl (rfl) (dl.cells rfl) qS (by unfold maxLen;omega) qO (qO) ?_;intro v7 w59 cs a7 d2;replace Br:=a7.keep (fun h=>by have:=(hS.lt _ h).1;omega) Br;replace Mm:=a7.keepM (fun h=>(ah _ h).2.1 rfl) Mm;replace Bd:=a7.keep (fun h=>(ah _ h).2.2.1 rfl) Bd;replace Bq:=a7.keep (fun h=>(ah _ h).2.2.2 rfl) Bq;replace E:=E.step a7 (fun x hx h=>absurd (hS.lt x h).1 qO);obtain ⟨cp,ct,rfl⟩:=zBR cs;rw[be,b6] at Mm;refine qA (.slice cp (sn+1) ct) rfl (zAB (zAC ?_));exact ⟨ks++[q],sn,cp,ct,sn+1,zAs.out ⟨rfl,rfl,rfl,rfl,rfl,rfl,rfl,rfl,rfl,rfl,rfl,rfl,rfl,rfl,trivial⟩,E,Br,Mm,Bd,Bq,(by rw[be];exact b3),(by rw[List.length_append,List.length_singleton];omega),(by rw[List.getElem?_append_left (zAE al)];exact al),(by simp;omega),(by rw[List.take_append_of_le_length (by have:=zAE al;omega)];exact bu),(by rw[List.map_append,List.flatten_append];exact cs),hO.chg a7 (fun b hb h=>(ah b h).1 hb),(fun b hb=>by rcases d2 b hb with h9|h9;exact ah b h9;exact ⟨fun ho=>by have:=(hO.lt ho).2;omega,qO,qO,qO⟩),Nat.le_trans ak a7.size⟩
       ·have b0:=ai;replace ai:=by simpa using ai
        have d6:(zBk (zBH ks 0) q).isSome=true:=by simpa using ai
        obtain ⟨v9,cv⟩:=Option.isSome_iff_exists.1 d6;obtain ⟨j9,rfl,ed⟩:=zIb cv;rw[show (zBk (zBH ks 0) q).getD 0=((j9:Nat):Int) from by rw[cv];rfl];refine zAO (zAC ?_);exact ⟨ks,j9,some ⟨aj,0,none⟩,ae,sn,zAs.out ⟨rfl,rfl,rfl,rfl,rfl,rfl,rfl,rfl,rfl,rfl,rfl,rfl,rfl,rfl,trivial⟩,E,Br,Mm,Bd,Bq,hC.add a3 (by unfold zJL;rw[a4,cn];exact ⟨j9,rfl,ed⟩),ba,al,be,bu,hS,hO,ah,ak⟩
      ·clear E Br Mm Bd Bq;rintro _ W8 ⟨aw,j,bv,bz,a5,⟨j8,rfl⟩,E,Br,Mm,Bd,Bq,d0,b1,ca,b8,b7,cg,cm,bx,bb⟩;have cl:=zBp (L:=R.set x (-1)) (s:=x) (x:=((j:Nat):Int)) (by simp;omega);refine zAF (qM (.slice (some ⟨bq,0,none⟩) c c) rfl (qM (I6 (x:Int)) rfl (qM (I6 (j:Int)) rfl (qV (zAD (b:=bq) (o:=0) (len:=c) (cap:=c) (i:=x) (o':=0+x) rfl rfl rfl underlying22 zAv qO qO) (zAt (b:=bq) (o:=0+x) (c':=(((R.set x (-1)).set x (j:Int)).map (Value.int .i64)).toArray) (v:=(I6 (j:Int))) rfl rfl rfl zAv Bq (by simp;omega) (zCW _) ?_)))));intro w14 ax;replace cg:=zAn cg ax.chg fun b hb h=>(bx b hb).2.2.2 h;replace cm:=cm.chg ax.chg fun b hb h=>by have:=bk b hb;have h':b=bq:=h;omega
       replace bb:=Nat.le_trans bb ax.chg.size;replace Br:=ax.keep qO Br;replace Mm:=ax.keepM qO Mm;replace Bd:=ax.keep qO Bd;replace E:=ax.step E qQ;replace Bq:=ax.blk;refine zAB (zAS (zAC (zAF (qV (zAw (k:=.i64) (a:=(x:Int)) (b:=1) (c:=(x:Int)+1) rfl rfl (zBf qO)) (qM (I6 ((x:Int)+1)) rfl (zAB (zAC ?_)))))));exact ⟨c - (x+1),qO,x+1,(R.set x (-1)).set x ((j:Nat):Int),aw,bv,bz,a5,zAs.out ⟨rfl,rfl,rfl,rfl,rfl,rfl,rfl,rfl,rfl,rfl,rfl,rfl,trivial⟩,E,Br,Mm,Bd,Bq,qO,(by simp[bf]),(by rw[cl,List.take_set_of_le (Nat.le_refl x)];exact d0),b1,ca,b8,b7,cg,cm,bx,bb,rfl⟩
    ·have c9:x=c:=qO
     rw[c9,show R.take c=R by rw[←bf,List.take_length]] at hC;obtain ⟨n4,c0⟩:∃n4,n4=(W4).heap.size:=⟨_,rfl⟩;have ds:=zAE al;obtain ⟨aj,rfl,_,a2⟩:=zBS hS qO;have b5:(W4).cell? ⟨aj,0+i,none⟩=some (.string k):=by have h9:=zDO cy a2 al 0 _ rfl;rwa [Nat.mul_one,Nat.add_zero] at h9
     have bp:ac.length=i:=by rw[←bu,List.length_map,List.length_take];omega
     have an:(W4).ownsRow n2 TDI 1 (.slice ea i ec) i (ac.map (Value.int .i64)):=by have h9:=hO.e;rwa [bp] at h9
     have ap:(W4).ownsRow n2 zDf 1 (.slice af i ag) i vs:=hO.n.on (by rw[List.length_map];omega);have eb:=ba;have dh:=Bq.lt;have dv:=zFN (base:=bq) Bq (Nat.le_refl _) bf;refine zAl (zAV (zAV (zAf (zAC ?_))));obtain ⟨ce,aa⟩:∃Fs:List zEL,Fs=[(fun _ v _=>v=(P6 bd 2)),(fun _ v _=>v=(.slice af i ag)),(fun _ v _=>v=(.slice (some ⟨bq,0,none⟩) c c)),(fun _=>zEF zDf #[.slice (some ⟨bq,0,none⟩) c c] n4),(fun _=>zDI n2 zDf 1 (i+1) (vs++[Value.slice (some ⟨bq,0,none⟩) c c]) (.slice af i ag) n4),(fun _ v _=>v=(P6 bd 1)),(fun _ v _=>v=(.slice ea i ec)),(fun _ v _=>v=av),(fun _ v _=>v=(.slice (some ⟨aj,0,none⟩) sn ae)),(fun _ v _=>v=(I6 (i:Int))),(fun _ v _=>v=(.pointer (some ⟨aj,0+i,none⟩))),(fun _ v _=>v=(.string k)),(fun _ v _=>v=(I6 (acc k))),(fun _=>zEF TDI #[.int .i64 (acc k)] n4),(fun s v w=>zDI n2 TDI 1 (i+1) (ac.map (Value.int .i64)++[Value.int .i64 (acc k)]) (.slice ea i ec) n4 v w∧∀b,(s 84).ownBlock=some b→v.ownBlock≠some b),(fun _ v _=>v=(P6 bd 2))]:=⟨_,rfl⟩;refine zHM (two 4 14 (fun b=>(Value.slice af i ag).ownBlock=some b) (fun b=>(Value.slice ea i ec).ownBlock=some b)) 16 [80,81,82,83,84,85,86,87,88,89,90,91,92,93,94,95] [[],[0],[],[2],[1,3],[],[5],[],[],[],[8,9],[10],[4,7,11],[12],[6,12,13],[0,1,2,3,4,5,6]] [[],[0],[],[2],[1,0,3,2],[],[5],[],[],[],[8,9],[10,8,9],[4,1,0,3,2,7,11,10,8,9],[12,4,1,0,3,2,7,11,10,8,9],[6,5,12,4,1,0,3,2,7,11,10,8,9,13],[0,1,2,3,4,5,6]] ce aa qK mixed qK qK qK ?_ ?_
     ·intro wd X0;refine DagStepsX.cons (zBD.eq) (fun _ _ _ _ _ h=>h) (fun s' w' X U H=>?_) ?_
      ·exact zAQ (zAY (b:=bd) (o:=0) (o':=2) (U 14 rfl) underlying34 rfl zBr rfl) (Chg.refl _ _) rfl
      refine DagStepsX.cons (zBD.eq) (fun _ _ _ _ _ h=>h) (fun s' w' X U H=>?_) ?_
      ·have c6:=H 0 rfl 80 _ rfl (by rw[aa];rfl);exact zAQ (zAG (v:=(.slice af i ag)) c6 zBh ((Chg.keep X (fun h=>(fun h=>h.elim (fun h=>by have:=(ap.lt _ h).1;omega) (fun h=>by have:=(an.lt _ h).1;omega)) (zEO.or h)) (X0.keep Bd)).cell rfl)) (Chg.refl _ _) rfl
      refine DagStepsX.cons (zBD.eq) (fun _ _ _ _ _ h=>h) (fun s' w' X U H=>?_) ?_
      ·exact zAQ (zAj (v:=(.slice (some ⟨bq,0,none⟩) c c)) (U 16 rfl)) (Chg.refl _ _) rfl
      refine DagStepsX.cons (zCV (fun y h=>by have:=(ap.lt y h).2;omega) (fun y h=>by have:=(an.lt y h).2;omega)) (zIt.const) (fun s' w' X U H=>?_) ?_
      ·have di:=H 2 rfl 82 _ rfl (by rw[aa];rfl);exact zCH (hs:=n4) underlying32 zBE zEj di qD qD qK (by have:=X0.size;have:=X.size;omega)
      refine DagStepsX.cons (zGk (fun k hk hm=>hk.elim (fun h=>hO.en k hm h) (fun h=>by have:=(an.lt k hm).2;omega))) (zIt.const) (fun s' w' X U H=>?_) ?_
      ·have d4:=H 1 rfl 81 _ rfl (by rw[aa];rfl);obtain ⟨b83,dw,c4,g83⟩:=(show ((fun _=>zEF zDf #[.slice (some ⟨bq,0,none⟩) c c] n4):zEL) s' (s' 83) w' from H 3 rfl 83 ((fun _=>zEF zDf #[.slice (some ⟨bq,0,none⟩) c c] n4)) rfl (by rw[aa];rfl));exact zBe (hs:=n4) underlying32 zBE zNN zEj rfl qD d4 (zAg (zAg ap X0) (X.mono (fun y _ h=>zEO.none rfl rfl h))) dw rfl (c4.cells rfl) qS (by unfold maxLen;omega) qO (by have:=X0.size;have:=X.size;omega) (fun y h=>h) (by have:=X0.size;have:=X.size;omega)
      refine DagStepsX.cons (zBD.eq) (fun _ _ _ _ _ h=>h) (fun s' w' X U H=>?_) ?_
      ·exact zAQ (zAY (b:=bd) (o:=0) (o':=1) (U 14 rfl) underlying34 rfl zBE rfl) (Chg.refl _ _) rfl
      refine DagStepsX.cons (zBD.eq) (fun _ _ _ _ _ h=>h) (fun s' w' X U H=>?_) ?_
      ·have dk:=H 5 rfl 85 _ rfl (by rw[aa];rfl);exact zAQ (zAG (v:=(.slice ea i ec)) dk zBI ((Chg.keep X (fun h=>(fun h=>h.elim (fun h=>by have:=(ap.lt _ h).1;omega) (fun h=>by have:=(an.lt _ h).1;omega)) (zEO.or h)) (X0.keep Bd)).cell rfl)) (Chg.refl _ _) rfl
      refine DagStepsX.cons (zBD.eq) (fun _ _ _ _ _ h=>h) (fun s' w' X U H=>?_) ?_
      ·exact zAQ (zAj (v:=av) (U 3 rfl)) (Chg.refl _ _) rfl
      refine DagStepsX.cons (zBD.eq) (fun _ _ _ _ _ h=>h) (fun s' w' X U H=>?_) ?_
      ·exact zAQ (zAj (v:=(.slice (some ⟨aj,0,none⟩) sn ae)) (U 12 rfl)) (Chg.refl _ _) rfl
      refine DagStepsX.cons (zBD.eq) (fun _ _ _ _ _ h=>h) (fun s' w' X U H=>?_) ?_
      ·exact zAQ (zAj (v:=(I6 (i:Int))) (U 15 rfl)) (Chg.refl _ _) rfl
      refine DagStepsX.cons (zBD.eq) (fun _ _ _ _ _ h=>h) (fun s' w' X U H=>?_) ?_
      ·have d8:=H 8 rfl 88 _ rfl (by rw[aa];rfl);have c5:=H 9 rfl 89 _ rfl (by rw[aa];rfl);exact zAQ (zAD (b:=aj) (o:=0) (len:=sn) (cap:=ae) (i:=i) (o':=0+i) d8 c5 rfl underlying114 zXF qO qO) (Chg.refl _ _) rfl
      refine DagStepsX.cons (zBD.eq) (fun _ _ _ _ _ h=>h) (fun s' w' X U H=>?_) ?_
      ·have c8:=H 10 rfl 90 _ rfl (by rw[aa];rfl);exact zAQ (zAG (v:=(.string k)) c8 zRV (Chg.cell X (fun h=>(zEO.or h).elim (fun h=>(ah _ rfl).1 (.inr (.inl h))) (fun h=>(ah _ rfl).1 (.inl h))) (X0.cell b5))) (Chg.refl _ _) rfl
      refine DagStepsX.cons (zBD.eq) (fun _ _ _ _ _ h=>h) (fun s' w' X U H=>?_) ?_
      ·have dn:=H 7 rfl 87 _ rfl (by rw[aa];rfl);have dc:=H 11 rfl 91 _ rfl (by rw[aa];rfl);exact zGC (fv:=av) (vs:=[.string k]) dn (zPI dc) ((ha w' k ((E.ext X0).step X (fun y hy h=>(zEO.or h).elim (fun h=>by have:=(ap.lt y h).1;omega) (fun h=>by have:=(an.lt y h).1;omega))) cx).mono (fun v w h=>⟨h.1,Ext.chg h.2⟩))
      refine DagStepsX.cons (zCV (fun y h=>by have:=(ap.lt y h).2;omega) (fun y h=>by have:=(an.lt y h).2;omega)) (zIt.const) (fun s' w' X U H=>?_) ?_
      ·have de:=H 12 rfl 92 _ rfl (by rw[aa];rfl);exact zCH (hs:=n4) underlying22 zAv zDJ de qD qD qK (by have:=X0.size;have:=X.size;omega)
      refine DagStepsX.cons (zGj rfl) (fun s1 s2 h v w h2=>⟨h2.1,by have:=h 4 84 rfl rfl;rw[this];exact h2.2⟩) (fun s' w' X U H=>?_) ?_
      ·have c2:=H 6 rfl 86 _ rfl (by rw[aa];rfl);obtain ⟨b93,dd,d3,g93⟩:=(show ((fun _=>zEF TDI #[.int .i64 (acc k)] n4):zEL) s' (s' 93) w' from H 13 rfl 93 ((fun _=>zEF TDI #[.int .i64 (acc k)] n4)) rfl (by rw[aa];rfl));exact zHK (H 4 rfl 84 _ rfl (by rw[aa];rfl)) (zBe (hs:=w'.heap.size) underlying22 zAv zJs zDJ rfl qD c2 (zAn (zAg an X0) (X.mono (fun y _ h=>zEO.fst rfl h)) (fun k hk hm=>hO.en k hk hm)) dd rfl (d3.cells rfl) qS (by unfold maxLen;omega) qO (by have:=X0.size;have:=X.size;omega) (fun y h=>h) (Nat.le_refl _)) (by have:=X0.size;have:=X.size;omega) (fun k h1 h2=>h1.elim (fun h=>hO.en k h2 h) (fun h=>by have:=(an.lt k h2).2;omega))
      refine DagStepsX.cons (zBD.eq) (fun _ _ _ _ _ h=>h) (fun s' w' X U H=>?_) ?_
      ·exact zAQ (zAY (b:=bd) (o:=0) (o':=2) (U 14 rfl) underlying34 rfl zBr rfl) (Chg.refl _ _) rfl
      exact DagStepsX.nil
     ·intro s' c3 cu X0 ay U H;replace ay:=ay.mono (M':=fun y=>(fun b=>(Value.slice af i ag).ownBlock=some b) y∨(fun b=>(Value.slice ea i ec).ownBlock=some b) y) (fun y _ h=>by obtain ⟨j,h⟩:=h;rcases zFB h with h|h;exact .inl h.2;exact .inr h.2);obtain ⟨⟨a9,a8,cz⟩,cq,cc⟩:=(show ((fun _=>zDI n2 zDf 1 (i+1) (vs++[Value.slice (some ⟨bq,0,none⟩) c c]) (.slice af i ag) n4):zEL) s' (s' 84) cu from H 4 84 ((fun _=>zDI n2 zDf 1 (i+1) (vs++[Value.slice (some ⟨bq,0,none⟩) c c]) (.slice af i ag) n4)) rfl (by rw[aa];rfl));obtain ⟨⟨⟨bh,bg,cw⟩,cr,co⟩,cj⟩:=(show ((fun s v w=>zDI n2 TDI 1 (i+1) (ac.map (Value.int .i64)++[Value.int .i64 (acc k)]) (.slice ea i ec) n4 v w∧∀b,(s 84).ownBlock=some b→v.ownBlock≠some b):zEL) s' (s' 94) cu from H 14 94 ((fun s v w=>zDI n2 TDI 1 (i+1) (ac.map (Value.int .i64)++[Value.int .i64 (acc k)]) (.slice ea i ec) n4 v w∧∀b,(s 84).ownBlock=some b→v.ownBlock≠some b)) rfl (by rw[aa];rfl));have dm:s' 95=(.pointer (some ⟨bd,2,none⟩)):=H 15 95 ((fun _ v _=>v=(.pointer (some ⟨bd,2,none⟩)))) rfl (by rw[aa];rfl);obtain ⟨j15,rfl⟩:=zAs.out (σ:=s') (l:=[(1,(.int .i64 ((c:Nat):Int))),(2,sv),(3,av),(4,(.int .i64 ((most:Nat):Int))),(10,(.pointer (some ⟨br,0,none⟩))),(12,(.slice (some ⟨aj,0,none⟩) sn ae)),(13,(.map (some bm))),(14,(.pointer (some ⟨bd,0,none⟩))),(15,(.int .i64 ((i:Nat):Int))),(84,(.slice a9 (i+1) a8)),(94,(.slice bh (i+1) bg)),(95,(.pointer (some ⟨bd,2,none⟩)))]) ⟨U 1 rfl,U 2 rfl,U 3 rfl,U 4 rfl,U 10 rfl,U 12 rfl,U 13 rfl,U 14 rfl,U 15 rfl,cz,cw,dm,trivial⟩;clear U H;replace Br:=Chg.keep ay (fun h=>h.elim (fun h=>by have:=(ap.lt _ h).1;omega) (fun h=>by have:=(an.lt _ h).1;omega)) (X0.keep Br);replace Mm:=Chg.keepM ay (fun h=>h.elim (fun h=>by have:=(ap.lt _ h).1;omega) (fun h=>by have:=(an.lt _ h).1;omega)) (X0.keepM Mm);replace Bd:=Chg.keep ay (fun h=>h.elim (fun h=>by have:=(ap.lt _ h).1;omega) (fun h=>by have:=(an.lt _ h).1;omega)) (X0.keep Bd);replace Bq:=Chg.keep ay (fun h=>h.elim (fun h=>by have:=bk _ (.inr (.inl h));omega) (fun h=>by have:=bk _ (.inl h);omega)) (X0.keep Bq);have cd:=Chg.trans (Ext.chg X0) ay;replace E:=(E.ext X0).step ay (fun y hy h=>h.elim (fun h=>by have:=(ap.lt y h).1;omega) (fun h=>by have:=(an.lt y h).1;omega));rw[cz] at cq cc cj;rw[cw] at cr co cj;have a6:=hO.push (y:=acc k) (N':=.slice a9 (i+1) a8) (E':=.slice bh (i+1) bg) dv bf.symm qO (fun b hb=>by have:=bk b hb;omega) cd (by rw[bt];exact cq) (fun k hk=>by rw[←c0];exact cc k hk) (by rw[bp,List.map_append];exact cr) (fun k hk=>by rw[←c0];exact co k hk) cj;have bw:=zAn hS cd (fun b hb h=>h.elim (fun h=>(ah b hb).1 (.inr (.inl h))) (fun h=>(ah b hb).1 (.inl h)));have ao:=Nat.le_trans ak cd.size;have b4:∀b,(Value.slice (some ⟨aj,0,none⟩) sn ae).ownBlock=some b→¬zHP (.slice bh (i+1) bg) (.slice a9 (i+1) a8) (vs++[.slice (some ⟨bq,0,none⟩) c c]) b∧b≠bm∧b≠bd:=fun b hb=>⟨fun ho=>zHr ⟨(ah b hb).1,(ah b hb).2.2.2⟩ (by have:=(hS.lt b hb).2;omega) cc co ho,(ah b hb).2.1,(ah b hb).2.2.1⟩;refine zAt (b:=bd) (o:=2) (c':=#[(I6 0),(.slice ea i ec),(.slice a9 (i+1) a8)]) (v:=(.slice a9 (i+1) a8)) rfl rfl rfl zBr Bd qP rfl ?_;intro w16 a1;replace a6:=a6.chg a1.chg fun b hb h=>by have:=(a6.lt hb).1;have h':b=bd:=h;omega
      replace bw:=zAn bw a1.chg fun b hb h=>(ah b hb).2.2.1 h;replace ao:=Nat.le_trans ao a1.chg.size;replace Br:=a1.keep qO Br;replace Mm:=a1.keepM qO Mm;replace Bq:=a1.keep qO Bq;replace E:=a1.step E qQ;replace Bd:=a1.blk;refine qF bd 0 1 rfl underlying34 rfl zBE rfl (zAt (b:=bd) (o:=1) (c':=#[(I6 0),(.slice bh (i+1) bg),(.slice a9 (i+1) a8)]) (v:=(.slice bh (i+1) bg)) rfl rfl rfl zBE Bd qP rfl ?_);intro w17 az;replace a6:=a6.chg az.chg fun b hb h=>by have:=(a6.lt hb).1;have h':b=bd:=h;omega
      replace bw:=zAn bw az.chg fun b hb h=>(ah b hb).2.2.1 h;replace ao:=Nat.le_trans ao az.chg.size;replace Br:=az.keep qO Br;replace Mm:=az.keepM qO Mm;replace Bq:=az.keep qO Bq;replace E:=az.step E qQ;replace Bd:=az.blk;refine zAB (zAS (zAC (zAF (qM (I6 (i:Int)) rfl (qV (zAw (k:=.i64) (a:=(i:Int)) (b:=1) (c:=(i:Int)+1) rfl rfl (zBf qO)) (qA (I6 ((i:Int)+1)) rfl (zAB (zAC ?_))))))));exact ⟨most - (i+1),qO,i+1,ab++[R],ks,ac++[acc k],vs++[.slice (some ⟨bq,0,none⟩) c c],some ⟨aj,0,none⟩,bh,a9,ae,sn,bg,a8,zAs.out ⟨rfl,rfl,rfl,rfl,rfl,rfl,rfl,rfl,rfl,trivial⟩,E,Br,Mm,Bd,hC.rowed bf,(by simp[bt]),ba,be,qO,(by rw[zDs al,List.map_append,bu];rfl),bw,a6,b4,ao,rfl⟩
  ·have d1:i=ks.length:=qO
   have b9:ab.length=ks.length:=qO
   obtain ⟨cf,c1⟩:=hC.done (acc:=acc) b9 (fun k hk=>(hac k (hC.rch k hk)).1);have au:ac=ks.map acc:=by rw[a0,d1,List.take_length]
   refine zAl (zAV (zAV (zAf (zAC (zAA (qV (zAP (vs:=[(I6 0),(.slice ea i ec),(.slice af i ag)]) rfl zBC zAi rfl (Bd.cells rfl)) (zAa (b:=br) (o:=0) (c':=#[(I6 0),(.slice ea i ec),(.slice af i ag)]) rfl rfl qS zAi rfl Br qL rfl ?_)))))));intro w18 bj;replace hO:=hO.chg bj.chg fun b hb h=>by have:=(hO.lt hb).1;have h':b=br:=h;omega
   replace Mm:=bj.keepM qO Mm;replace Bd:=bj.keep qO Bd;replace E:=bj.step E qQ;replace Br:=bj.blk;refine qA (.bool true) rfl (zAB (zAW (zBG results38 (vs:=[(.int .i64 0),(.slice ea i ec),(.slice af i ag)]) (b:=br) (v':=(.bool true)) rfl zBC zAi rfl (Br.cells rfl) rfl (⟨.inl ⟨(hC.all b9).mono ba,⟨0,ac,ab⟩,_,fun mx dx=>⟨?_,?_,rfl,?_,?_⟩,rfl,?_⟩,E⟩))))
   ·rw[au];show OkD ab.length c _;rw[b9];exact cf
   ·show ab.length≤mx;have:=dx ks hC.nd hC.rch;omega
   ·rw[au];exact c1
   ·intro x hx;have hx:x∈ac:=hx;rw[au] at hx;obtain ⟨u,hu,rfl⟩:=List.mem_map.1 hx;exact (hac u (hC.rch u hu)).2
   ·have bn:ac.length=i:=by rw[au,List.length_map];omega
    exact ⟨ea,ec,af,ag,vs,by show Value.agg #[_,_,_]=.agg #[_,.slice ea ac.length ec,.slice af ab.length ag];rw[bn,bt],by show OutSt _ _ (.slice ea ac.length ec) (.slice af ab.length ag) vs ac ab;rw[bn,bt];exact hO.low ch.2⟩
theorem zWY (w0:World) (first:ByteArray) (c most mx:Nat) (sv av:Value) (stp:ByteArray→Nat→Option ByteArray) (acc:ByteArray→Int) (hc:1≤c∧c≤16) (hm:most≤20000) (hmx:mx≤most) (hfew1:zHl c stp first mx) (hac:∀k,Rch c stp first k→-1≤acc k∧acc k<2147483648)
  (hs:∀w k x,Ext w0 w→Rch c stp first k→x<c→zCJ prog sv #[.string k,.int .i64 ((x:Nat):Int)] w fun r w'=>(∃q,r=.tuple #[.string q,.bool (stp k x).isSome]∧∀b,stp k x=some b→q=b)∧Ext w w')
  (ha:∀w k,Ext w0 w→Rch c stp first k→zCJ prog av #[.string k] w fun r w'=>r=.int .i64 (acc k)∧Ext w w') :
  Ret prog 38 #[.string first,.int .i64 ((c:Nat):Int),sv,av,.int .i64 ((most:Nat):Int)] w0 fun r w=>(∃D v,ExpOf c mx stp acc first D∧r=.tuple #[v,.bool true]∧zVL w0.heap.size D v w)∧Ext w0 w:=by
 have h0:1≤mx:=by
  have:=hfew1 [first] qP fun k hk=>by rw[List.mem_singleton] at hk;subst hk;exact ⟨[],inW.nil c,rfl⟩
  simpa using this
 refine (zRe w0 first c most sv av stp acc hc ⟨qO,hm⟩ hac hs ha).mono fun r w h=>⟨?_,h.2⟩;rcases h.1 with ⟨_,D,v,h1,h2,h3⟩|⟨h1,_⟩
 ·exact ⟨D,v,h1 mx hfew1,h2,h3⟩
 ·exact absurd (hfew1.mono hmx) h1
end Go.Proofs
namespace Go.Proofs
open Go Go.Eng
set_option maxRecDepth 100000
theorem zUf {S:Type} (F:S→Re→Bool×S) (Inv:S→World→Prop) (M:Nat→Prop) (bd:Nat) (fv:Value) (wb:World)
    (hM:∀b,M b→wb.heap.size≤b∧b<bd) (hst:∀s w w',Inv s w→Ext w w'→Inv s w')
    (hf:∀s w t vs,bd≤w.heap.size→Ext wb w→Inv s w→zBm wb t vs→zCJ prog fv #[.agg vs.toArray] w fun v w'=>v=.bool (F s t).1∧Chg M w w'∧Inv (F s t).2 w') :
    ∀n t,t.size≤n→∀s w0 vs,bd≤w0.heap.size→Ext wb w0→Inv s w0→zBm wb t vs→
      Ret prog 42 #[.agg vs.toArray,fv] w0 fun v w'=>v=.bool (zCp F t s).1∧Chg M w0 w'∧Inv (zCp F t s).2 w':=by
  have ae:∀{w w':World},Ext wb w→Chg M w w'→Ext wb w':=fun e c=>Chg.step e c fun x hx hm=>by have:=(hM x hm).1;omega
  intro n
  induction n with
  | zero=>intro t ht;have:=t.size_pos;omega
  | succ n ih=>
  intro t hn s w0 vs hbd hE hI ht;obtain ⟨sa,sc,aa,ac,rfl,ak,aj,ag⟩:=ht.form;rw[zEl];refine zDE func42 rfl ntmps42 (leT rfl) ?_;have E:Chg M w0 w0:=Chg.refl _ _;refine zAA (zBY (v:=(.agg (R6 t sa sc aa ac))) (c:=(R6 t sa sc aa ac)) qD rfl rfl ?_);intro b1 w1 N1;have F1:=N1.ge E;replace hI:=hst _ _ _ hI N1.ext;replace E:=E.ext N1.ext;have B1:=N1.blk;refine qA (.bool false) rfl (zAB (zAH (zAA (qM fv rfl (qV (zAP (vs:=[(I6 t.kind),(.slice sa t.set.length sc),(.slice aa t.args.length ac),(I6 t.mn),(I6 t.mx),(.bool t.neg)]) rfl zBZ zAp rfl (B1.cells rfl)) (zDD (fv:=fv) (vs:=[(.agg (R6 t sa sc aa ac))]) qD rfl rfl (hf s _ t _ (by have:=N1.size;omega) (hE.trans N1.ext) hI ht) ?_))))));rintro _ w2 ⟨rfl,C2,hI⟩;replace B1:=C2.keep (fun h=>by have:=(hM _ h).2;omega) B1;replace E:=E.trans C2;have hE2:Ext wb w2:=ae hE E;have z2:bd≤w2.heap.size:=by have:=C2.size;have:=N1.size;omega
  refine qV (zCa (b:=(F s t).1) rfl) (zAB (zAx (b:=!((F s t).1)) rfl (fun h=>?_) (fun h=>?_)))
  · have kh:=h;replace h:=by simpa using h
    refine zAA (qA (.bool false) rfl (zAB (zAW (zAX (zAZ results42 (v:=(.bool false)) rfl ?_)))));exact ⟨by rw[if_neg (by simp[h])],E,by rw[if_neg (by simp[h])];exact hI⟩
  · have kh:=h;replace h:=by simpa using h
    rw[if_pos (by simpa using h)];generalize (F s t).2=s1 at hI⊢;refine zAO (zAC (zAH (zAA (qF b1 0 2 rfl underlying26 rfl zDn rfl (qV (zAG (v:=(.slice aa t.args.length ac)) rfl zCr (B1.cell rfl)) (qV (zAK (ad:=aa) (n:=t.args.length) (cap:=ac) underlying24 rfl) (qM (I6 0) rfl (zAB (zAT (zAo (fun nn_ σ W3=>∃(k:Nat) (s':S),(∃jj_,σ=zCT jj_ [(1,fv),(12,(.slice aa t.args.length ac)),(13,(I6 (t.args.length:Int))),(14,(I6 (k:Int)))])∧Chg M w0 W3∧Blk W3 b1 (R6 t sa sc aa ac) 26∧(k≤t.args.length)∧(bd≤W3.heap.size)∧(Inv s' W3)∧(zCZ F t.args s1=zCZ F (t.args.drop k) s')∧nn_=t.args.length - k) (n:=t.args.length - 0) ?_ ?_))))))))))
    · exact ⟨0,s1,zAs.out ⟨rfl,rfl,rfl,rfl,trivial⟩,E,B1,Nat.zero_le _,z2,hI,rfl,rfl⟩
    · clear E B1;rintro _ _ W3 ⟨k,s',⟨j3,rfl⟩,E,B1,hk,hz,hI,ab,rfl⟩;refine zAA (qV (zBA (k:=.i64) (a:=(k:Int)) (b:=(t.args.length:Int)) rfl rfl) (zAB (zAH (qC rfl (fun am=>?_) (fun am=>?_)))))
      · have af:k<t.args.length:=qO
        obtain ⟨x,hx⟩:∃x,t.args[k]?=some x:=⟨_,List.getElem?_eq_getElem af⟩;obtain ⟨b,o,rfl,ai⟩:∃b o,aa=some ⟨b,o,none⟩∧zDS wb b o t.args:=by
          rcases ag with h|h
          · rw[h] at af;simp at af
          · exact h
        obtain ⟨us,al,ah⟩:=ai.get hx;have ap:Ext wb _:=ae hE E;refine zAO (zAC (zAH (zAT (zAA (qV (zAD (b:=b) (o:=o) (len:=t.args.length) (cap:=ac) (i:=k) (o':=o+k*6) rfl rfl rfl underlying24 zAp qO qO) (qV (zAP (vs:=us) rfl zBZ zAp ah.len (al.ext ap)) ?_))))));have hsz:=Re.size_arg hx;refine zAd (v:=(.agg us.toArray)) (c:=us.toArray) (n:=6) qD zDg rfl zAp rfl rfl (by simpa using ah.len) (by simpa using zBm.one ah) ?_;intro b5 w5 N5;have F5:=N5.ge E;have O5_b1:=N5.lt B1;replace B1:=N5.keep B1;replace hI:=hst _ _ _ hI N5.ext;replace E:=E.ext N5.ext;have B5:=N5.blk;refine zAB (zAA (qV (zAP (vs:=us) rfl zBZ zAp ah.len (B5.cells qP)) (qM fv rfl (qE rfl (zAU (vs:=[(.agg us.toArray),fv]) func42 kQ kQ rfl) (ih x qO s' _ us (by have:=N5.size;omega) (ae hE E) hI ah) ?_))));rintro _ w9 ⟨rfl,C9,hI⟩;replace B1:=C9.keep (fun h=>by have:=(hM _ h).2;omega) B1;replace B5:=C9.keep (fun h=>by have:=(hM _ h).2;omega) B5;replace E:=E.trans C9;have ao:t.args.drop k=x::t.args.drop (k+1):=by rw[List.drop_eq_getElem_cons af];rw[List.getElem?_eq_getElem af] at hx;cases hx;rfl
        rw[ao,zCo] at ab;refine qV (zCa (b:=(zCp F x s').1) rfl) (zAB (zAx (b:=!((zCp F x s').1)) rfl (fun h2=>?_) (fun h2=>?_)))
        · have an:=h2;replace h2:=by simpa using h2
          refine zAA (qA (.bool false) rfl (zAB (zAW (zAh (zAX (zAX (zAh (zAX (zAZ results42 (v:=(.bool false)) rfl ?_)))))))));exact ⟨by rw[ab,if_neg (by simp[h2])],E,by rw[ab,if_neg (by simp[h2])];exact hI⟩
        · have an:=h2;replace h2:=by simpa using h2
          rw[if_pos (by simpa using h2)] at ab;refine zAO (zAS (zAC (zAF (qV (zAw (k:=.i64) (a:=(k:Int)) (b:=1) (c:=(k:Int)+1) rfl rfl (zBf qO)) (qM (I6 ((k:Int)+1)) rfl (zAB (zAC ?_)))))));exact ⟨t.args.length - (k+1),qO,k+1,(zCp F x s').2,zAs.out ⟨rfl,rfl,rfl,rfl,trivial⟩,E,B1,qO,(by have:=C9.size;have:=N5.size;omega),hI,ab,rfl⟩
      · have aq:k=t.args.length:=qO
        rw[aq,List.drop_length] at ab;refine zAl (zAV (zAV (zAf (zAC (zAA (qA (.bool true) rfl (zAB (zAW (zAZ results42 (v:=(.bool true)) rfl ?_)))))))));exact ⟨by rw[ab];rfl,E,by rw[ab];exact hI⟩
end Go.Proofs
