/- Contracts and plain lemmas, part 2. -/
import Derived.Test.YtllhcafmcbibbaaGreatZy1
open Go.Proofs.Tryz
set_option maxHeartbeats 16000000
namespace Go.Proofs
open Go Go.Eng Go.Sort
set_option maxRecDepth 100000
abbrev CF:Nat:=3
abbrev CX:Nat:=22
def D9 (l:List Int):Nat×List Value:=(l.length,l.map (Value.int .i64))
theorem RL (n:Nat):(List.replicate n ([]:List Int)).map D9=List.replicate n (0,[]):=by simp[D9]
theorem JS (l:List Int):(l.map Dh).flatten=l.map (Value.int .i64):=by
 induction l with
 | nil=>rfl
 | cons x l ih=>simp[Dh];simpa[Dh] using ih
theorem DR {w:World} {base n:Nat} {v:Value} {l:List Int} (h:w.ownsRow base CF 1 v n (l.map (Value.int .i64))) (b:n=l.length):A2 w v l:=by
 rw[<-JS] at h;exact EO h (by intro x a;simp only[List.mem_map] at a;obtain ⟨p,_,rfl⟩:=a;rfl) (by simp[b]) qD
theorem FT {n c:Nat} {d:Dfa} (ok:OkD n c d) {s k:Nat} {row:List Int} {x:Int} (e:d.next[s]?=some row) (a:row[k]?=some x):Bu d ((s:Nat):Int) k=x∧k<c∧s<n∧-1<=x∧x<n:=by
 have b:=ok.row row (List.mem_of_getElem? e);exact ⟨DQ e a,by rw[<-b.1];exact AG a,by rw[<-ok.nl];exact AG e,(b.2 x (List.mem_of_getElem? a)).1,(b.2 x (List.mem_of_getElem? a)).2⟩
theorem P0 (n:Nat) (a:List (List Int)):Gg a (List.replicate n false) []:=λt h=>by
 have:=(List.mem_replicate.1 (List.mem_of_getElem? h)).2;cases this
theorem H_ {M:List Bool} {k:Nat} (b:Bool):((M.map Value.bool).toArray).setIfInBounds (0+k) (.bool b)=((M.set k b).map Value.bool).toArray:=by
 apply Array.ext';rw[Array.toList_setIfInBounds,Nat.zero_add,<-List.map_set]
theorem U5 {α:Type} {l:List α} (h:0<l.length):∃o c,l=o++[c]:=⟨l.dropLast,l.getLast (List.ne_nil_of_length_pos h),(List.dropLast_concat_getLast _).symm⟩
theorem UM (w0:World) (n c:Nat) (d:Dfa) (dv:List Value) (ok:OkD n c d) (h:BC w0 d dv) (hn:n<=20000∧c<=16) :
 CB prog 197 #[.agg dv.toArray] w0 λr w=>(∃M b,LiveOf n c d M∧r=.slice (some ⟨b,0,none⟩) n n∧w0.heap.size<=b∧Az w b (M.map Value.bool).toArray 4)∧Al w0 w:=by
 obtain ⟨aa,ac,na,nc,rfl,a9,a8⟩:=h;have ca:=ok.nl;have b8:=ok.al;have hnc:n*c<=320000:=by have:=Nat.mul_le_mul hn.1 hn.2;omega
 rw[b8] at a9;rw[ca] at a8;rw[b8,ca];refine qR func197 O ntmps197 O (λE=>(Y (BP (v:=(.agg #[(I6 d.start),(.slice aa n ac),(.slice na n nc)])) (c:=#[(I6 d.start),(.slice aa n ac),(.slice na n nc)]) qD O O ?_)));intro bd wd Nd;replace E:=E.ext Nd.ext;have Bd:=Nd.blk;refine qA _ O (AA (Y (qF bd 0 2 O underlying48 O A' O (qV (AE O A4 (Bd.cell O)) (qV (AL underlying46 O) (Dx (n:=n) (z:=(.slice none 0 0)) (bytes:=24) qD underlying46 Ay IR DY O O O qO qO ?_))))));intro bi wi Ni;replace Bd:=Ni.keep Bd;replace E:=E.ext Ni.ext;have Bi:=Ni.blk;refine qA _ O (AA (AI (Y (qF bd 0 2 O underlying48 O A' O (qV (AE O A4 (Bd.cell O)) (qV (AL underlying46 O) (qM _ O (AA (AO ?_)))))))));obtain ⟨n1,c0⟩:∃n1,n1=wd.heap.size:=⟨_,O⟩;have hw1:w0.heap.size<=n1:=by have:=Nd.ext.size;omega
 have ba:n1<=bi:=by have:=Ni.eq;omega
 have cx:bd<n1:=by have:=Nd.eq;have:=Nd.size;omega
 have a0:=GSt.made (To:=CX) (e:=CF) (sz:=1) (base:=n1) (n:=n) Bi ba qO ba;have cw:n1<=wi.heap.size:=by have:=Ni.ext.size;omega
 refine Ap (λnn_ σ W1=>∃(s:Nat) (ae:List (List Int)) (vs:List Value),(∃jj_,σ=BK jj_ [(1,(P6 bd 0)),(3,(.slice (some ⟨bi,0,none⟩) n n)),(20,(.slice na n nc)),(21,(I6 (n:Int))),(22,(I6 (s:Int)))])∧Chg Ab w0 W1∧Az W1 bd #[(I6 d.start),(.slice aa n ac),(.slice na n nc)] 48∧(s<=n)∧(IntoP n c d ae s 0)∧(GSt CX CF 1 W1 n1 (.slice (some ⟨bi,0,none⟩) n n) vs (ae.map D9))∧(n1<=W1.heap.size)∧nn_=n - s) (n:=n - 0) ?_ ?_
 .exact ⟨0,List.replicate n [],List.replicate n (.slice none 0 0),Ac.out ⟨O,O,O,O,O,trivial⟩,E,Bd,Nat.zero_le _,IntoP.start n c d,(by rw[RL];exact a0),cw,O⟩
 .clear E Bd;rintro _ _ W1 ⟨s,ae,vs,⟨j1,rfl⟩,E,Bd,hs,hI,hG,ak,rfl⟩;refine Y (qV (A0 O O) (AA (AI (qC O (λcm=>?_) (λcm=>?_)))))
  .obtain ⟨row,ar⟩:=AK (l:=d.next) (i:=s) qO;have hrl:=(ok.row row (List.mem_of_getElem? ar)).1;obtain ⟨b,o,rfl,cl⟩:=BL (n:=n) a8 qO;obtain ⟨ra,rc,a4,ci⟩:=cl s row ar;refine AM (AB (AI (AO (Y (qM _ O (qV (AC (b:=b) (o:=o) (len:=n) (cap:=nc) (i:=s) (o':=o+s) O O O underlying46 Ay qO qO) (qV (AE O Ax (E.cell (λf=>f) a4)) (qA _ O (qA _ O (AA (Y (qM _ O (qV (AL underlying22 O) (qM _ O (AA (AO (Ap (λnn_ σ W3=>∃(k:Nat) (ae:List (List Int)) (vs:List Value),(∃jj_,σ=BK jj_ [(1,(P6 bd 0)),(3,(.slice (some ⟨bi,0,none⟩) n n)),(4,(I6 (s:Int))),(20,(.slice (some ⟨b,o,none⟩) n nc)),(21,(I6 (n:Int))),(22,(I6 (s:Int))),(27,(.slice ra row.length rc)),(28,(I6 (row.length:Int))),(29,(I6 (k:Int)))])∧Chg Ab w0 W3∧Az W3 bd #[(I6 d.start),(.slice aa n ac),(.slice (some ⟨b,o,none⟩) n nc)] 48∧(k<=c)∧(IntoP n c d ae s k)∧(GSt CX CF 1 W3 n1 (.slice (some ⟨bi,0,none⟩) n n) vs (ae.map D9))∧(n1<=W3.heap.size)∧nn_=c - k) (n:=c - 0) ?_ ?_)))))))))))))))))
   .exact ⟨0,ae,vs,Ac.out ⟨O,O,O,O,O,O,O,O,O,trivial⟩,E,Bd,Nat.zero_le _,hI,hG,ak,O⟩
   .clear E Bd;rintro _ _ W3 ⟨k,ae,vs,⟨j3,rfl⟩,E,Bd,hk,hI,hG,ak,rfl⟩;refine Y (qV (A0 O O) (AA (AI (qC O (λbr=>?_) (λbr=>?_)))))
    .obtain ⟨x,hx⟩:=AK (l:=row) (i:=k) qO;obtain ⟨rb,ro,rfl,cq⟩:=Ao ci qO;obtain ⟨bh,bw,_,hxl,c8⟩:=FT ok ar hx;refine AM (AB (AI (AO (Y (qV (AC (b:=rb) (o:=ro) (len:=row.length) (cap:=rc) (i:=k) (o':=ro+k) O O O underlying22 Ad qO qO) (qV (AE O Ai (E.cell (λf=>f) (cq k x hx))) (qA _ O (AA (Y (qM _ O (qV (CT O O) (AA (qC O (λa6=>?_) (λa6=>?_))))))))))))))
     .obtain ⟨t,co⟩:=Int.eq_ofNat_of_zero_le a6;rw[co] at bh c8;obtain ⟨lt,aw⟩:=AK (l:=ae) (i:=t) (by have:=hI.len;omega);have hin:=hI.sht lt (List.mem_of_getElem? aw);have hsc:s*c<=n*c:=Nat.mul_le_mul_right c qO;have ai:(ae.map D9).length=n:=by rw[List.length_map];exact hI.len
      obtain ⟨v1,aq⟩:=AK (l:=vs) (i:=t) (by have:=hG.l.len;omega);have bf:(ae.map D9)[t]?=some (lt.length,lt.map (Value.int .i64)):=by rw[List.getElem?_map,aw];rfl
      have ag:=hG.l.inn t v1 _ aq bf;obtain ⟨va,vc,rfl⟩:=BD ag;obtain ⟨gg,a7,_,bp⟩:=BS (hG.l.on ai.symm) qO;simp only[Option.some.injEq,Addr.mk.injEq,and_true] at a7;subst a7;have a0:=hG;refine AJ (qM _ O (qM _ O (qM _ O (qM _ O (qV (AC (b:=bi) (o:=0) (len:=n) (cap:=n) (i:=t) (o':=0+t) O O qO underlying46 Ay qO qO) (qV (AE O Ax (bp t _ aq)) (qM _ O (Ah (ps:=[(0,(I6 (s:Int)))]) (c:=#[(I6 (s:Int))]) qD O underlying22 Ad BY qD qD qK ?_))))))));intro b6 w6 N6;replace Bd:=N6.keep Bd;replace a0:=a0.ext N6.ext;replace ag:=Am ag N6.ext;replace ak:=Nat.le_trans ak N6.ext.size;replace E:=E.ext N6.ext;have B6:=N6.blk;refine BU (base:=n1) (n:=lt.length) (m:=1) (xs:=(lt.map (Value.int .i64))) (news:=[(I6 (s:Int))]) (size:=1) (bytes:=8) (v:=(.slice va lt.length vc)) qD underlying22 Ad Dj BY O qD O ag O (O) (B6.cells O) qS (by unfold maxLen;omega) qO (ak) ?_;intro v7 ce am ah bn;replace Bd:=ah.keep (λh=>by have:=(ag.lt _ h).1;omega) Bd;replace E:=E.step ah (λx hx h=>absurd (ag.lt x h).1 qO);obtain ⟨bg,bu,rfl⟩:=BD am;have b7:=a0.l;have hCv:=ah;obtain ⟨cz,b4,cs⟩:=MB (Av (b7.on ai.symm) ah (λb hb hm=>b7.apo t _ _ aq hm hb));have b3:=Nat.le_trans ak ah.size;have cd:True:=trivial;have bz:=b4;refine qV (AC (b:=bi) (o:=0) (len:=n) (cap:=n) (i:=t) (o':=0+t) O O qO underlying46 Ay qO qO) (A9 (b:=bi) (o:=0+t) (c':=cz.setIfInBounds (0+t) (.slice bg (lt.length+1) bu)) (v:=(.slice bg (lt.length+1) bu)) O O O Ay b4 qO (O) ?_);intro w7 S7;replace cd:=S7;replace b3:=Nat.le_trans b3 S7.chg.size;replace Bd:=S7.keep qO Bd;replace E:=S7.step E qQ;replace b4:=S7.blk;have cy:=a0.grow ai.symm aq bf (m':=lt.length+1) (xs':=(lt++[((s:Nat):Int)]).map (Value.int .i64)) (by rw[List.map_append];exact am) ah bn bz (by simpa using cd);refine AA (AN (AB (AJ (qV (Ar O O (A5 qO)) (qM _ O (AA (AB ?_)))))));exact ⟨c - (k+1),qO,k+1,ae.set t (lt++[((s:Nat):Int)]),vs.set t (.slice bg (lt.length+1) bu),Ac.out ⟨O,O,O,O,O,O,O,O,O,trivial⟩,E,Bd,qO,hI.add qO bw bh aw,(by rw[List.map_set];simpa[D9] using cy),b3,O⟩
     .refine AM (AN (AB (AJ (qV (Ar O O (A5 qO)) (qM _ O (AA (AB ?_)))))));exact ⟨c - (k+1),qO,k+1,ae,vs,Ac.out ⟨O,O,O,O,O,O,O,O,O,trivial⟩,E,Bd,qO,hI.skip (by rw[bh];omega),hG,ak,O⟩
    .refine Ak (AP (AP (Ae (AN (AB (AJ (qV (Ar O O (A5 qO)) (qM _ O (AA (AB ?_))))))))));exact ⟨n - (s+1),qO,s+1,ae,vs,Ac.out ⟨O,O,O,O,O,trivial⟩,E,Bd,qO,hI.row qO,hG,ak,O⟩
  .have c7:s=n:=qO
   rw[c7] at hI;obtain ⟨n2,c6⟩:∃n2,n2=(W1).heap.size:=⟨_,O⟩;have db:bd<n2:=by have:=Bd.lt;omega
   have ck:w0.heap.size<=n2:=by have:=E.size;omega
   have E1:Chg Ab W1 W1:=Chg.refl _ _;refine Ak (AP (AP (Ae (AB (Y (qF bd 0 2 O underlying48 O A' O (qV (AE O A4 (Bd.cell O)) (qV (AL underlying46 O) (Dx (n:=n) (z:=(.bool false)) (bytes:=1) qD underlying87 EZ VL Uv O O O qO qO ?_)))))))));intro bl wl Nl;replace Bd:=Nl.keep Bd;replace E:=E.ext Nl.ext;have Bl:=Nl.blk;replace E1:=E1.ext Nl.ext;refine qA _ O (AA (Y (qA _ O (AA (AI (Y (qF bd 0 1 O underlying48 O Ay O (qV (AE O Ax (Bd.cell O)) (qV (AL underlying22 O) (qM _ O (AA (AO ?_))))))))))));obtain ⟨n3,c4⟩:∃n3,n3=wl.heap.size:=⟨_,O⟩;have c1:bl<n3:=by have:=Bl.lt;omega
   have cn:n2<=n3:=by have:=Nl.ext.size;omega
   have c5:n2<=bl:=by have:=Nl.eq;omega
   rw[show List.replicate n (Value.bool false)=(List.replicate n false).map Value.bool by simp] at Bl;have af:n3<=wl.heap.size:=qO
   refine Ap (λnn_ σ W8=>∃(k:Nat) (M:List Bool) (ad:List Int) (ka:Option Addr) (kc kn:Nat),(∃jj_,σ=BK jj_ [(3,(.slice (some ⟨bi,0,none⟩) n n)),(8,(.slice (some ⟨bl,0,none⟩) n n)),(52,(.slice aa n ac)),(53,(I6 (n:Int))),(54,(I6 (k:Int))),(9,(.slice ka kn kc))])∧Chg Ab w0 W8∧Chg Ab W1 W8∧Az W8 bd #[(I6 d.start),(.slice aa n ac),(.slice na n nc)] 48∧Az W8 bl ((M.map Value.bool).toArray) 4∧(k<=n)∧(LiveP n c d M ad k)∧(Gg ae M ad)∧(kn=ad.length)∧(W8.ownsRow n3 CF 1 (.slice ka kn kc) kn (ad.map (Value.int .i64)))∧(n3<=W8.heap.size)∧(∀i,k<=i->i<n->M[i]?=some false)∧nn_=n - k) (n:=n - 0) ?_ ?_
   .exact ⟨0,List.replicate n false,[],none,0,0,Ac.out ⟨O,O,O,O,O,O,trivial⟩,E,E1,Bd,Bl,Nat.zero_le _,LiveP.start n c d,P0 n ae,O,World.ownsRow_nil _ _ _ _,af,(λi _ hi=>by simp[hi]),O⟩
   .clear E E1 Bd Bl;rintro _ _ W8 ⟨k,M,ad,ka,kc,kn,⟨j8,rfl⟩,E,E1,Bd,Bl,hk,hL,hC,an,hw,af,bm,rfl⟩;refine Y (qV (A0 O O) (AA (AI (qC O (λbo=>?_) (λbo=>?_)))))
    .obtain ⟨x,hx⟩:=AK (l:=d.accept) (i:=k) qO;obtain ⟨ab,ao,rfl,c2⟩:=Ao (n:=n) a9 qO;have a5:=Cn hx;refine AM (AB (AI (AO (Y (qM _ O (qV (AC (b:=ab) (o:=ao) (len:=n) (cap:=ac) (i:=k) (o':=ao+k) O O O underlying22 Ad qO qO) (qV (AE O Ai (E.cell (λf=>f) (c2 k x hx))) (qA _ O (qA _ O (AA (Y (qM _ O (qV (CT O O) (AA (qC O (λbb=>?_) (λbb=>?_))))))))))))))))
     .have b5:=bm k (Nat.le_refl _) qO;have b1:=(hL.mark b5 ⟨[],C0.nil c,by show 0<=Co d _;rw[a5];omega⟩).next (λ_=>by rw[List.getElem?_set,if_pos O,if_pos (AG b5)]);have b9:=hL.cnt;have cc:=hL.len;refine Y (qM _ O (qM _ O (qV (AC (b:=bl) (o:=0) (len:=n) (cap:=n) (i:=k) (o':=0+k) O O O underlying87 EZ qO qO) (A9 (b:=bl) (o:=0+k) (c':=((M.set k true).map Value.bool).toArray) (v:=(.bool true)) O O O EZ Bl (by simp;omega) (H_ true) ?_))));intro w11 ay;replace hw:=Av hw ay.chg λb hb h=>by subst h;have:=(hw.lt _ hb).1;omega
      replace af:=Nat.le_trans af ay.chg.size;replace Bd:=ay.keep qO Bd;replace E:=ay.step E qQ;replace E1:=ay.step E1 (Or.inl qO);replace Bl:=ay.blk;refine AA (AJ (qM _ O (qM _ O (Ah (ps:=[(0,(I6 (k:Int)))]) (c:=#[(I6 (k:Int))]) qD O underlying22 Ad BY qD qD qK ?_))));intro b12 w12 av;replace Bd:=av.keep Bd;replace Bl:=av.keep Bl;replace hw:=Am hw av.ext;replace af:=Nat.le_trans af av.ext.size;replace E:=E.ext av.ext;have cg:=av.blk;replace E1:=E1.ext av.ext;refine BU (base:=n3) (n:=kn) (m:=1) (xs:=(ad.map (Value.int .i64))) (news:=[(I6 (k:Int))]) (size:=1) (bytes:=8) (v:=(.slice ka kn kc)) qD underlying22 Ad Dj BY O qD O hw O (O) (cg.cells O) qS (by unfold maxLen;omega) qO (af) ?_;intro v7 ce am ah bn;replace Bd:=ah.keep (λh=>by have:=(hw.lt _ h).1;omega) Bd;replace Bl:=ah.keep (λh=>by have:=(hw.lt _ h).1;omega) Bl;replace E:=E.step ah (λx hx h=>absurd (hw.lt x h).1 qO);replace E1:=E1.step ah (λx hx h=>absurd (hw.lt x h).1 qO);obtain ⟨bk,bs,rfl⟩:=BD am;refine qA _ O (AA (AN (AB (AJ (qV (Ar O O (A5 qO)) (qM _ O (AA (AB ?_))))))));exact ⟨n - (k+1),qO,k+1,M.set k true,ad++[((k:Nat):Int)],bk,bs,kn+1,Ac.out ⟨O,O,O,O,O,O,trivial⟩,E,E1,Bd,Bl,qO,b1,hC.mark,(by simp;omega),(by rw[List.map_append];exact am),Nat.le_trans af ah.size,(λi h1 h2=>by rw[List.getElem?_set,if_neg qO];exact bm i qO h2),O⟩
     .refine AM (AN (AB (AJ (qV (Ar O O (A5 qO)) (qM _ O (AA (AB ?_)))))));exact ⟨n - (k+1),qO,k+1,M,ad,ka,kc,kn,Ac.out ⟨O,O,O,O,O,O,trivial⟩,E,E1,Bd,Bl,qO,hL.next (λh=>by rw[a5] at h;omega),hC,an,hw,af,(λi h1 h2=>bm i qO h2),O⟩
    .have bj:k=n:=qO
     rw[bj] at hL;refine Ak (AP (AP (Ae (AB (AI (AO (Ap (λnn_ σ ax=>∃(M:List Bool) (ad:List Int) (ka:Option Addr) (kc kn:Nat),(∃jj_,σ=BK jj_ [(3,(.slice (some ⟨bi,0,none⟩) n n)),(8,(.slice (some ⟨bl,0,none⟩) n n)),(9,(.slice ka kn kc))])∧Chg Ab w0 ax∧Chg Ab W1 ax∧Az ax bd #[(I6 d.start),(.slice aa n ac),(.slice na n nc)] 48∧Az ax bl ((M.map Value.bool).toArray) 4∧(LiveP n c d M ad n)∧(Gg ae M ad)∧(kn=ad.length)∧(ax.ownsRow n3 CF 1 (.slice ka kn kc) kn (ad.map (Value.int .i64)))∧(n3<=ax.heap.size)∧nn_=2*M.countP (λb=>!b)+ad.length) (n:=2*M.countP (λb=>!b)+ad.length) ?_ ?_)))))))
     .exact ⟨M,ad,ka,kc,kn,Ac.out ⟨O,O,O,trivial⟩,E,E1,Bd,Bl,hL,hC,an,hw,af,O⟩
     .clear E E1 Bd Bl;rintro _ _ ax ⟨M,ad,ka,kc,kn,⟨j13,rfl⟩,E,E1,Bd,Bl,hL,hC,an,hw,af,rfl⟩;refine AI (Y (qM _ O (qV (AL underlying22 O) (qV (CU O O) (AA (qC O (λbv=>?_) (λbv=>?_)))))))
      .have b9:=hL.cnt;obtain ⟨wl,x,a1⟩:=U5 (l:=ad) qO;have cv:ad.length=wl.length+1:=by rw[a1];simp
       obtain ⟨u,ct,az⟩:=hL.wrk x (by rw[a1];simp);have cc:=hL.len;have hun:u<n:=by have:=AG az;omega
       obtain ⟨kg,rfl,_,bw⟩:=BS hw qO;have hle:=Qn hw;obtain ⟨Z,hZ⟩:∃Z,Z=2*M.countP (λb=>!b)+ad.length:=⟨_,O⟩;refine AM (AB (AO (Y (qM _ O (qM _ O (qV (AL underlying22 O) (qV (GO O O (A5 qO)) (qV (AC (b:=kg) (o:=0) (len:=kn) (cap:=kc) (i:=kn - 1) (o':=0+(kn - 1)) O O qO underlying22 Ad qO qO) (qV (AE (v:=(I6 x)) O Ai (bw (kn - 1) _ (by rw[an,cv,Nat.add_sub_cancel,List.getElem?_map,a1];simp))) ?_)))))))));refine qA _ O (AA (Y (qM _ O (qM _ O (qV (AL underlying22 O) (qV (GO O O (A5 qO)) ?_))))));obtain ⟨a2,cb⟩:∃a':Option Addr,(if kc=0 then (some ⟨kg,0,none⟩) else Option.map (λq:Addr=>q.add (0*1)) (some ⟨kg,0,none⟩))=a':=⟨_,O⟩;refine qV (KJ (hi:=kn - 1) underlying22 Ad O O qO qO cb) (qA _ O (AA (Y (qM _ O (qM _ O ?_)))));have c3:a2=some ⟨kg,0,none⟩:=by rw[<-cb,if_neg qO];simp[Addr.add_lit]
       subst c3;have cf:=Sg hw (m:=kn - 1) qO qO;rw[show (ad.map (Value.int .i64)).take ((kn - 1)*1)=wl.map (Value.int .i64) by rw[a1,List.map_append,Nat.mul_one,List.take_append_of_le_length (by simp;omega),List.take_of_length_le (by simp;omega)]] at cf;have cp:LiveP n c d M wl n:=⟨hL.len,λy hy=>hL.wrk y (by rw[a1];exact List.mem_append_left _ hy),hL.snd,hL.acc,qO⟩;obtain ⟨lu,bc⟩:=AK (l:=ae) (i:=u) (by have:=hI.len;omega);have ai:(ae.map D9).length=n:=by rw[List.length_map];exact hI.len
       obtain ⟨v1,aq⟩:=AK (l:=vs) (i:=u) (by have:=hG.l.len;omega);have bf:(ae.map D9)[u]?=some (lu.length,lu.map (Value.int .i64)):=by rw[List.getElem?_map,bc];rfl
       have ag:=hG.l.inn u v1 _ aq bf;obtain ⟨va,vc,rfl⟩:=BD ag;obtain ⟨gg,a7,_,bp⟩:=BS (hG.l.on ai.symm) qO;simp only[Option.some.injEq,Addr.mk.injEq,and_true] at a7;subst a7;have cj:=(show Gg ae M (wl++[((u:Nat):Int)]) by rw[<-ct,<-a1];exact hC).open lu;have hil:=hI.sht lu (List.mem_of_getElem? bc);refine qV (AC (b:=bi) (o:=0) (len:=n) (cap:=n) (i:=u) (o':=0+u) O O qO underlying46 Ay qO qO) (qV (AE O Ax (E1.cell (λf=>f) (bp u _ aq))) (qV (AL underlying22 O) (qM _ O (AA (AO (Ap (λnn_ σ ap=>∃(j:Nat) (M:List Bool) (ad:List Int) (ka:Option Addr) (kc kn:Nat),(∃jj_,σ=BK jj_ [(3,(.slice (some ⟨bi,0,none⟩) n n)),(8,(.slice (some ⟨bl,0,none⟩) n n)),(86,(.slice va lu.length vc)),(87,(I6 (lu.length:Int))),(88,(I6 (j:Int))),(9,(.slice ka kn kc))])∧Chg Ab w0 ap∧Chg Ab W1 ap∧Az ap bd #[(I6 d.start),(.slice aa n ac),(.slice na n nc)] 48∧Az ap bl ((M.map Value.bool).toArray) 4∧(j<=lu.length)∧(LiveP n c d M ad n)∧(G2 ae M ad u lu j)∧(M[u]?=some true)∧(kn=ad.length)∧(ap.ownsRow n3 CF 1 (.slice ka kn kc) kn (ad.map (Value.int .i64)))∧(n3<=ap.heap.size)∧(2*M.countP (λb=>!b)+ad.length<Z)∧nn_=lu.length - j) (n:=lu.length - 0) ?_ ?_))))))
       .exact ⟨0,M,wl,some ⟨kg,0,none⟩,kc,kn - 1,Ac.out ⟨O,O,O,O,O,O,trivial⟩,E,E1,Bd,Bl,Nat.zero_le _,cp,cj,az,qO,cf,af,qO,O⟩
       .clear E E1 Bd Bl;rintro _ _ ap ⟨j,M,ad,ka,kc,kn,⟨j15,rfl⟩,E,E1,Bd,Bl,hj,hL,hQ,az,an,hw,af,hZ,rfl⟩;refine Y (qV (A0 O O) (AA (AI (qC O (λbx=>?_) (λbx=>?_)))))
        .obtain ⟨x,hx⟩:=AK (l:=lu) (i:=j) qO;obtain ⟨cu,hxn,y,hy,c9⟩:=hI.snd u lu bc x (List.mem_of_getElem? hx);obtain ⟨i,be⟩:=Int.eq_ofNat_of_zero_le cu;have cc:=hL.len;have b9:=hL.cnt;obtain ⟨q,hq⟩:=AK (l:=M) (i:=i) qO;have bt:=DR (Am ag E1) O;obtain ⟨ub,uo,rfl,da⟩:=Ao bt qO;refine AM (AB (AI (AO (Y (qV (AC (b:=ub) (o:=uo) (len:=lu.length) (cap:=vc) (i:=j) (o':=uo+j) O O O underlying22 Ad qO qO) (qV (AE O Ai (da j x hx)) (qA _ O (AA (Y (qM _ O (qM _ O (qV (AC (b:=bl) (o:=0) (len:=n) (cap:=n) (i:=i) (o':=0+i) O O qO underlying87 EZ qO qO) (qV (AE (v:=(.bool q)) O E7 (Bl.cell (by simp[hq]))) (qV (CM O) (AA (As O (λaj=>?_) (λaj=>?_)))))))))))))))))
         .have b2:=aj;replace aj:=by simpa using aj
          have b0:M[i]?=some false:=by rw[hq,aj]
          have bq:BG c d ((i:Nat):Int):=Ol (x:=y) (by rw[<-be,c9];exact hL.snd u az) hy;have b1:=hL.mark b0 bq;have cs:=count_set b0;refine Y (qM _ O (qM _ O (qV (AC (b:=bl) (o:=0) (len:=n) (cap:=n) (i:=i) (o':=0+i) O O qO underlying87 EZ qO qO) (A9 (b:=bl) (o:=0+i) (c':=((M.set i true).map Value.bool).toArray) (v:=(.bool true)) O O O EZ Bl (by simp;omega) (H_ true) ?_))));intro w18 a3;replace hw:=Av hw a3.chg λb hb h=>by subst h;have:=(hw.lt _ hb).1;omega
          replace af:=Nat.le_trans af a3.chg.size;replace Bd:=a3.keep qO Bd;replace E:=a3.step E qQ;replace E1:=a3.step E1 (Or.inl qO);replace Bl:=a3.blk;refine AA (AJ (qM _ O (qM _ O (Ah (ps:=[(0,(I6 x))]) (c:=#[(I6 x)]) qD O underlying22 Ad BY qD qD qK ?_))));intro b19 w19 au;replace Bd:=au.keep Bd;replace Bl:=au.keep Bl;replace hw:=Am hw au.ext;replace af:=Nat.le_trans af au.ext.size;replace E:=E.ext au.ext;have cr:=au.blk;replace E1:=E1.ext au.ext;refine BU (base:=n3) (n:=kn) (m:=1) (xs:=(ad.map (Value.int .i64))) (news:=[(I6 x)]) (size:=1) (bytes:=8) (v:=(.slice ka kn kc)) qD underlying22 Ad Dj BY O qD O hw O (O) (cr.cells O) qS (by unfold maxLen;omega) qO (af) ?_;intro v7 ce am ah bn;replace Bd:=ah.keep (λh=>by have:=(hw.lt _ h).1;omega) Bd;replace Bl:=ah.keep (λh=>by have:=(hw.lt _ h).1;omega) Bl;replace E:=E.step ah (λx hx h=>absurd (hw.lt x h).1 qO);replace E1:=E1.step ah (λx hx h=>absurd (hw.lt x h).1 qO);obtain ⟨bk,bs,rfl⟩:=BD am;refine qA _ O (AA (AN (AB (AJ (qV (Ar O O (A5 qO)) (qM _ O (AA (AB ?_))))))));exact ⟨lu.length - (j+1),qO,j+1,M.set i true,ad++[((i:Nat):Int)],bk,bs,kn+1,Ac.out ⟨O,O,O,O,O,O,trivial⟩,E,E1,Bd,Bl,qO,b1,hQ.mark (by rw[hx,be]) b0,FJ az,(by simp;omega),(by rw[List.map_append,<-be];exact am),Nat.le_trans af ah.size,(by simp;omega),O⟩
         .have b2:=aj;replace aj:=by simpa using aj
          refine AM (AN (AB (AJ (qV (Ar O O (A5 qO)) (qM _ O (AA (AB ?_)))))));exact ⟨lu.length - (j+1),qO,j+1,M,ad,ka,kc,kn,Ac.out ⟨O,O,O,O,O,O,trivial⟩,E,E1,Bd,Bl,qO,hL,hQ.seen hx (by rw[be,Int.toNat_natCast,hq,aj]),az,an,hw,af,hZ,O⟩
        .refine Ak (AP (AP (Ae (AN (AB ?_)))));exact ⟨2*M.countP (λb=>!b)+ad.length,qO,M,ad,ka,kc,kn,Ac.out ⟨O,O,O,trivial⟩,E,E1,Bd,Bl,hL,hQ.done bc qO,an,hw,af,O⟩
      .have ch:ad=[]:=List.eq_nil_of_length_eq_zero qO;rw[ch] at hL hC;refine Ak (AP (AP (Ae (AB (Y (qM _ O (qA _ O (AA (AS (AY results197 (v:=(.slice (some ⟨bl,0,none⟩) n n)) O ?_))))))))));exact ⟨⟨M,bl,NL ok hI hL hC,O,qO,Bl⟩,E⟩
end Go.Proofs
namespace Go.Proofs
open Go Go.Eng Go.Sort
theorem Refd.cnt_mono {n c b a:Nat} {d:Dfa} {p q:List Int} (D:Refd n c d p b) (C:Refd n c d q a) (H:∀s t:Nat,s<n->t<n->BG c d s->BG c d t->q[s]?=q[t]?->p[s]?=p[t]?):b<=a:=by
 have g:∀j:Nat,∃i:Nat,j<a->(i<b∧∀u:Nat,u<n->BG c d u->q[u]?=some ((j:Nat):Int)->p[u]?=some ((i:Nat):Int)):=by
  intro j;by_cases r:j<a
  .obtain ⟨u,e,k,y⟩:=C.onto j r;obtain ⟨i,hi,B⟩:=D.liv u e k;refine ⟨i,λ_=>⟨B,λv F G x=>?_⟩⟩;rw[<-H u v e F k G (by rw[y,x])];exact hi
  .exact ⟨0,λh=>absurd h r⟩
 obtain ⟨f,w⟩:=Classical.axiomOfChoice g;have z:=Do (l:=List.range b) (m:=(List.range a).map f) List.nodup_range λi hi=>by
  rw[List.mem_range] at hi;obtain ⟨u,e,k,A⟩:=D.onto i hi;obtain ⟨j,r,o⟩:=C.liv u e k;have E:=(w j o).2 u e k r;rw[A] at E;exact List.mem_map.2 ⟨j,List.mem_range.2 o,by simp at E;omega⟩
 simpa using z
def BN (n:Int):List Int:=[n % 256,n / 256 % 256,n / 65536 % 256,n / 16777216 % 256]
def Cs (l:List Int):ByteArray:=strOfNums (l.flatMap BN)
def PY (l:List Int):Prop:=∀x∈l,-1<=x∧x<2147483648
theorem N9 (n:Int):∀x∈BN n,0<=x∧x<256:=by
 intro x a;simp only[BN,List.mem_cons,List.not_mem_nil,or_false] at a;omega
theorem N_ {x y:Int} (hx : -1<=x∧x<2147483648) (hy : -1<=y∧y<2147483648) (h:BN x=BN y):x=y:=by
 simp only[BN,List.cons.injEq,and_true] at h;omega
theorem Kk:∀{l m:List Int},PY l->PY m->l.flatMap BN=m.flatMap BN->l=m
 | [],[],_,_,_=>rfl
 | [],y::m,_,_,h=>by simp[BN] at h
 | x::l,[],_,_,h=>by simp[BN] at h
 | x::l,y::m,hl,hm,h=>by
  rw[List.flatMap_cons,List.flatMap_cons] at h;obtain ⟨c,b⟩:=List.append_inj h O;rw[N_ (hl x List.mem_cons_self) (hm y List.mem_cons_self) c,Kk (λz a=>hl z (List.mem_cons_of_mem _ a)) (λz a=>hm z (List.mem_cons_of_mem _ a)) b]
theorem Kj {l:List Int}:∀x∈l.flatMap BN,0<=x∧x<256:=λx a=>by
 obtain ⟨y,_,h⟩:=List.mem_flatMap.1 a;exact N9 y x h
theorem Qw {l m:List Int} (k:∀x∈l,0<=x∧x<256) (n:∀x∈m,0<=x∧x<256) (h:strOfNums l=strOfNums m):l=m:=by
 have d:=congrArg (λs=>s.data.toList) h;simp only[strOfNums_data] at d;have j:∀{l m:List Int},(∀x∈l,0<=x∧x<256)->(∀x∈m,0<=x∧x<256)->l.map (λi=>UInt8.ofNat i.toNat)=m.map (λi=>UInt8.ofNat i.toNat)->l=m:=by
  intro l
  induction l with
  | nil=>intro m _ _ h;cases m with
   | nil=>rfl
   | cons y m=>cases h
  | cons x l ih=>
   intro m g f h;cases m with
   | nil=>cases h
   | cons y m=>
    simp only[List.map_cons,List.cons.injEq] at h;have a:=g x List.mem_cons_self;have b:=f y List.mem_cons_self;have e:=congrArg UInt8.toNat h.1;simp only[UInt8.toNat_ofNat'] at e;rw[ih (λz c=>g z (List.mem_cons_of_mem _ c)) (λz c=>f z (List.mem_cons_of_mem _ c)) h.2];congr 1;omega
 exact j k n d
theorem RX {l m:List Int} (b:PY l) (a:PY m) (h:Cs l=Cs m):l=m:=Kk b a (Qw Kj Kj h)
def Cu:List (List Int)->Nat->List (ByteArray×Int)
  | [],_=>[]
  | m::ks,n=>(Cs m,((n:Nat):Int))::Cu ks (n+1)
theorem Hz:∀(a:List (List Int)) (n:Nat),(Cu a n).length=a.length
 | [],_=>rfl
 | _::a,n=>by simp[Cu,Hz a]
theorem JK:∀(a:List (List Int)) (m:List Int) (n:Nat),Cu (a++[m]) n=Cu a n++[(Cs m,(((n+a.length:Nat):Nat):Int))]
 | [],m,n=>rfl
 | x::a,m,n=>by
  show (Cs x,_)::Cu (a++[m]) (n+1)=(Cs x,_)::(Cu a (n+1)++_);rw[JK a m (n+1),List.length_cons,show n+1+a.length=n+(a.length+1) by omega]
theorem KY:∀{a:List (List Int)} {n:Nat} {q:ByteArray×Int},q∈Cu a n->∃(j:Nat) (m:List Int),a[j]?=some m∧q=(Cs m,(((n+j:Nat):Nat):Int))
 | [],_,_,h=>by cases h
 | x::a,n,q,h=>by
  rcases List.mem_cons.1 h with h|h
  .exact ⟨0,x,O,h⟩
  .obtain ⟨j,m,b,c⟩:=KY h;exact ⟨j+1,m,b,by rw[c];congr 2;omega⟩
theorem H0:∀{a:List (List Int)} {n:Nat} {m:List Int},m∈a->Cs m∈(Cu a n).map (·.1)
 | x::a,n,m,h=>by
  rcases List.mem_cons.1 h with rfl|h
  .exact List.mem_cons_self
  .exact List.mem_cons_of_mem _ (H0 (n:=n+1) h)
theorem KZ {a:List (List Int)} {m:List Int} {v:Int} (e:∀k∈a,PY k) (d:PY m) (h:A3 (Cu a 0) (Cs m)=some v):∃j:Nat,v=((j:Nat):Int)∧a[j]?=some m:=by
 obtain ⟨j,m',c,b⟩:=KY (EI h);simp only[Prod.mk.injEq,Nat.zero_add] at b;obtain rfl:=RX d (e m' (List.mem_of_getElem? c)) b.1;exact ⟨j,b.2,c⟩
theorem NO {a:List (List Int)} {m:List Int} (h:A3 (Cu a 0) (Cs m)=none):m∉a∧D8 (Cu a 0) (Cs m) ((a.length:Nat):Int)=Cu (a++[m]) 0:=by
 refine ⟨λb=>?_,?_⟩
 .have:=Cm.2 (H0 (n:=0) b);rw[h] at this;cases this
 .rw[Dm _ h,JK,Nat.zero_add]
abbrev Ut:Nat:=5
theorem QG (n:Int):IntKind.u8.wrap n=n % 256:=by
 simp only[IntKind.wrap,IntKind.bits,IntKind.signed,Bool.true_and,Bool.false_and,decide_eq_true_eq,ge_iff_le,Int.reducePow,Nat.reduceSub,Bool.false_eq_true,if_false]
theorem Jb (n:Int) {k:Int} (h:0<=k):n.fdiv k=n / k:=Int.fdiv_eq_ediv_of_nonneg n h
theorem OO (b:World) (base n:Nat) (v:Value) (xs:List Int) (x:Int) (i:b.ownsRow base Ut 1 v n (xs.map (Value.int .u8))) (hb:base<=b.heap.size) (hn:n<=1000000) (hxn:n=xs.length) (k : -1<=x∧x<2147483648) :
 CB prog 199 #[v,.int .i64 x] b λr w=>(∃a c,r=.slice a (n+4) c)∧w.ownsRow base Ut 1 r (n+4) ((xs++BN x).map (Value.int .u8))∧Chg (λy=>v.ownBlock=some y) b w:=by
 obtain ⟨a,c,rfl⟩:=BD i;refine C7 func199 O ntmps199 (LK O) ?_;have E:Chg (λy=>(Value.slice a n c).ownBlock=some y) b b:=Chg.refl _ _;refine Y (qA _ O (AA (Y (qM _ O (qM _ O (qV (Dl (c:=x % 256) ⟨_,underlying3⟩ underlying5 O (QG x)) (qM _ O (qV (HL (c:=x / 256) O O qO (Jb x qD)) (qV (Dl (c:=x / 256 % 256) ⟨_,underlying3⟩ underlying5 O (QG _)) (qM _ O (qV (HL (c:=x / 65536) O O qO (Jb x qD)) (qV (Dl (c:=x / 65536 % 256) ⟨_,underlying3⟩ underlying5 O (QG _)) (qM _ O (qV (HL (c:=x / 16777216) O O qO (Jb x qD)) (qV (Dl (c:=x / 16777216 % 256) ⟨_,underlying3⟩ underlying5 O (QG _)) ?_)))))))))))))));refine Ah (ps:=[(0,(.int .u8 (x % 256))),(1,(.int .u8 (x / 256 % 256))),(2,(.int .u8 (x / 65536 % 256))),(3,(.int .u8 (x / 16777216 % 256)))]) (c:=#[(.int .u8 (x % 256)),(.int .u8 (x / 256 % 256)),(.int .u8 (x / 65536 % 256)),(.int .u8 (x / 16777216 % 256))]) qD O underlying162 K8 SB qD qD qK ?_;intro bt wt e;replace E:=E.ext e.ext;have l:=e.blk;have f:=Am i e.ext;refine BU (base:=base) (n:=n) (m:=4) (xs:=(xs.map (Value.int .u8))) (news:=[(.int .u8 (x % 256)),(.int .u8 (x / 256 % 256)),(.int .u8 (x / 65536 % 256)),(.int .u8 (x / 16777216 % 256))]) (size:=1) (bytes:=1) (v:=(.slice a n c)) qD underlying162 K8 Ue SB O qD O f O (O) (l.cells O) qS (by unfold maxLen;omega) qO ((by have:=e.ext.size;omega)) ?_;intro v7 w59 d g Dv7;replace E:=E.step g (λx k h=>h);obtain ⟨j,c2,rfl⟩:=BD d;refine qA _ O (AA (AS (AY results199 (v:=(.slice j (n+4) c2)) O ?_)));exact ⟨⟨j,c2,O⟩,by rw[List.map_append];exact d,E⟩
end Go.Proofs
namespace Go.Proofs
open Go Go.Eng Go.Sort
set_option maxRecDepth 100000
def H' (base n:Nat) (xs:List Int):EK:=λv w=>∃a c,v=.slice a n c∧w.ownsRow base Ut 1 (.slice a n c) n (xs.map (Value.int .u8))
theorem D6 (base n:Nat) (xs:List Int):∀v w w',Al w w'->H' base n xs v w->H' base n xs v w':=by
 rintro v w w' e ⟨a,c,b,d⟩;exact ⟨a,c,b,Am d e⟩
theorem KB (b:World) (base:Nat) (x:Int) (e:base<=b.heap.size) (i : -1<=x∧x<2147483648) :
 CB prog 199 #[.slice none 0 0,.int .i64 x] b λr w=>H' base 4 (BN x) r w∧Al b w:=
 (OO b base 0 (.slice none 0 0) [] x (World.ownsRow_nil _ _ _ _) e qD O i).mono λr w ⟨⟨a,c,d⟩,f,g⟩=>by
  subst d;exact ⟨⟨a,c,O,by simpa using f⟩,g.mono λy _ h=>by cases h⟩
theorem I5 {P:Program} {σ:B0} {w:World} {ty t:TypeId} {pos:String} {af:Array Edge} {x:Operand} {dst:Option Tmp} {g:Option (Nat×Bool)} {s e base n c:Nat} {a:Option Addr} {l:List Int} (hs:P.underlying s=some (.slice e)) (q:P.underlying e=some (.int .u8)) (r:P.underlying t=some .string) (k:ev σ x=.slice a n c)
 (p:w.ownsRow base Ut 1 (.slice a n c) n (l.map (Value.int .u8))) (j:l.length=n) (m:0<n):(execOp (ev σ) ⟨dst,.convert s t x,ty,pos,af,g⟩).run P w=.ok (.value (.string (strOfNums l))) w:=by
 obtain ⟨b,rfl,_,f⟩:=BS p m;have h:=run_convert_bytes_arg (P:=P) w s e hs q b 0 n c l j (λi hi=>by
  have o:l[i]?=some l[i]:=List.getElem?_eq_getElem qO;have d:=f i (.int .u8 (l.getD i 0)) (by simp[List.getD,o]);exact d) t r
 simp only[execOp,k,Sem.run_bind,h,Result.andThen_ok];rfl
theorem UQ (g:World) (I m n:Nat) (d:Dfa) (G:List Value) (s:Nat) (x:Int) (F:Az g I #[.func (.func 199) #[] #[]] 228) (p:Az g m G.toArray 48) (h:BC g d G) (k:d.accept.length=n) (hs:d.accept[s]?=some x) (J : -1<=x∧x<2147483648) :
 CB prog 200 #[.int .i64 ((s:Nat):Int),.pointer (some ⟨I,0,none⟩),.pointer (some ⟨m,0,none⟩)] g λr w=>r=.string (Cs [x])∧Al g w:=by
 obtain ⟨aa,A,na,nc,rfl,c,hnxt⟩:=h;have u:=AG hs;rw[k] at c u;obtain ⟨j,e,rfl,z⟩:=Ao (n:=n) c qO;rw[k] at p;obtain ⟨base,hbase⟩:∃base,base=g.heap.size:=⟨_,O⟩;refine qR func200 O ntmps200 O (λE=>(Y (qA _ O (AA (AI ?_)))));obtain ⟨q,a⟩:∃M:List Fact,M=[.eq (.func (.func 199) #[] #[]),.eq (P6 m 1),.eq (.slice (some ⟨j,e,none⟩) n A),.eq (I6 (s:Int)),.eq (.pointer (some ⟨j,e+s,none⟩)),.eq (I6 x),.gen (H' base 4 (BN x)) (D6 _ _ _),.eq (.string (strOfNums (BN x))),.eq (.string (strOfNums (BN x)))]:=⟨_,O⟩;refine IE [5,6,7,8,9,10,11,12,4] [[],[],[1],[],[2,3],[4],[0,5],[6],[0,1,2,3,4,5,6,7]] q a mixed qK qK ?_ ?_
 .intro wd o;refine DagSteps.cons (λb w' X U H=>Or.inl ⟨?_,?_⟩) ?_
  .exact AQ O
  .exact Aq (AE (U 1 O) Ik (((o.trans X).keep F).cell O)) (Al.refl _) O
  refine DagSteps.cons (λb w' X U H=>Or.inl ⟨?_,?_⟩) ?_
  .exact AQ O
  .exact Aq (AT (U 2 O) underlying48 O Ay O) (Al.refl _) O
  refine DagSteps.cons (λb w' X U H=>Or.inl ⟨?_,?_⟩) ?_
  .exact AQ O
  .have K:b 6=(.pointer (some ⟨m,1,none⟩)):=H 1 O 6 (.eq (.pointer (some ⟨m,1,none⟩))) O (by rw[a];rfl);exact Aq (AE K Ax (((o.trans X).keep p).cell O)) (Al.refl _) O
  refine DagSteps.cons (λb w' X U H=>Or.inl ⟨?_,?_⟩) ?_
  .exact AQ O
  .exact Aq (AZ (U 0 O)) (Al.refl _) O
  refine DagSteps.cons (λb w' X U H=>Or.inl ⟨?_,?_⟩) ?_
  .exact AQ O
  .have Q:b 7=(.slice (some ⟨j,e,none⟩) n A):=H 2 O 7 (.eq (.slice (some ⟨j,e,none⟩) n A)) O (by rw[a];rfl);have P:b 8=(.int .i64 ((s:Nat):Int)):=H 3 O 8 (.eq (.int .i64 ((s:Nat):Int))) O (by rw[a];rfl);exact Aq (AC (i:=s) Q P O underlying22 Ad qO qO) (Al.refl _) O
  refine DagSteps.cons (λb w' X U H=>Or.inl ⟨?_,?_⟩) ?_
  .exact AQ O
  .have N:b 9=(.pointer (some ⟨j,e+s,none⟩)):=H 4 O 9 (.eq (.pointer (some ⟨j,e+s,none⟩))) O (by rw[a];rfl);exact Aq (AE N Ai ((Chg.ext E (o.trans X)).cell (λf=>f) (z s x hs))) (Al.refl _) O
  refine DagSteps.cons (λb w' X U H=>Or.inl ⟨?_,?_⟩) ?_
  .exact AQ O
  .have D:b 10=(.int .i64 x):=H 5 O 10 (.eq (.int .i64 x)) O (by rw[a];rfl);have L:b 5=(.func (.func 199) #[] #[]):=H 0 O 5 (.eq (.func (.func 199) #[] #[])) O (by rw[a];rfl);exact DO (EH L func199 kQ kQ (JF O D) O) (KB _ base x (by have:=o.size;have:=X.size;omega) J)
  refine DagSteps.cons (λb w' X U H=>Or.inl ⟨?_,?_⟩) ?_
  .exact AQ O
  .obtain ⟨a11,c11,t,B⟩:=H 6 O 11 (.gen (H' base 4 (BN x)) (D6 _ _ _)) O (by rw[a];rfl);exact Aq (I5 (l:=BN x) underlying162 underlying5 underlying9 t B O qD) (Al.refl _) O
  refine DagSteps.cons (λb w' X U H=>Or.inl ⟨?_,?_⟩) ?_
  .exact AQ O
  .have y:b 12=(.string (strOfNums (BN x))):=H 7 O 12 (.eq (.string (strOfNums (BN x)))) O (by rw[a];rfl);exact Aq (El y) (Al.refl _) O
  exact DagSteps.nil
 .intro b w1 C U H;obtain ⟨j1,rfl⟩:=Ac.out (σ:=b) (l:=[(4,(.string (strOfNums (BN x))))]) ⟨(show b 4=(.string (strOfNums (BN x))) from H 8 4 (.eq (.string (strOfNums (BN x)))) O (by rw[a];rfl)),trivial⟩;clear U H;replace F:=C.keep F;replace p:=C.keep p;replace E:=E.ext C;refine AB (AS (AY results200 (v:=(.string (strOfNums (BN x)))) O ?_));exact ⟨by unfold Cs;simp,E⟩
theorem KA (b:World) (base n:Nat) (a:Option Addr) (c:Nat) (xs:List Int) (x:Int) (f:b.ownsRow base Ut 1 (.slice a n c) n (xs.map (Value.int .u8))) (e:base<=b.heap.size) (j:n<=1000000) (d:n=xs.length) (i : -1<=x∧x<2147483648) :
 CB prog 199 #[.slice a n c,.int .i64 x] b λr w=>H' base (n+4) (xs++BN x) r w∧Chg (λy=>(Value.slice a n c).ownBlock=some y) b w:=
 (OO b base n (.slice a n c) xs x f e j d i).mono λr w ⟨⟨a,c,k⟩,g,h⟩=>by
  subst k;exact ⟨⟨a,c,O,g⟩,h⟩
theorem J4 (c:Nat) (d:Dfa) (p:List Int) (s:Nat):Cs (DS c d p s)=strOfNums (BN (CH p s)++((List.range c).map λx=>CH p (Bu d s x)).flatMap BN):=by
 unfold Cs DS;rw[List.flatMap_cons]
theorem Ie {n:Nat} {p:List Int} (a:∀x∈p,-1<=x∧x<(n:Int)) (hn:n<=20000) (s:Int) : -1<=CH p s∧CH p s<2147483648:=by
 unfold CH;split
 .omega
 .rw[List.getD_eq_getElem?_getD];cases h:p[s.toNat]? with
  | none=>simp
  | some x=>have:=a x (List.mem_of_getElem? h);simp;omega
theorem UP (J:World) (Z bo bd n c q L:Nat) (d:Dfa) (dv:List Value) (p:List Int) (s:Nat) (ok:OkD n c d) (z:Az J Z #[.func (.func 199) #[] #[]] 228) (A:Az J bo #[.slice (some ⟨q,0,none⟩) n L] 22) (B:Az J bd dv.toArray 48) (h:BC J d dv)
 (hP:A2 J (.slice (some ⟨q,0,none⟩) n L) p) (hpl:p.length=n) (ag:∀x∈p,-1<=x∧x<(n:Int)) (hs:s<n) (hn:n<=20000∧c<=16) :
 CB prog 201 #[.int .i64 ((s:Nat):Int),.pointer (some ⟨Z,0,none⟩),.pointer (some ⟨bo,0,none⟩),.pointer (some ⟨bd,0,none⟩)] J λr w=>r=.string (Cs (DS c d p s))∧Al J w:=by
 obtain ⟨aa,ac,na,nc,rfl,hacc,M⟩:=h;have a3:=ok.nl;rw[a3] at M B;obtain ⟨nb,no,rfl,a7⟩:=BL (n:=n) M qO;obtain ⟨row,D⟩:=AK (l:=d.next) (i:=s) qO;have hrl:=(ok.row row (List.mem_of_getElem? D)).1;obtain ⟨ra,rc,R,a1⟩:=a7 s row D;obtain ⟨j,G⟩:=AK (l:=p) (i:=s) qO;have ad:=CV G;obtain ⟨pb',po',ae,V⟩:=Ao (n:=n) hP qO;simp only[Option.some.injEq,Addr.mk.injEq,and_true] at ae;obtain ⟨rfl,rfl⟩:=ae;obtain ⟨base,hbase⟩:∃base,base=J.heap.size:=⟨_,O⟩;have hpb:q<J.heap.size:=World.block_lt_of_cell? J _ (V s j G);have hbw:=z.lt;have hbo:=A.lt;have hbd:=B.lt;refine qR func201 O ntmps201 O (λE=>(Y (qA _ O (AA (AI ?_)))));obtain ⟨aj,e⟩:∃Fs:List Fact,Fs=[.eq (.func (.func 199) #[] #[]),.eq (.slice (some ⟨q,0,none⟩) n L),.eq (I6 (s:Int)),.eq (.pointer (some ⟨q,0+s,none⟩)),.eq (I6 j),.gen (H' base 4 (BN j)) (D6 _ _ _),.gen (H' base 4 (BN j)) (D6 _ _ _)]:=⟨_,O⟩;refine IE [9,10,11,12,13,14,6] [[],[],[],[1,2],[3],[0,4],[0,1,2,3,4,5]] aj e mixed qK qK ?_ ?_
 .intro wd u;refine DagSteps.cons (λa w' X U H=>Or.inl ⟨?_,?_⟩) ?_
  .exact AQ O
  .exact Aq (AE (U 1 O) Ik (((u.trans X).keep z).cell O)) (Al.refl _) O
  refine DagSteps.cons (λa w' X U H=>Or.inl ⟨?_,?_⟩) ?_
  .exact AQ O
  .exact Aq (AE (U 2 O) Ax (((u.trans X).keep A).cell O)) (Al.refl _) O
  refine DagSteps.cons (λa w' X U H=>Or.inl ⟨?_,?_⟩) ?_
  .exact AQ O
  .exact Aq (AZ (U 0 O)) (Al.refl _) O
  refine DagSteps.cons (λa w' X U H=>Or.inl ⟨?_,?_⟩) ?_
  .exact AQ O
  .have aw:a 10=(.slice (some ⟨q,0,none⟩) n L):=H 1 O 10 (.eq (.slice (some ⟨q,0,none⟩) n L)) O (by rw[e];rfl);have a0:a 11=(.int .i64 ((s:Nat):Int)):=H 2 O 11 (.eq (.int .i64 ((s:Nat):Int))) O (by rw[e];rfl);exact Aq (AC (i:=s) aw a0 O underlying22 Ad qO qO) (Al.refl _) O
  refine DagSteps.cons (λa w' X U H=>Or.inl ⟨?_,?_⟩) ?_
  .exact AQ O
  .have ao:a 12=(.pointer (some ⟨q,0+s,none⟩)):=H 3 O 12 (.eq (.pointer (some ⟨q,0+s,none⟩))) O (by rw[e];rfl);exact Aq (AE ao Ai ((Chg.ext E (u.trans X)).cell (λf=>f) (V s j G))) (Al.refl _) O
  refine DagSteps.cons (λa w' X U H=>Or.inl ⟨?_,?_⟩) ?_
  .exact AQ O
  .have bf:a 13=(.int .i64 j):=H 4 O 13 (.eq (.int .i64 j)) O (by rw[e];rfl);have e9:a 9=(.func (.func 199) #[] #[]):=H 0 O 9 (.eq (.func (.func 199) #[] #[])) O (by rw[e];rfl);exact DO (EH e9 func199 kQ kQ (JF O bf) O) (KB _ base j (by have:=u.size;have:=X.size;omega) (by rw[<-ad];exact Ie ag hn.1 _))
  refine DagSteps.cons (λa w' X U H=>Or.inl ⟨?_,?_⟩) ?_
  .exact AQ O
  .obtain ⟨bg,aq,a9,a8⟩:=H 5 O 14 (.gen (H' base 4 (BN j)) (D6 _ _ _)) O (by rw[e];rfl);exact Aq (El a9) (Al.refl _) ⟨bg,aq,O,a8⟩
  exact DagSteps.nil
 .intro a w1 X1 U H;obtain ⟨a6,c6,e6,O6⟩:=H 6 6 (.gen (H' base 4 (BN j)) (D6 _ _ _)) O (by rw[e];rfl);obtain ⟨j1,rfl⟩:=Ac.out (σ:=a) (l:=[(0,(.int .i64 ((s:Nat):Int))),(1,(.pointer (some ⟨Z,0,none⟩))),(2,(.pointer (some ⟨bo,0,none⟩))),(3,(.pointer (some ⟨bd,0,none⟩))),(6,(.slice a6 4 c6))]) ⟨U 0 O,U 1 O,U 2 O,U 3 O,e6,trivial⟩;clear U H;replace z:=X1.keep z;replace A:=X1.keep A;replace B:=X1.keep B;replace E:=E.ext X1;refine AB (AI (Y (qF bd 0 2 O underlying48 O A' O (qV (AE O A4 (B.cell O)) (qM _ O (qV (AC (b:=nb) (o:=no) (len:=n) (cap:=nc) (i:=s) (o':=no+s) O O O underlying46 Ay qO qO) (qV (AE O Ax (E.cell (λf=>f) R)) ?_)))))));have ar:base<=(w1).heap.size:=by have:=E.size;omega
  refine qV (AL underlying22 O) (qM _ O (AA (AO (Ap (λnn_ σ T=>∃(k:Nat) (xs:List Int) (I:Option Addr) (F m:Nat),(∃jj_,σ=BK jj_ [(1,(P6 Z 0)),(2,(P6 bo 0)),(19,(.slice ra row.length rc)),(20,(I6 (row.length:Int))),(21,(I6 (k:Int))),(6,(.slice I m F))])∧Chg Ab J T∧Az T Z #[(.func (.func 199) #[] #[])] 228∧Az T bo #[(.slice (some ⟨q,0,none⟩) n L)] 22∧Az T bd #[(I6 d.start),(.slice aa d.accept.length ac),(.slice (some ⟨nb,no,none⟩) n nc)] 48∧(k<=c)∧(xs=BN (CH p s)++((List.range k).map λx=>CH p (Bu d s x)).flatMap BN)∧(xs.length=4*(k+1))∧(m=xs.length)∧(T.ownsRow base Ut 1 (.slice I m F) m (xs.map (Value.int .u8)))∧(base<=T.heap.size)∧nn_=c - k) (n:=c - 0) ?_ ?_))))
  .exact ⟨0,BN j,a6,c6,4,Ac.out ⟨O,O,O,O,O,O,trivial⟩,E,z,A,B,Nat.zero_le _,(by rw[ad];simp),O,O,O6,ar,O⟩
  .clear E z A B;rintro _ _ T ⟨k,xs,I,F,m,⟨j2,rfl⟩,E,z,A,B,hk,ab,hbl,S,C,W,rfl⟩;refine Y (qV (A0 O O) (AA (AI (qC O (λa5=>?_) (λa5=>?_)))))
   .obtain ⟨x,hx⟩:=AK (l:=row) (i:=k) qO;obtain ⟨rb,ro,rfl,am⟩:=Ao a1 qO;obtain ⟨an,hkc,_,hxl,hxh⟩:=FT ok D hx;have N:∀y,y=CH p x->xs++BN y=BN (CH p s)++((List.range (k+1)).map λx=>CH p (Bu d s x)).flatMap BN:=λy hy=>by rw[List.range_succ,List.map_append,List.flatMap_append,ab,List.append_assoc,hy,<-an];simp
    refine AM (AB (AI (AO (Y (qV (AC (b:=rb) (o:=ro) (len:=row.length) (cap:=rc) (i:=k) (o':=ro+k) O O O underlying22 Ad qO qO) (qV (AE O Ai (E.cell (λf=>f) (am k x hx))) (qA _ O (AA (Y (qM _ O (qV (A0 O O) (AA (qC O (λQ=>?_) (λQ=>?_))))))))))))))
    .refine AJ (qV (AE O Ik (z.cell O)) (qM _ O (qE O (EH O func199 kQ kQ O O) (KA _ base m I F xs (-1) C W qO S qO) ?_)));rintro _ w9 ⟨⟨a2,c2,rfl,O9⟩,C9⟩;replace z:=C9.keep (λh=>by have:=(C.lt _ h).1;omega) z;replace A:=C9.keep (λh=>by have:=(C.lt _ h).1;omega) A;replace B:=C9.keep (λh=>by have:=(C.lt _ h).1;omega) B;replace E:=E.step C9 (λx hx h=>absurd (C.lt x h).1 qO);refine qA _ O (AA (AN (AB (AJ (qV (Ar O O (A5 qO)) (qM _ O (AA (AB ?_))))))));exact ⟨c - (k+1),qO,k+1,xs++BN (-1),a2,c2,m+4,Ac.out ⟨O,O,O,O,O,O,trivial⟩,E,z,A,B,qO,N _ (Gj Q).symm,(by simp[BN];omega),(by simp[BN];omega),O9,Nat.le_trans W C9.size,O⟩
    .obtain ⟨t,ht⟩:=Int.eq_ofNat_of_zero_le (show 0<=x by omega);obtain ⟨K,ai⟩:=AK (l:=p) (i:=t) qO;have P:K=CH p x:=by rw[ht];exact (CV ai).symm
     obtain ⟨a4,g⟩:∃Fs:List (FactT ((λy=>(Value.slice I m F).ownBlock=some y))),Fs=[.eq (.func (.func 199) #[] #[]),.eq (.slice I m F),.eq (.slice (some ⟨q,0,none⟩) n L),.eq (I6 x),.eq (.pointer (some ⟨q,0+t,none⟩)),.eq (I6 K),.own (H' base (m+4) (xs++BN K)) (D6 _ _ _)]:=⟨_,O⟩;refine Gt ((λy=>(Value.slice I m F).ownBlock=some y)) 7 6 [30,31,32,33,34,35,36] [[],[],[],[],[2,3],[4],[0,1,5]] a4 g O mixed qK qK qK ?_ ?_
     .intro wd u;refine DagStepsT.cons (λa w' X U H=>?_) ?_
      .exact AR (AE (U 1 O) Ik ((Chg.keep X (λf=>f) (u.keep z)).cell O)) (Chg.refl _ _) O
      refine DagStepsT.cons (λa w' X U H=>?_) ?_
      .exact AR (AZ (U 6 O)) (Chg.refl _ _) O
      refine DagStepsT.cons (λa w' X U H=>?_) ?_
      .exact AR (AE (U 2 O) Ax ((Chg.keep X (λh=>by have:=(C.lt _ h).1;omega) (u.keep A)).cell O)) (Chg.refl _ _) O
      refine DagStepsT.cons (λa w' X U H=>?_) ?_
      .exact AR (AZ (U 8 O)) (Chg.refl _ _) O
      refine DagStepsT.cons (λa w' X U H=>?_) ?_
      .have ax:a 32=(.slice (some ⟨q,0,none⟩) n L):=H 2 O 32 (.eq (.slice (some ⟨q,0,none⟩) n L)) O (by rw[g];rfl);have au:a 33=(.int .i64 x):=H 3 O 33 (.eq (.int .i64 x)) O (by rw[g];rfl);exact AR (AC (i:=t) ax au qO underlying22 Ad qO qO) (Chg.refl _ _) O
      refine DagStepsT.cons (λa w' X U H=>?_) ?_
      .have ay:a 34=(.pointer (some ⟨q,0+t,none⟩)):=H 4 O 34 (.eq (.pointer (some ⟨q,0+t,none⟩))) O (by rw[g];rfl);exact AR (AE ay Ai (Al.cell X (Al.cell u (E.cell (λf=>f) (V t K ai))))) (Chg.refl _ _) O
      refine DagStepsT.cons (λa w' X U H=>?_) ?_
      .have al:a 31=(.slice I m F):=H 1 O 31 (.eq (.slice I m F)) O (by rw[g];rfl);have bb:a 35=(.int .i64 K):=H 5 O 35 (.eq (.int .i64 K)) O (by rw[g];rfl);have be:a 30=(.func (.func 199) #[] #[]):=H 0 O 30 (.eq (.func (.func 199) #[] #[])) O (by rw[g];rfl);exact Dv (EH be func199 kQ kQ (JF al bb) O) (KA _ base m I F xs K (Am (Am C u) X) (by have:=u.size;have:=X.size;omega) qO S (by rw[P];exact Ie ag hn.1 _))
      exact DagStepsT.nil
     .intro a wd5 w5 u X5 U H;obtain ⟨ah,af,az,ap⟩:=(show (.own (H' base (m+4) (xs++BN K)) (D6 _ _ _):FactT ((λy=>(Value.slice I m F).ownBlock=some y))).In (a 36) w5 from H 6 36 (.own (H' base (m+4) (xs++BN K)) (D6 _ _ _)) O (by rw[g];rfl));obtain ⟨j5,rfl⟩:=Ac.out (σ:=a) (l:=[(1,(.pointer (some ⟨Z,0,none⟩))),(2,(.pointer (some ⟨bo,0,none⟩))),(19,(.slice (some ⟨rb,ro,none⟩) row.length rc)),(20,(.int .i64 ((row.length:Nat):Int))),(21,(.int .i64 ((k:Nat):Int))),(36,(.slice ah (m+4) af))]) ⟨U 1 O,U 2 O,U 19 O,U 20 O,U 21 O,az,trivial⟩;clear U H;replace z:=Chg.keep X5 (λh=>by have:=(C.lt _ h).1;omega) (u.keep z);replace A:=Chg.keep X5 (λh=>by have:=(C.lt _ h).1;omega) (u.keep A);replace B:=Chg.keep X5 (λh=>by have:=(C.lt _ h).1;omega) (u.keep B);have av:=Chg.trans (Al.chg u) X5;replace E:=(E.ext u).step X5 (λy hy h=>by have:=(C.lt _ h).1;omega);refine qA _ O (AA (AN (AB (AJ (qV (Ar O O (A5 qO)) (qM _ O (AA (AB ?_))))))));exact ⟨c - (k+1),qO,k+1,xs++BN K,ah,af,m+4,Ac.out ⟨O,O,O,O,O,O,trivial⟩,E,z,A,B,qO,N _ P,(by simp[BN];omega),(by simp[BN];omega),ap,Nat.le_trans W av.size,O⟩
   .have ak:k=c:=qO
    refine Ak (AP (AP (Ae (AB (Y (qM _ O (qV (I5 (l:=xs) underlying162 underlying5 underlying9 O C S.symm qO) (qA _ O (AA (AS (AY results201 (v:=(.string (strOfNums xs))) O ?_)))))))))));exact ⟨by rw[J4,<-ak,<-ab],E⟩
end Go.Proofs
namespace Go.Proofs
open Go Go.Eng Go.Sort
set_option maxRecDepth 100000
def Dg (M:List Bool) (keyf:Nat->List Int) (n:Nat):List (Option (List Int)):=(List.range n).map λs=>if M[s]?=some true then some (keyf s) else none
theorem IL (M:List Bool) (a:Nat->List Int) (n:Nat):Dg M a (n+1)=Dg M a n++[if M[n]?=some true then some (a n) else none]:=by
 unfold Dg;rw[List.range_succ,List.map_append];rfl
theorem RD {d:List (List Int)} {k:List Int} {j:Nat} (l:∀k∈d,PY k) (hd:d.Nodup) (f:d[j]?=some k):A3 (Cu d 0) (Cs k)=some ((j:Nat):Int):=by
 have h:=List.mem_of_getElem? f;have m:=Cm.2 (H0 (n:=0) h);obtain ⟨v,g⟩:=Option.isSome_iff_exists.1 m;obtain ⟨i,rfl,hi⟩:=KZ l (l k h) g;have a:=AG hi;have b:=AG f;rw[List.getElem?_eq_getElem a] at hi;rw[List.getElem?_eq_getElem b] at f;have e:=(Option.some.inj hi).trans (Option.some.inj f).symm;have:i=j:=by
  rcases Nat.lt_trichotomy i j with c|c|c
  .exact absurd e (List.pairwise_iff_getElem.1 hd i j a b c)
  .exact c
  .exact absurd e.symm (List.pairwise_iff_getElem.1 hd j i b a c)
 rw[g,this]
theorem DC {L:List Int} {k:Nat} (x:Int):((L.map (Value.int .i64)).toArray).setIfInBounds (0+k) (.int .i64 x)=((L.set k x).map (Value.int .i64)).toArray:=by
 apply Array.ext';rw[Array.toList_setIfInBounds,Nat.zero_add,<-List.map_set]
theorem DA {L:List Int} {s:Nat} {x:Int} (hs:s<L.length):(L.set s x).take (s+1)=L.take s++[x]:=by
 rw[List.take_add_one,List.getElem?_set,if_pos O,if_pos hs,List.take_set_of_le (Nat.le_refl s)];rfl
theorem Qy {M:List Bool} {a:Nat->List Int} {s j:Nat} {c b:List (List Int)} {out:List Int} (e:Num (Dg M a s) c out) (f:M[s]?=some true) (h:b=c∨(a s∉c∧b=c++[a s]∧j=c.length)) (k:b[j]?=some (a s)):Num (Dg M a (s+1)) b (out++[((j:Nat):Int)]):=by
 rw[IL,if_pos f];rcases h with d|⟨d,g,i⟩
 .subst d;exact e.hit k
 .subst g;subst i;exact e.new d
theorem Qu {b a:List (List Int)} {x:List Int} {j:Nat} (c:∀k∈b,PY k) (i:PY x) (g:a=b∨(x∉b∧a=b++[x]∧j=b.length)):∀k∈a,PY k:=by
 intro k h;rcases g with e|⟨_,f,_⟩
 .subst e;exact c k h
 .subst f;rcases List.mem_append.1 h with d|d
  .exact c k d
  .rw[List.mem_singleton] at d;subst d;exact i
theorem Qx (w0:World) (bp blv lb bc n pc:Nat) (pa:Option Addr) (fv:Value) (cnt0:Int) (M:List Bool) (keyf:Nat→List Int)
  (hP:Az w0 bp #[.slice pa n pc] 22) (hV:Az w0 blv #[.slice (some ⟨lb,0,none⟩) n n] 87) (hB:Az w0 lb (M.map Value.bool).toArray 4) (hC:Az w0 bc #[.int .i64 cnt0] 3)
  (hdis:bp≠blv∧bp≠lb∧bp≠bc∧bc≠blv∧bc≠lb) (hMl:M.length=n) (hn:n≤20000)
  (hkey:∀(w:World) (s:Nat),s<n→M[s]?=some true→Al w0 w→CQ prog fv #[.int .i64 ((s:Nat):Int)] w fun r w'=>r=.string (Cs (keyf s))∧Al w w')
  (hok:∀s,s<n→M[s]?=some true→PY (keyf s)) :
  CB prog 198 #[fv,.pointer (some ⟨bp,0,none⟩),.pointer (some ⟨blv,0,none⟩),.pointer (some ⟨bc,0,none⟩)] w0 fun r w=>r=.tuple #[]∧(∃q ks b,Num (Dg M keyf n) ks q∧Az w bp #[.slice (some ⟨b,0,none⟩) n n] 22∧Az w b (q.map (Value.int .i64)).toArray 3∧w0.heap.size≤b∧Az w bc #[.int .i64 ((ks.length:Nat):Int)] 3)∧Chg (fun y=>y=bp∨y=bc) w0 w:=by
 have l1:=hP.lt;have l2:=hV.lt;have l3:=hB.lt;have l4:=hC.lt;obtain ⟨d1,d2,d3,d4,d5⟩:=hdis;refine C7 func198 rfl ntmps198 (LK rfl) ?_;have E:Chg (fun y=>y=bp∨y=bc) w0 w0:=Chg.refl _ _;have E9:Chg Ab w0 w0:=Chg.refl _ _;refine Y (EB GI Cd qD ?_);intro bm wm Nm;have Fm:=Nm.ge E;have Fm_E9:=Nm.ge E9;have Om_bp:=Nm.lt hP;have Om_blv:=Nm.lt hV;have Om_lb:=Nm.lt hB;have Om_bc:=Nm.lt hC;replace hP:=Nm.keep hP;replace hV:=Nm.keep hV;replace hB:=Nm.keep hB;replace hC:=Nm.keep hC;replace E:=E.ext Nm.ext;replace E9:=E9.ext Nm.ext;intro Mm;refine qA _ rfl (AA (Y (qV (AE rfl Ax (hP.cell rfl)) (qV (AL underlying22 rfl) (Dx (n:=n) (z:=(I6 0)) (bytes:=8) qD underlying22 Ad Dj BY rfl rfl rfl qO qO ?_)))));intro bq wq Nq;have Fq:=Nq.ge E;have Fq_E9:=Nq.ge E9;have Oq_bp:=Nq.lt hP;have Oq_blv:=Nq.lt hV;have Oq_lb:=Nq.lt hB;have Oq_bc:=Nq.lt hC;have Oq_bm:=Nq.ltM Mm;replace hP:=Nq.keep hP;replace hV:=Nq.keep hV;replace hB:=Nq.keep hB;replace hC:=Nq.keep hC;replace Mm:=Nq.keepM Mm;replace E:=E.ext Nq.ext;have Bq:=Nq.blk;replace E9:=E9.ext Nq.ext;refine qA _ rfl (AA (AI (Y (qV (AE rfl Ax (hP.cell rfl)) (qV (AL underlying22 rfl) (qM _ rfl (AA (AO ?_))))))));rw[show List.replicate n (Value.int .i64 0)=(List.replicate n (0:Int)).map (Value.int .i64) by simp] at Bq;refine Ap (fun nn_ σ W1=>∃(s:Nat) (ks:List (List Int)) (L:List Int),(∃jj_,σ=BK jj_ [(0,fv),(1,(P6 bp 0)),(2,(P6 blv 0)),(3,(P6 bc 0)),(5,(.map (some bm))),(6,(.slice (some ⟨bq,0,none⟩) n n)),(16,(I6 (n:Int))),(17,(I6 (s:Int)))])∧Chg (fun y=>y=bp∨y=bc) w0 W1∧Chg Ab w0 W1∧Az W1 bp #[(.slice pa n pc)] 22∧Az W1 blv #[(.slice (some ⟨lb,0,none⟩) n n)] 87∧Az W1 lb ((M.map Value.bool).toArray) 4∧Az W1 bc #[(I6 cnt0)] 3∧BZ W1 bm GI Cd (Cu ks 0)∧Az W1 bq ((L.map (Value.int .i64)).toArray) 3∧(s≤n)∧(L.length=n)∧(Num (Dg M keyf s) ks (L.take s))∧(∀k∈ks,PY k)∧nn_=n - s) (n:=n - 0) ?_ ?_
 ·exact ⟨0,[],List.replicate n 0,Ac.out ⟨rfl,rfl,rfl,rfl,rfl,rfl,rfl,rfl,trivial⟩,E,E9,hP,hV,hB,hC,Mm,Bq,Nat.zero_le _,qP,Num.start,(fun k h=>absurd h List.not_mem_nil),rfl⟩
 ·clear E E9 hP hV hB hC Mm Bq;rintro _ _ W1 ⟨s,ks,L,⟨j1,rfl⟩,E,E9,hP,hV,hB,hC,Mm,Bq,hs,ah,hN,an,rfl⟩;refine Y (qV (A0 rfl rfl) (AA (AI (qC rfl (fun ax=>?_) (fun ax=>?_)))))
  ·obtain ⟨q,hq⟩:=AK (l:=M) (i:=s) qO;have aw:=DA (L:=L) (s:=s) (x:=-1) qO;refine AM (AB (AI (AO (Y (qM _ rfl (qA _ rfl (AA (AI (Y (qM _ rfl (qM _ rfl (qV (AC (b:=bq) (o:=0) (len:=n) (cap:=n) (i:=s) (o':=0+s) rfl rfl rfl underlying22 Ad qO qO) (A9 (b:=bq) (o:=0+s) (c':=((L.set s (-1)).map (Value.int .i64)).toArray) (v:=(I6 (-1))) rfl rfl rfl Ad Bq (by simp;omega) (DC _) ?_)))))))))))));intro w3 S3;replace hP:=S3.keep qO hP;replace hV:=S3.keep qO hV;replace hB:=S3.keep qO hB;replace hC:=S3.keep qO hC;replace Mm:=S3.keepM qO Mm;replace E:=S3.step E qQ;replace E9:=S3.step E9 (Or.inl qO);replace Bq:=S3.blk;refine AA (Y (qV (AE rfl D3 (hV.cell rfl)) (qM _ rfl (qV (AC (b:=lb) (o:=0) (len:=n) (cap:=n) (i:=s) (o':=0+s) rfl rfl rfl underlying87 EZ qO qO) (qV (AE (v:=(.bool q)) rfl E7 (hB.cell (by simp[hq]))) (qV (CM rfl) (AA (As rfl (fun ab=>?_) (fun ab=>?_)))))))))
   ·have am:=ab;replace ab:=by simpa using ab
    refine Ak (AP (Ae (AB (AJ (qV (Ar rfl rfl (A5 qO)) (qM _ rfl (AA (AB ?_))))))));exact ⟨n - (s+1),qO,s+1,ks,L.set s (-1),Ac.out ⟨rfl,rfl,rfl,rfl,rfl,rfl,rfl,rfl,trivial⟩,E,E9,hP,hV,hB,hC,Mm,Bq,qO,(by simp[ah]),(by rw[IL,aw,if_neg (by rw[hq,ab];simp)];exact hN.none),an,rfl⟩
   ·have am:=ab;replace ab:=by simpa using ab
    have ai:M[s]?=some true:=by rw[hq];simpa using ab
    have ae:=hok s qO ai;refine AM (AB (Y (qM _ rfl (qM _ rfl (DU qD rfl rfl (hkey _ s qO ai E9) ?_)))));rintro _ w9 ⟨rfl,X9⟩;replace hP:=X9.keep hP;replace hV:=X9.keep hV;replace hB:=X9.keep hB;replace hC:=X9.keep hC;replace Mm:=X9.keepM Mm;replace Bq:=X9.keep Bq;replace E:=E.ext X9;replace E9:=E9.ext X9;refine qA _ rfl (AA (Ex (fun σ W5=>∃(ac:List (List Int)) (j:Nat),(∃jj_,σ=BK jj_ [(0,fv),(1,(P6 bp 0)),(2,(P6 blv 0)),(3,(P6 bc 0)),(5,(.map (some bm))),(6,(.slice (some ⟨bq,0,none⟩) n n)),(7,(I6 (s:Int))),(8,(.string (Cs (keyf s)))),(16,(I6 (n:Int))),(17,(I6 (s:Int)))])∧Chg (fun y=>y=bp∨y=bc) w0 W5∧Chg Ab w0 W5∧Az W5 bp #[(.slice pa n pc)] 22∧Az W5 blv #[(.slice (some ⟨lb,0,none⟩) n n)] 87∧Az W5 lb ((M.map Value.bool).toArray) 4∧Az W5 bc #[(I6 cnt0)] 3∧BZ W5 bm GI Cd (Cu ac 0)∧Az W5 bq (((L.set s (-1)).map (Value.int .i64)).toArray) 3∧((ac=ks∨(keyf s∉ks∧ac=ks++[keyf s]∧j=ks.length)))∧(ac[j]?=some (keyf s))) ?_ ?_))
    ·skip
     refine Y (qM _ rfl (qM _ rfl (BV (v:=(.tuple #[(I6 ((A3 (Cu ks 0) (Cs (keyf s))).getD 0)),(.bool ((A3 (Cu ks 0) (Cs (keyf s))).isSome))])) rfl rfl qD (FK (k:=(Cs (keyf s))) (z:=0) underlying161 (GQ underlying9) BY Mm rfl rfl) (qM _ rfl (qV (Aj rfl rfl) (qV (Aj rfl rfl) (qA _ rfl (qA _ rfl (AA (Y (qM _ rfl (qV (CM rfl) (AA (As rfl (fun aa=>?_) (fun aa=>?_)))))))))))))))
     ·have ag:=aa;replace aa:=by simpa using aa
      have av:A3 (Cu ks 0) (Cs (keyf s))=none:=by simpa using aa
      obtain ⟨aj,al⟩:=NO av;have ak:=Hz ks 0;refine AJ (qM _ rfl (qM _ rfl (qM _ rfl (BV (v:=(I6 (((Cu ks 0).length:Nat):Int))) rfl rfl qD (L3 underlying161 Mm rfl) (Dk (k:=(Cs (keyf s))) (v:=(((Cu ks 0).length:Nat):Int)) underlying161 (GQ underlying9) Mm rfl rfl rfl ?_)))));intro w7 S7 H7;replace hP:=S7.keep qO hP;replace hV:=S7.keep qO hV;replace hB:=S7.keep qO hB;replace hC:=S7.keep qO hC;replace Bq:=S7.keep qO Bq;replace E:=S7.step E qQ;replace E9:=S7.step E9 (Or.inl qO);replace Mm:=H7;refine AA (AB ?_);rw[ak,al] at Mm;exact ⟨ks++[keyf s],ks.length,Ac.out ⟨rfl,rfl,rfl,rfl,rfl,rfl,rfl,rfl,rfl,rfl,trivial⟩,E,E9,hP,hV,hB,hC,Mm,Bq,.inr ⟨aj,rfl,rfl⟩,qP⟩
     ·have ag:=aa;replace aa:=by simpa using aa
      have az:(A3 (Cu ks 0) (Cs (keyf s))).isSome=true:=by simpa using aa
      obtain ⟨v9,au⟩:=Option.isSome_iff_exists.1 az;obtain ⟨j9,rfl,ay⟩:=KZ an ae au;refine AM (AB ?_);exact ⟨ks,j9,Ac.out ⟨rfl,rfl,rfl,rfl,rfl,rfl,rfl,rfl,rfl,rfl,trivial⟩,E,E9,hP,hV,hB,hC,Mm,Bq,.inl rfl,ay⟩
    ·clear E E9 hP hV hB hC Mm Bq;rintro _ W5 ⟨ac,j,⟨j5,rfl⟩,E,E9,hP,hV,hB,hC,Mm,Bq,aq,ap⟩;have ar:=Qy hN ai aq ap;have af:=Qu an ae aq;have a2:=RD af ar.nd ap;have ao:=DA (L:=L.set s (-1)) (s:=s) (x:=((j:Nat):Int)) (by simp;omega);refine AJ (qM _ rfl (qM _ rfl (qM _ rfl (qM _ rfl (BV (v:=(I6 ((A3 (Cu ac 0) (Cs (keyf s))).getD 0))) rfl rfl qD (Ek (k:=(Cs (keyf s))) (z:=0) underlying161 (GQ underlying9) BY Mm rfl rfl) (qV (AC (b:=bq) (o:=0) (len:=n) (cap:=n) (i:=s) (o':=0+s) rfl rfl rfl underlying22 Ad qO qO) (A9 (b:=bq) (o:=0+s) (c':=(((L.set s (-1)).set s (j:Int)).map (Value.int .i64)).toArray) (v:=(I6 ((A3 (Cu ac 0) (Cs (keyf s))).getD 0))) rfl rfl rfl Ad Bq (by simp;omega) (by rw[a2];exact DC _) ?_)))))));intro w8 S8;replace hP:=S8.keep qO hP;replace hV:=S8.keep qO hV;replace hB:=S8.keep qO hB;replace hC:=S8.keep qO hC;replace Mm:=S8.keepM qO Mm;replace E:=S8.step E qQ;replace E9:=S8.step E9 (Or.inl qO);replace Bq:=S8.blk;refine AA (AN (AB (AJ (qV (Ar rfl rfl (A5 qO)) (qM _ rfl (AA (AB ?_)))))));exact ⟨n - (s+1),qO,s+1,ac,(L.set s (-1)).set s ((j:Nat):Int),Ac.out ⟨rfl,rfl,rfl,rfl,rfl,rfl,rfl,rfl,trivial⟩,E,E9,hP,hV,hB,hC,Mm,Bq,qO,(by simp[ah]),(by rw[ao,List.take_set_of_le (Nat.le_refl s)];exact ar),af,rfl⟩
  ·have a0:s=n:=qO
   have a1:Num (Dg M keyf n) ks L:=by rw[a0,←ah,List.take_length] at hN;rw[←ah];exact hN
   have ak:=Hz ks 0;refine Ak (AP (AP (Ae (AB (AJ (qM _ rfl (qM _ rfl (BV (v:=(I6 (((Cu ks 0).length:Nat):Int))) rfl rfl qD (L3 underlying161 Mm rfl) (A9 (b:=bp) (o:=0) (c':=#[(.slice (some ⟨bq,0,none⟩) n n)]) (v:=(.slice (some ⟨bq,0,none⟩) n n)) rfl rfl rfl Ay hP qP rfl ?_)))))))));intro w9 S9;replace hV:=S9.keep qO hV;replace hB:=S9.keep qO hB;replace hC:=S9.keep qO hC;replace Mm:=S9.keepM qO Mm;replace Bq:=S9.keep qO Bq;replace E:=S9.step E qQ;replace hP:=S9.blk;refine A9 (b:=bc) (o:=0) (c':=#[(I6 (((Cu ks 0).length:Nat):Int))]) (v:=(I6 (((Cu ks 0).length:Nat):Int))) rfl rfl rfl Ad hC qP rfl ?_;intro w10 ad;replace hP:=ad.keep qO hP;replace hV:=ad.keep qO hV;replace hB:=ad.keep qO hB;replace Mm:=ad.keepM qO Mm;replace Bq:=ad.keep qO Bq;replace E:=ad.step E qQ;replace hC:=ad.blk;refine AA (EQ results198 ?_);rw[ak] at hC;exact ⟨rfl,⟨L,ks,bq,a1,hP,Bq,qO,hC⟩,E⟩
end Go.Proofs
namespace Go.Proofs
open Go Go.Eng Go.Sort
set_option maxRecDepth 100000
theorem Fu {M:List Bool} {a:Nat->List Int} {n s:Nat} (hs:s<n):(Dg M a n)[s]?=some (if M[s]?=some true then some (a s) else none):=by
 unfold Dg;rw[List.getElem?_map,List.getElem?_range hs];rfl
theorem L0 {n c:Nat} {d:Dfa} {M:List Bool} {a:Nat->List Int} {b:List (List Int)} {q:List Int} (e:LiveOf n c d M) (f:Num (Dg M a n) b q)
 (i:∀s t:Nat,s<n->t<n->BG c d s->BG c d t->a s=a t->Co d s=Co d t) (j:∀s t:Nat,s<n->t<n->BG c d s->BG c d t->Ea c d s t->a s=a t):Refd n c d q b.length:=
 Refd.of_num f (by unfold Dg;simp) (λs hs h=>by rw[Fu hs,if_neg λg=>h ((e.iff s hs).1 g)]) (λs hs h=>by rw[Fu hs,if_pos ((e.iff s hs).2 h)]) i j
theorem Og {n c:Nat} {d:Dfa} {M:List Bool} {a:Nat->List Int} {f:List (List Int)} {q:List Int} (b:LiveOf n c d M) (g:Num (Dg M a n) f q):∀s t:Nat,s<n->t<n->BG c d s->BG c d t->(q[s]?=q[t]?↔a s=a t):=λs t hs e i h=>
 g.eq_iff (by rw[Fu hs,if_pos ((b.iff s hs).2 i)]) (by rw[Fu e,if_pos ((b.iff t e).2 h)])
theorem Refd.rng {n c e:Nat} {d:Dfa} {p:List Int} (h:Refd n c d p e):∀x∈p,-1<=x∧x<(n:Int):=by
 intro x g;obtain ⟨s,hs⟩:=List.getElem?_of_mem g;have b:s<n:=by rw[<-h.len];exact AG hs
 have hc:=h.cnt_le;by_cases f:BG c d s
 .obtain ⟨j,a,h2⟩:=h.liv s b f;rw[hs] at a;have:=Option.some.inj a;omega
 .have a:=h.dead s b f;rw[hs] at a;have:=Option.some.inj a;omega
theorem Refd.next {n c f:Nat} {d:Dfa} {p q:List Int} {M:List Bool} {k:List (List Int)} (ok:OkD n c d) (u:LiveOf n c d M) (e:Refd n c d p f) (r:Num (Dg M (DS c d p) n) k q):Refd n c d q k.length:=by
 refine L0 u r (λs t hs j i g h=>?_) λs t hs j i g h=>?_
 .have m:=(Em.1 h).1;obtain ⟨a,l,_⟩:=e.liv s hs i;obtain ⟨b,o,_⟩:=e.liv t j g;rw[CV l,CV o] at m;exact e.acc s t hs j i g (by rw[l,o,m])
 .refine Em.2 ⟨e.ptEqv qO qO h,λx v=>e.ptEqv ok.to ok.to (h.to v)⟩
theorem Refd.finer {n c e:Nat} {d:Dfa} {p q:List Int} {M:List Bool} {o:List (List Int)} (u:LiveOf n c d M) (f:Refd n c d p e) (r:Num (Dg M (DS c d p) n) o q):∀s t:Nat,s<n->t<n->BG c d s->BG c d t->q[s]?=q[t]?->p[s]?=p[t]?:=λs t hs l j i h=>by
 have k:=(Em.1 ((Og u r s t hs l j i).1 h)).1;obtain ⟨a,g,_⟩:=f.liv s hs j;obtain ⟨b,m,_⟩:=f.liv t l i;rw[CV g,CV m] at k;rw[g,m,k]
theorem Qt {n c b:Nat} {d:Dfa} {p:List Int} (h:Refd n c d p b) (f:n<=20000) (s:Nat):PY (DS c d p s):=by
 intro x e;unfold DS at e;rcases List.mem_cons.1 e with a|a
 .rw[a];exact Ie h.rng f _
 .obtain ⟨y,_,g⟩:=List.mem_map.1 a;rw[<-g];exact Ie h.rng f _
def PW (n0:Nat):EK:=λv w=>∃b,v=.pointer (some ⟨b,0,none⟩)∧n0<=b∧Az w b #[.slice none 0 0] 22
theorem JB (n0:Nat):∀v w w',Chg Ab w w'->PW n0 v w->PW n0 v w':=by
 rintro v w w' e ⟨b,a,c,d⟩;exact ⟨b,a,c,Al.keep e d⟩
theorem QC {N n0:Nat} {σ:B0} {w:World} {dst:Option Tmp} {ty:TypeId} {pos:String} {af:Array Edge} {g:Option (Nat×Bool)} (a:n0<=w.heap.size):CP Ab prog N ⟨dst,.alloc 22,ty,pos,af,g⟩ (PW n0) σ w:=by
 refine AR (v:=.pointer (some ⟨w.heap.size,0,none⟩)) (w':={w with heap:=w.heap.push (.cells #[.slice none 0 0] 22 (0,0))}) ?_ (New.mk' w _ _).ext ⟨_,O,a,(New.mk' w _ _).blk⟩;simp[execOp,Instr.alloc,(DY).run,newVar,newRow,Value.cells]
theorem Ev {w:World} {b n:Nat} {p:List Int} {T:Nat} (h:Az w b (p.map (Value.int .i64)).toArray T) (hn:p.length=n) (hl:n≤9223372036854775807:=by omega):A2 w (.slice (some ⟨b,0,none⟩) n n) p:=by
 subst hn;rw[←JS] at h;exact GS p h hl (Nat.le_refl _)
theorem Ew {n c:Nat} {d:Dfa} (ok:OkD n c d) {s:Nat} (hs:s<n):d.accept[s]?=some (Co d ((s:Nat):Int)):=by
 have a:d.accept[s]?=some (d.accept[s]'(by rw[ok.al];exact hs)):=List.getElem?_eq_getElem _;rw[a,Cn a]
theorem Sd (w0:World) (n c:Nat) (d:Dfa) (dv:List Value) (ok:OkD n c d) (h:BC w0 d dv) (hn:n≤20000∧c≤16) (hac:∀x∈d.accept,x<2147483648) :
  CB prog 168 #[.agg dv.toArray] w0 fun r w=>(∃q b,PartsOf n c d q∧r=.slice (some ⟨b,0,none⟩) n n∧w0.heap.size≤b∧Az w b (q.map (Value.int .i64)).toArray 3)∧Al w0 w:=by
 obtain ⟨dv0,ag⟩:∃x,x=dv:=⟨_,rfl⟩;have ae:=h;rw[←ag] at ae;obtain ⟨aa,ac,na,nc,rfl,bf,be⟩:=h;have a9:=ok.nl;have ax:=ok.al;rw[ax,a9] at ag⊢;refine qR func168 rfl ntmps168 rfl (fun E=>(Y (BP (v:=(.agg #[(I6 d.start),(.slice aa n ac),(.slice na n nc)])) (c:=#[(I6 d.start),(.slice aa n ac),(.slice na n nc)]) qD rfl rfl ?_)));intro bd wd Nd;have Fd:=Nd.ge E;replace E:=E.ext Nd.ext;have Bd:=Nd.blk;refine qA _ rfl (AA (Y (qV (Aa (vs:=[(I6 d.start),(.slice aa n ac),(.slice na n nc)]) rfl BB Aw rfl (Bd.cells rfl)) (qE rfl (AV func197 kQ kQ rfl) (UM _ n c d _ ok (by rw[ag] at ae;exact ae.ext E) hn) ?_))));rintro _ w9 ⟨⟨M,lb,hM,rfl,hlb,ab⟩,X9⟩;replace Bd:=X9.keep Bd;replace E:=E.ext X9;have a0:=ab.lt;have aw:∀w,Al w0 w→BC w d [.int .i64 d.start,.slice aa n ac,.slice na n nc]:=fun w e=>by rw[ag] at ae;exact ae.ext e
 refine A6 (v:=(.slice (some ⟨lb,0,none⟩) n n)) (c:=#[(.slice (some ⟨lb,0,none⟩) n n)]) (n:=1) qD Te rfl EM rfl rfl rfl qS ?_;intro bv wv Nv;have Fv:=Nv.ge E;have Ov_bd:=Nv.lt Bd;have Ov_lb:=Nv.lt ab;replace Bd:=Nv.keep Bd;replace ab:=Nv.keep ab;replace E:=E.ext Nv.ext;have Bv:=Nv.blk;refine AA (Y (qF bd 0 2 rfl underlying48 rfl A' rfl (qV (AE rfl A4 (Bd.cell rfl)) (qV (AL underlying46 rfl) (Dx (n:=n) (z:=(I6 0)) (bytes:=8) qD underlying22 Ad Dj BY rfl rfl rfl qO qO ?_)))));intro bz wz Nz;have Fz:=Nz.ge E;have Oz_bd:=Nz.lt Bd;have Oz_lb:=Nz.lt ab;have Oz_bv:=Nz.lt Bv;replace Bd:=Nz.keep Bd;replace ab:=Nz.keep ab;replace Bv:=Nz.keep Bv;replace E:=E.ext Nz.ext;have Bz:=Nz.blk;refine A6 (v:=(.slice (some ⟨bz,0,none⟩) n n)) (c:=#[(.slice (some ⟨bz,0,none⟩) n n)]) (n:=1) qD DY rfl Ay rfl rfl rfl qS ?_;intro bp wp Np;have Fp:=Np.ge E;have Op_bd:=Np.lt Bd;have Op_lb:=Np.lt ab;have Op_bv:=Np.lt Bv;have Op_bz:=Np.lt Bz;replace Bd:=Np.keep Bd;replace ab:=Np.keep ab;replace Bv:=Np.keep Bv;replace Bz:=Np.keep Bz;replace E:=E.ext Np.ext;have Bp:=Np.blk;refine AA (Y (A6 (v:=(I6 0)) (c:=#[(I6 0)]) (n:=1) qD BY rfl Ad rfl rfl rfl qS ?_));intro bc wc Nc;have Fc:=Nc.ge E;have Oc_bd:=Nc.lt Bd;have Oc_lb:=Nc.lt ab;have Oc_bv:=Nc.lt Bv;have Oc_bz:=Nc.lt Bz;have Oc_bp:=Nc.lt Bp;replace Bd:=Nc.keep Bd;replace ab:=Nc.keep ab;replace Bv:=Nc.keep Bv;replace Bz:=Nc.keep Bz;replace Bp:=Nc.keep Bp;replace E:=E.ext Nc.ext;have Bc:=Nc.blk;refine AA (Y (qV (B7 rfl rfl) (qA _ rfl (AA (Y (A6 (v:=(.func (.func 199) #[] #[])) (c:=#[(.func (.func 199) #[] #[])]) (n:=1) qD Ts rfl T4 rfl rfl rfl qS ?_))))));intro bw ww Nw;have Fw:=Nw.ge E;have Ow_bd:=Nw.lt Bd;have Ow_lb:=Nw.lt ab;have Ow_bv:=Nw.lt Bv;have Ow_bz:=Nw.lt Bz;have Ow_bp:=Nw.lt Bp;have Ow_bc:=Nw.lt Bc;replace Bd:=Nw.keep Bd;replace ab:=Nw.keep ab;replace Bv:=Nw.keep Bv;replace Bz:=Nw.keep Bz;replace Bp:=Nw.keep Bp;replace Bc:=Nw.keep Bc;replace E:=E.ext Nw.ext;have Bw:=Nw.blk;refine AA (Y (qM _ rfl (qV (B7 rfl rfl) ?_)));have bh:=Bw.lt;refine qE rfl (EH rfl func198 kQ kQ rfl rfl) (Qx _ bp bv lb bc n n _ _ 0 M (fun s=>[Co d (s:Int)]) Bp Bv ab Bc qO hM.len hn.1 (fun w s hs hq hE=>CQ.mk (first:=#[]) (cap:=#[.pointer (some ⟨bw,0,none⟩),.pointer (some ⟨bd,0,none⟩)]) func200 kQ kQ rfl (UQ w bw bd n d _ s _ (hE.keep Bw) (hE.keep Bd) (aw _ (Chg.ext E hE)) ax (Ew ok hs) ⟨ok.at',hac _ (List.mem_of_getElem? (Ew ok hs))⟩)) (fun s hs _ x hx=>by rw[List.mem_singleton] at hx;rw[hx];exact ⟨ok.at',hac _ (List.mem_of_getElem? (Ew ok hs))⟩)) ?_;rintro _ w19 ⟨rfl,⟨q0,aq,b1,bb,ah,a6,hb0,ai⟩,am⟩;replace Bd:=am.keep qO Bd;replace ab:=am.keep qO ab;replace Bv:=am.keep qO Bv;replace Bz:=am.keep qO Bz;replace Bw:=am.keep qO Bw;replace E:=E.step am (by intro x hx hm;omega);have bg:Refd n c d q0 aq.length:=L0 hM bb (fun s t _ _ _ _ h=>by simpa using h) (fun s t _ _ _ _ h=>by have:=h [] (C0.nil c);simpa[beh] using this);have ap:bw<b1:=qO
 refine AA (AO (Ap (fun nn_ σ W1=>∃(p:List Int) (ad pb:Nat),(∃jj_,σ=BK jj_ [(1,(P6 bd 0)),(4,(P6 bp 0)),(5,(P6 bc 0)),(6,(.func (.func 198) #[] #[(P6 bp 0),(P6 bv 0),(P6 bc 0)])),(7,(P6 bw 0))])∧Chg Ab w0 W1∧Az W1 bd #[(I6 d.start),(.slice aa n ac),(.slice na n nc)] 48∧Az W1 lb ((M.map Value.bool).toArray) 4∧Az W1 bv #[(.slice (some ⟨lb,0,none⟩) n n)] 87∧Az W1 bz ((List.replicate n (I6 0)).toArray) 3∧Az W1 bw #[(.func (.func 199) #[] #[])] 228∧Az W1 bp (#[Value.slice (some ⟨pb,0,none⟩) n n]) 22∧Az W1 bc (#[Value.int .i64 (ad:Int)]) 3∧(Refd n c d p ad)∧(Az W1 pb (p.map (Value.int .i64)).toArray 3)∧(bw<pb)∧nn_=n - ad) (n:=n - aq.length) ?_ ?_))
 ·exact ⟨q0,aq.length,b1,Ac.out ⟨rfl,rfl,rfl,rfl,rfl,trivial⟩,E,Bd,ab,Bv,Bz,Bw,ah,ai,bg,a6,ap,rfl⟩
 ·clear E Bd ab Bv Bz Bw ah ai;rintro _ _ W1 ⟨p,ad,pb,⟨j1,rfl⟩,E,Bd,ab,Bv,Bz,Bw,ah,ai,hR,aj,hpb,rfl⟩;have a3:=aj.lt;obtain ⟨n9,hn9⟩:∃n9,n9=(W1).heap.size:=⟨_,rfl⟩;refine AO (AI ?_);obtain ⟨bi,af⟩:∃Fs:List (FactT (Ab)),Fs=[.eq (I6 (ad:Int)),.eq (.slice (some ⟨pb,0,none⟩) n n),.gen (PW n9) (JB _),.eq (I6 (ad:Int))]:=⟨_,rfl⟩;refine Gt (Ab) 4 2 [20,21,9,8] [[],[],[],[0,2]] bi af rfl mixed qK qK qK ?_ ?_
  ·intro wd X0;refine DagStepsT.cons (fun s' w' X U H=>?_) ?_
   ·exact AR (AE (U 5 rfl) Ai ((Chg.keep X (fun f=>f) (X0.keep ai)).cell rfl)) (Chg.refl _ _) rfl
   refine DagStepsT.cons (fun s' w' X U H=>?_) ?_
   ·exact AR (AE (U 4 rfl) Ax ((Chg.keep X (fun f=>f) (X0.keep ah)).cell rfl)) (Chg.refl _ _) rfl
   refine DagStepsT.cons (fun s' w' X U H=>?_) ?_
   ·exact QC (by have:=X0.size;have:=X.size;omega)
   refine DagStepsT.cons (fun s' w' X U H=>?_) ?_
   ·have a8:s' 20=(.int .i64 ((ad:Nat):Int)):=H 0 rfl 20 (.eq (.int .i64 ((ad:Nat):Int))) rfl (by rw[af];rfl);exact AR (El a8) (Chg.refl _ _) rfl
   exact DagStepsT.nil
  ·intro s' wd2 w2 X0 X2 U H;have a4:s' 21=(.slice (some ⟨pb,0,none⟩) n n):=H 1 21 (.eq (.slice (some ⟨pb,0,none⟩) n n)) rfl (by rw[af];rfl);obtain ⟨b9,e9,g9,B9⟩:=(show (.gen (PW n9) (JB _):FactT (Ab)).In (s' 9) w2 from H 2 9 (.gen (PW n9) (JB _)) rfl (by rw[af];rfl));have e8:s' 8=(.int .i64 ((ad:Nat):Int)):=H 3 8 (.eq (.int .i64 ((ad:Nat):Int))) rfl (by rw[af];rfl);obtain ⟨j2,rfl⟩:=Ac.out (σ:=s') (l:=[(1,(.pointer (some ⟨bd,0,none⟩))),(4,(.pointer (some ⟨bp,0,none⟩))),(5,(.pointer (some ⟨bc,0,none⟩))),(6,(.func (.func 198) #[] #[(.pointer (some ⟨bp,0,none⟩)),(.pointer (some ⟨bv,0,none⟩)),(.pointer (some ⟨bc,0,none⟩))])),(7,(.pointer (some ⟨bw,0,none⟩))),(21,(.slice (some ⟨pb,0,none⟩) n n)),(9,(.pointer (some ⟨b9,0,none⟩))),(8,(.int .i64 ((ad:Nat):Int)))]) ⟨U 1 rfl,U 4 rfl,U 5 rfl,U 6 rfl,U 7 rfl,a4,e9,e8,trivial⟩;clear U H;replace Bd:=Chg.keep X2 (fun f=>f) (X0.keep Bd);replace ab:=Chg.keep X2 (fun f=>f) (X0.keep ab);replace Bv:=Chg.keep X2 (fun f=>f) (X0.keep Bv);replace Bz:=Chg.keep X2 (fun f=>f) (X0.keep Bz);replace Bw:=Chg.keep X2 (fun f=>f) (X0.keep Bw);replace ah:=Chg.keep X2 (fun f=>f) (X0.keep ah);replace ai:=Chg.keep X2 (fun f=>f) (X0.keep ai);replace aj:=Chg.keep X2 (fun f=>f) (X0.keep aj);replace E:=(E.ext X0).step X2 (fun _ _ f=>f.elim);refine A9 (b:=b9) (o:=0) (c':=#[(.slice (some ⟨pb,0,none⟩) n n)]) (v:=(.slice (some ⟨pb,0,none⟩) n n)) rfl rfl rfl Ay B9 qP rfl ?_;intro w3 S3;replace Bd:=S3.keep qO Bd;replace ab:=S3.keep qO ab;replace Bv:=S3.keep qO Bv;replace Bz:=S3.keep qO Bz;replace Bw:=S3.keep qO Bw;replace ah:=S3.keep qO ah;replace ai:=S3.keep qO ai;replace aj:=S3.keep qO aj;replace E:=S3.step E qQ;replace B9:=S3.blk;refine AA (AB (Y (qM _ rfl (qV (B7 rfl rfl) ?_))));have az:=Bw.lt;refine qE rfl (EH rfl func198 kQ kQ rfl rfl) (Qx _ bp bv lb bc n n _ _ (ad:Int) M (DS c d p) ah Bv ab ai qO hM.len hn.1 (fun w s hs hq hE=>CQ.mk (first:=#[]) (cap:=#[.pointer (some ⟨bw,0,none⟩),.pointer (some ⟨b9,0,none⟩),.pointer (some ⟨bd,0,none⟩)]) func201 kQ kQ rfl (UP w bw b9 bd n c pb n d _ p s ok (hE.keep Bw) (hE.keep B9) (hE.keep Bd) (aw _ (Chg.ext E hE)) (by have:=Ev (hE.keep aj) hR.len;exact this) hR.len hR.rng hs hn)) (fun s hs _=>Qt hR hn.1 s)) ?_;rintro _ w29 ⟨rfl,⟨q1,ar,b2,au,a2,a1,hb1,av⟩,ak⟩;replace Bd:=ak.keep qO Bd;replace ab:=ak.keep qO ab;replace Bv:=ak.keep qO Bv;replace Bz:=ak.keep qO Bz;replace Bw:=ak.keep qO Bw;replace aj:=ak.keep qO aj;replace B9:=ak.keep qO B9;replace E:=E.step ak (by intro x hx hm;omega);have an:=hR.next ok hM au;have a7:=hR.finer hM au;have ay:=Refd.cnt_mono hR an a7;have a5:=an.cnt_le;refine AA (Y (qV (AE rfl Ai (av.cell rfl)) (qM _ rfl (qV (BF rfl rfl) (AA (qC rfl (fun ao=>?_) (fun ao=>?_)))))))
   ·have ba:ar.length=ad:=qO
    refine Y (qV (AE rfl Ax (a2.cell rfl)) (qA _ rfl (AA (AS (A1 (AU (A1 (AY results168 (v:=(.slice (some ⟨b2,0,none⟩) n n)) rfl ?_))))))));rw[ba] at an;exact ⟨⟨q1,b2,Refd.final ok hR an (Og hM au),rfl,qO,a1⟩,E⟩
   ·refine AM (AN (AB ?_));exact ⟨n - ar.length,qO,q1,ar.length,b2,Ac.out ⟨rfl,rfl,rfl,rfl,rfl,trivial⟩,E,Bd,ab,Bv,Bz,Bw,a2,av,an,a1,qO,rfl⟩
end Go.Proofs
namespace Go.Proofs
open Go Go.Eng Go.Sort
def Li (d:Dfa) (p:List Int) (st:List Int) (s:Int) (x:Nat) (y:Int):Prop:=(y = -1∧CH p (Bu d s x)<0)∨∃(j:Nat) (t:Int),y=((j:Nat):Int)∧st[j]?=some t∧CH p t=CH p (Bu d s x)∧0<=CH p t
theorem Li.mono {d:Dfa} {p st:List Int} {s y:Int} {x:Nat} (h:Li d p st s x y) (u:List Int):Li d p (st++u) s x y:=by
 rcases h with h|⟨j,t,b,a,c⟩
 .exact .inl h
 .exact .inr ⟨j,t,b,by rw[List.getElem?_append_left (AG a)];exact a,c⟩
structure CanP (n c:Nat) (d:Dfa) (p:List Int) (rows:List (List Int)) (row st:List Int):Prop where
 s0:st[0]?=some d.start
 sl:∀s∈st,0<=s∧s<n∧0<=CH p s
 inj:∀(i j:Nat) s t,st[i]?=some s->st[j]?=some t->CH p s=CH p t->i=j
 len:∀r∈rows,r.length=c
 ent:∀(i x:Nat) r y s,rows[i]?=some r->r[x]?=some y->st[i]?=some s->Li d p st s x y
 cur:∀(x:Nat) y s,row[x]?=some y->st[rows.length]?=some s->Li d p st s x y
 ord:∀(k:Nat) y,(rows.flatten++row)[k]?=some y->y<=FZ ((rows.flatten++row).take k)+1
 mx:FZ (rows.flatten++row)+1=st.length
 rch:∀i:Nat,i<rows.length->((i:Nat):Int)<=FZ (rows.take i).flatten
theorem CanP.start {n c:Nat} {d:Dfa} {p:List Int} (hs:0<=d.start∧d.start<n) (e:0<=CH p d.start):CanP n c d p [] [] [d.start]:=by
 refine ⟨O,λs h=>by rw[List.mem_singleton] at h;subst h;exact ⟨hs.1,hs.2,e⟩,λi j s t g f _=>?_,λr h=>absurd h List.not_mem_nil,λi x r y s h=>by simp at h,λx y s h=>by simp at h,λk y h=>by simp at h,by simp[FZ],λi h=>by simp at h⟩;have a:=AG g;have b:=AG f;simp at a b;omega
theorem MG {F:List Int} {y:Int} (h:∀(k:Nat) z,F[k]?=some z->z<=FZ (F.take k)+1) (b:y<=FZ F+1):∀(k:Nat) z,(F++[y])[k]?=some z->z<=FZ ((F++[y]).take k)+1:=by
 intro k z d;rcases BI d with a|⟨a,c⟩
 .rw[List.take_append_of_le_length (by have:=AG a;omega)];exact h k z a
 .rw[a,c,List.take_append_of_le_length (Nat.le_refl _),List.take_length];exact b
theorem CanP.add {n c:Nat} {d:Dfa} {p:List Int} {rows:List (List Int)} {row st:List Int} {s y:Int} (h:CanP n c d p rows row st) (hs:st[rows.length]?=some s) (f:Li d p st s row.length y):CanP n c d p rows (row++[y]) st:=by
 have hy:y<=FZ (rows.flatten++row):=by
  have hm:=h.mx;have hl:=List.length_pos_of_mem (List.mem_of_getElem? h.s0);rcases f with ⟨a,_⟩|⟨j,t,a,e,_⟩
  .omega
  .have:=AG e;omega
 refine ⟨h.s0,h.sl,h.inj,h.len,h.ent,λx z q g b=>?_,?_,?_,h.rch⟩
 .rcases BI g with a|⟨a,e⟩
  .exact h.cur x z q a b
  .rw[hs] at b;cases b;rw[a,e];exact f
 .rw[<-List.append_assoc];exact MG h.ord qO
 .rw[<-List.append_assoc,HQ];have:=h.mx;omega
theorem CanP.new {n c:Nat} {d:Dfa} {p:List Int} {rows:List (List Int)} {row st:List Int} {s:Int} (h:CanP n c d p rows row st) (hs:st[rows.length]?=some s) (v:0<=Bu d s row.length∧Bu d s row.length<n) (u:0<=CH p (Bu d s row.length)) (b:∀t∈st,CH p t≠CH p (Bu d s row.length)) :
 CanP n c d p rows (row++[((st.length:Nat):Int)]) (st++[Bu d s row.length]):=by
 have g:=AG hs;have B:Li d p (st++[Bu d s row.length]) s row.length ((st.length:Nat):Int):=.inr ⟨st.length,_,O,by rw[List.getElem?_append_right (Nat.le_refl _),Nat.sub_self];rfl,O,u⟩;refine ⟨by rw[List.getElem?_append_left (AG h.s0)];exact h.s0,λq e=>?_,λi j q r hi w l=>?_,h.len,λi x r y q o C e=>?_,λx z q A e=>?_,?_,?_,h.rch⟩
 .rcases List.mem_append.1 e with a|a
  .exact h.sl q a
  .rw[List.mem_singleton] at a;subst a;exact ⟨v.1,v.2,u⟩
 .rcases BI hi with a|⟨a,f⟩<;>rcases BI w with m|⟨m,D⟩
  .exact h.inj i j q r a m l
  .exact absurd (by rw[l,D]) (b q (List.mem_of_getElem? a))
  .exact absurd (by rw[<-l,f]) (b r (List.mem_of_getElem? m))
  .omega
 .rcases BI e with a|⟨a,_⟩
  .exact (h.ent i x r y q o C a).mono _
  .have:=AG o;omega
 .have k:q=s:=by
   rw[List.getElem?_append_left g,hs] at e;exact (Option.some.inj e).symm
  subst k;rcases BI A with a|⟨a,f⟩
  .exact (h.cur x z q a hs).mono _
  .rw[a,f];exact B
 .rw[<-List.append_assoc];exact MG h.ord (by have:=h.mx;omega)
 .rw[<-List.append_assoc,HQ];have:=h.mx;simp;omega
theorem CanP.row {n c:Nat} {d:Dfa} {p:List Int} {rows:List (List Int)} {row st:List Int} (h:CanP n c d p rows row st) (k:row.length=c) (j:((rows.length:Nat):Int)<=FZ rows.flatten):CanP n c d p (rows++[row]) [] st:=by
 have g:(rows++[row]).flatten++[]=rows.flatten++row:=qP
 refine ⟨h.s0,h.sl,h.inj,λr m=>?_,λi x r y s a f e=>?_,λx y s a=>by simp at a,by rw[g];exact h.ord,by rw[g];exact h.mx,λi hi=>?_⟩
 .rcases List.mem_append.1 m with a|a
  .exact h.len r a
  .rw[List.mem_singleton] at a;rw[a];exact k
 .rcases BI a with b|⟨b,l⟩
  .exact h.ent i x r y s b f e
  .subst l;rw[b] at e;exact h.cur x y s f e
 .simp at hi;rcases Nat.lt_or_ge i rows.length with a|a
  .rw[List.take_append_of_le_length qO];exact h.rch i a
  .have:i=rows.length:=qO
   rw[this,List.take_append_of_le_length (Nat.le_refl _),List.take_length];exact j
theorem JV {c:Nat}:∀{L:List (List Int)} {i:Nat},(∀r∈L,r.length=c)->i<=L.length->L.flatten.take (i*c)=(L.take i).flatten
 | [],i,_,_=>qP
 | q::L,0,_,_=>qP
 | q::L,i+1,h,hi=>by
  have a:=h q List.mem_cons_self;rw[List.flatten_cons,List.take_succ_cons,List.flatten_cons,show (i+1)*c=q.length+i*c by rw[a,Nat.add_mul];omega,List.take_append,Nat.add_sub_cancel_left,JV (λr b=>h r (List.mem_cons_of_mem _ b)) (by simpa using hi),List.take_of_length_le qO]
theorem CanP.done {n c:Nat} {d:Dfa} {p:List Int} {rows:List (List Int)} {st:List Int} (h:CanP n c d p rows [] st) (ok:OkD n c d) (w:PartsOf n c d p) (B:rows.length=st.length):Cj c (beh d d.start) ⟨0,st.map (Co d),rows⟩:=by
 have A:=h.mx;rw[List.append_nil] at A;have hm0:=List.length_pos_of_mem (List.mem_of_getElem? h.s0);have z:∀i:Nat,i<rows.length->∃s,st[i]?=some s:=λi hi=>AK qO;have g:∀r∈rows,r.length=c∧∀y∈r,-1<=y∧y<st.length:=λr f=>by
  refine ⟨h.len r f,λy u=>?_⟩;obtain ⟨i,hi⟩:=List.getElem?_of_mem f;obtain ⟨x,v⟩:=List.getElem?_of_mem u;obtain ⟨s,hs⟩:=z i (AG hi);rcases h.ent i x r y s hi v hs with ⟨e,_⟩|⟨j,t,e,o,_⟩
  .omega
  .have:=AG o;omega
 have C:OkD st.length c ⟨0,st.map (Co d),rows⟩:=⟨B,qP,⟨Int.le_refl _,by show (0:Int)<_;omega⟩,λx v=>by
  obtain ⟨s,_,e⟩:=List.mem_map.1 v;rw[<-e];exact ok.at',g⟩
 have I:Bfs st.length c ⟨0,st.map (Co d),rows⟩:=by
  refine ⟨C,O,λk y E=>?_,λi hi=>?_,?_⟩
  .have:=h.ord k y (by rw[List.append_nil];exact E)
   rwa [List.append_nil] at this
  .show _<=FZ (rows.flatten.take (i*c));rw[JV h.len qO];exact h.rch i qO
  .show FZ rows.flatten=_;omega
 refine LW ok I O h.s0 (λi j s t hi D G=>?_) (λi s hs=>?_) λi x s hs v=>?_
 .have a:=h.sl s (List.mem_of_getElem? hi);have b:=h.sl t (List.mem_of_getElem? D);exact h.inj i j s t hi D ((w.iff s t ⟨qO,a.2.1⟩ ⟨qO,b.2.1⟩).2 G)
 .exact Cn (by rw[List.getElem?_map,hs];rfl)
 .obtain ⟨r,f⟩:=AK (l:=rows) (i:=i) (by have:=AG hs;omega);have hrl:=h.len r (List.mem_of_getElem? f);obtain ⟨y,u⟩:=AK (l:=r) (i:=x) qO;have m:Bu ⟨0,st.map (Co d),rows⟩ ((i:Nat):Int) x=y:=DQ f u;have q:=ok.to (s:=s) (x:=x);rcases h.ent i x r y s f u hs with ⟨e,o⟩|⟨j,t,e,o,H,F⟩
  .left;refine ⟨by rw[m];exact e,λB=>?_⟩;have:=(w.live _ q).1.2 B;omega
  .right;have b:=h.sl t (List.mem_of_getElem? o);exact ⟨j,t,by rw[m];exact e,o,(w.iff t _ ⟨qO,b.2.1⟩ q).1 H,(w.live t ⟨qO,b.2.1⟩).1.1 F⟩
theorem Jl {n c:Nat} {d:Dfa} (ok:OkD n c d) (hd:¬BG c d d.start):Cj c (beh d d.start) ⟨0,[-1],[List.replicate c (-1)]⟩:=by
 have a:∀(s:Int) (x:Nat),Bu ⟨0,[-1],[List.replicate c (-1)]⟩ s x = -1:=λs x=>by
  unfold Bu;split
  .rfl
  .rw[List.getD_eq_getElem?_getD,List.getD_eq_getElem?_getD];cases h:([List.replicate c (-1:Int)])[s.toNat]? with
   | none=>simp
   | some r=>
    have:=List.mem_of_getElem? h;rw[List.mem_singleton] at this;subst this;simp only[Option.getD_some,List.getElem?_replicate];split<;>rfl
 have j:FZ ([List.replicate c (-1:Int)]).flatten=0:=by
  simp only[List.flatten_cons,List.flatten_nil,List.append_nil]
  induction c with
  | zero=>rfl
  | succ c ih=>
   have e:∀k,FZ (List.replicate k (-1:Int))=0:=λk=>by
    induction k with
    | zero=>rfl
    | succ k g=>rw[List.replicate_succ',HQ,g];decide
   exact e _
 have m:OkD 1 c ⟨0,[-1],[List.replicate c (-1)]⟩:=⟨O,O,⟨Int.le_refl _,by show (0:Int)<1;decide⟩,λx f=>by rw[List.mem_singleton] at f;rw[f];exact Int.le_refl _,λr o=>by
  rw[List.mem_singleton] at o;subst o;exact ⟨qP,λx f=>by rw[(List.mem_replicate.1 f).2];decide⟩⟩
 have b:∀(w:List Nat),beh ⟨0,[-1],[List.replicate c (-1)]⟩ 0 w = -1:=λw=>by
  cases w with
  | nil=>rfl
  | cons x w=>simp only[beh];rw[a];exact C6 qD
 refine ⟨1,⟨m,O,λk x u=>?_,λi hi=>?_,by rw[j];rfl⟩,λw p=>by rw[b,ok.dead hd p],λs t l q h3 h4 _=>qO,λs x _ h=>by rw[a] at h;exact absurd h qD⟩
 .have l:=List.mem_of_getElem? u;simp at l;have:=Q5 ((([List.replicate c (-1:Int)]).flatten).take k);have q:x = -1:=l.2;show x<=FZ ((([List.replicate c (-1:Int)]).flatten).take k)+1;omega
 .have:i=0:=qO
  rw[this];exact Q5 _
def Cc:List Int->Nat->List (Int×Int)
  | [],_=>[]
  | m::ks,n=>(m,((n:Nat):Int))::Cc ks (n+1)
theorem JM:∀(a:List Int) (m:Int) (n:Nat),Cc (a++[m]) n=Cc a n++[(m,(((n+a.length:Nat):Nat):Int))]
 | [],m,n=>rfl
 | x::a,m,n=>by
  show (x,_)::Cc (a++[m]) (n+1)=(x,_)::(Cc a (n+1)++_);rw[JM a m (n+1),List.length_cons,show n+1+a.length=n+(a.length+1) by omega]
theorem Kc:∀{a:List Int} {n:Nat} {q:Int×Int},q∈Cc a n->∃(j:Nat) (m:Int),a[j]?=some m∧q=(m,(((n+j:Nat):Nat):Int))
 | [],_,_,h=>by cases h
 | x::a,n,q,h=>by
  rcases List.mem_cons.1 h with h|h
  .exact ⟨0,x,O,h⟩
  .obtain ⟨j,m,b,c⟩:=Kc h;exact ⟨j+1,m,b,by rw[c];congr 2;omega⟩
theorem Kd:∀{a:List Int} {n:Nat} {m:Int},m∈a->m∈(Cc a n).map (·.1)
 | x::a,n,m,h=>by
  rcases List.mem_cons.1 h with rfl|h
  .exact List.mem_cons_self
  .exact List.mem_cons_of_mem _ (Kd (n:=n+1) h)
theorem Pg {b:List Int} {m v:Int} (h:A3 (Cc b 0) m=some v):∃j:Nat,v=((j:Nat):Int)∧b[j]?=some m:=by
 obtain ⟨j,m',c,a⟩:=Kc (EI h);simp only[Prod.mk.injEq,Nat.zero_add] at a;exact ⟨j,a.2,by rw[c,a.1]⟩
theorem NQ {a:List Int} {m:Int} (h:A3 (Cc a 0) m=none):m∉a∧D8 (Cc a 0) m ((a.length:Nat):Int)=Cc (a++[m]) 0:=by
 refine ⟨λb=>?_,?_⟩
 .have:=Cm.2 (Kd (n:=0) b);rw[h] at this;cases this
 .rw[Dm _ h,JM,Nat.zero_add]
end Go.Proofs
namespace Go.Proofs
open Go Go.Eng Go.Sort
set_option maxRecDepth 100000
theorem Iy {P:Program} {σ:B0} {w:World} {dst:Option Tmp} {ty:TypeId} {pos:String} {af:Array Edge} {m:Option (Nat×Bool)} {t e:TypeId} {x y:Operand} {g o h l i d c k:Nat} {a c':Array Value} {T:TypeId} {cs:List Value} (q:P.underlying t=some (.slice e)) (hs:DD P e 1) (n:ev σ x=.slice (some ⟨g,o,none⟩) h l) (A:ev σ y=.slice (some ⟨i,d,none⟩) c k)
 (p:Az w g a T) (f:BA w i d cs) (u:cs.length=Nat.min c h) (b:o+cs.length<=a.size) (z:∀v∈cs,v.oneCell'=true) (s:(a.toList.take o++cs++a.toList.drop (o+cs.length)).toArray=c') :
 (execOp (ev σ) ⟨dst,.call ⟨.builtin .copy,#[x,y],#[t,t]⟩,ty,pos,af,m⟩).run P w=.ok (.value (.int .i64 ((cs.length:Nat):Int))) (w.setRow g c'):=by
 subst s;have r:=run_copy_row (P:=P) w t t ty e g o h l ⟨i,d,none⟩ c k a T cs q hs p u (λj v B=>by rw[Addr.add_lit];exact f j v B) b z;simp[execOp,resolve,invoke,builtin,n,A,r,goInt]
theorem T9 {P:Program} {N:Nat} {Q:DN} {σ:B0} {w:World} {K:B0->World->Prop} {ops:Array Oper} {rest:List Oper} {d:Nat} {ty:TypeId} {pos:String} {af:Array Edge} {t e:TypeId} {x y:Operand} {g o j A l h f m:Nat} {a c':Array Value} {T:TypeId} {cs:List Value} (q:d<N) (p:P.underlying t=some (.slice e)) (hs:DD P e 1) (n:ev σ x=.slice (some ⟨g,o,none⟩) j A) (z:ev σ y=.slice (some ⟨l,h,none⟩) f m)
 (i:Az w g a T) (c:BA w l h cs) (s:cs.length=Nat.min f j) (b:o+cs.length<=a.size) (u:∀v∈cs,v.oneCell'=true) (r:(a.toList.take o++cs++a.toList.drop (o+cs.length)).toArray=c')
 (k:∀w',Put w w' g c' T->DL P N ops K Q rest (Ef σ d (.int .i64 ((cs.length:Nat):Int))) w'):DL P N ops K Q (⟨some d,.call ⟨.builtin .copy,#[x,y],#[t,t]⟩,ty,pos,af,none⟩::rest) σ w:=
 BV O O q (Iy p hs n z i c s b u r) (k _ (Put.of_setRow i _))
theorem OK {P:Program} {N:Nat} {σ:B0} {w:World} {M:Nat->Prop} {R:EK} {dst:Option Tmp} {ty:TypeId} {pos:String} {af:Array Edge} {p:Option (Nat×Bool)} {t e:TypeId} {x y:Operand} {g o j D l f d q:Nat} {a c':Array Value} {T:TypeId} {cs:List Value} (s:P.underlying t=some (.slice e)) (hs:DD P e 1) (r:ev σ x=.slice (some ⟨g,o,none⟩) j D) (C:ev σ y=.slice (some ⟨l,f,none⟩) d q)
 (i:Az w g a T) (c:BA w l f cs) (A:cs.length=Nat.min d j) (b:o+cs.length<=a.size) (B:∀v∈cs,v.oneCell'=true) (u:(a.toList.take o++cs++a.toList.drop (o+cs.length)).toArray=c') (n:M g)
 (m:∀w',Az w' g c' T->R (.int .i64 ((cs.length:Nat):Int)) w'):CP M P N ⟨dst,.call ⟨.builtin .copy,#[x,y],#[t,t]⟩,ty,pos,af,p⟩ R σ w:=by
 have k:=Put.of_setRow i c';exact AR (Iy s hs r C i c A b B u) (k.chg.mono λz _ h=>by subst h;exact n) (m _ k.blk)
theorem Oe (m:Nat) (h:m<18446744073709551616):(BitVec.ofInt 64 (m:Int)).toNat=m:=by
 rw[BitVec.toNat_ofInt];omega
theorem Ry {P:Program} {w:World} (m:Nat) (hm:m<4294967296):(Op.intBits .and .u64 (m:Int) 4294967295).run P w=.ok (.int .u64 (m:Int)) w:=by
 have a:m &&& 4294967295=m:=by
  have:=Nat.and_two_pow_sub_one_eq_mod m 32;rw[show (2:Nat) ^ 32 - 1=4294967295 by decide] at this;rw[this];omega
 show Result.ok (Value.int .u64 (IntKind.u64.wrap ((BitVec.ofInt 64 (m:Int) &&& BitVec.ofInt 64 (((4294967295:Nat):Nat):Int):BitVec 64).toNat:Int))) w=_;rw[BitVec.toNat_and,Oe m qO,Oe _ qD,a,QH qO]
theorem Lv {n:Int} (h:0<=n∧n<4294967296):n.fdiv (2 ^ min (Int.toNat 32) IntKind.u64.bits)=0:=by
 show n.fdiv 4294967296=0;rw[Int.fdiv_eq_ediv_of_nonneg n qD];omega
theorem Sr (b:World) (m n:Nat) (e:m<=60000) (d:n<=60000):CB prog 196 #[.int .u64 (m:Int),.int .u64 (n:Int)] b λr w=>r=.tuple #[.int .u64 0,.int .u64 ((m*n:Nat):Int)]∧Al b w:=by
 have hmn:m*n<=60000*60000:=Nat.mul_le_mul e d;have a:((m:Int)*(n:Int))=((m*n:Nat):Int):=qP
 refine qR func196 O ntmps196 O (λE=>(Y (qA _ O (qA _ O (AA (Y (qM _ O (qV (I7 (v:=.int .u64 (m:Int)) O O qP (Ry m qO)) (qA _ O (AA (Y (qM _ O (qV (HL (c:=0) O O qO (Lv qO)) (qA _ O (AA (Y (qM _ O (qV (I7 (v:=.int .u64 (n:Int)) O O qP (Ry n qO)) ?_))))))))))))))))));refine qA _ O (AA (Y (qM _ O (qV (HL (c:=0) O O qO (Lv qO)) (qA _ O (AA (Y (qM _ O (qM _ O (qV (L2 (c:=((m*n:Nat):Int)) O O (by rw[a];exact QH qO)) (qA _ O (AA (Y (qM _ O (qM _ O (qV (L2 (c:=0) O O (by rw[Int.zero_mul];rfl)) (qM _ O ?_)))))))))))))))));refine qV (HL (c:=0) O O qO (Lv qO)) (qV (Ar (c:=0) O O (by rfl)) (qA _ O (AA (Y (qM _ O (qV (I7 (v:=.int .u64 0) O O qP (Ry 0 qD)) (qA _ O (AA (Y (qM _ O (qV (HL (c:=0) O O qO (Lv qO)) (qA _ O (AA (Y (qM _ O (qM _ O (qM _ O ?_)))))))))))))))));refine qV (L2 (c:=0) O O (by rw[Int.mul_zero];rfl)) (qV (Ar (c:=0) O O (by rfl)) (qA _ O (AA (Y (qM _ O (qM _ O (qV (L2 (c:=0) O O (by rfl)) (qM _ O (qV (Ar (c:=0) O O (by rfl)) (qM _ O (qV (HL (c:=0) O O qO (Lv qO)) (qV (Ar (c:=0) O O (by rfl)) (qA _ O (AA (Y (qM _ O ?_))))))))))))))));refine qM _ O (qV (L2 (c:=((m*n:Nat):Int)) O O (by rw[a];exact QH qO)) (qA _ O (AA (AS (B_ results196 (v:=(.int .u64 0)) (v':=(.int .u64 ((m*n:Nat):Int))) O O ?_)))));exact ⟨O,E⟩
theorem U' (a:World) (m n:Nat) (c:m<=60000) (d:n<=60000):CB prog 167 #[.int .u64 (m:Int),.int .u64 (n:Int)] a λr w=>r=.tuple #[.int .u64 0,.int .u64 ((m*n:Nat):Int)]∧Al a w:=by
 refine qR func167 O ntmps167 O (λE=>(Y (qA _ O (qA _ O (AA (AI (AW O (AM (AB (Y (qM _ O (qM _ O (qE O (AV func196 kQ kQ O) (Sr _ m n c d) ?_)))))))))))));rintro _ w9 ⟨rfl,b⟩;replace E:=E.ext b;refine qM _ O (qV (Aj O O) (qV (Aj O O) (qA _ O (qA _ O (AA (Y (qM _ O (qM _ O (qA _ O (qA _ O (AA (AS (B_ results167 (v:=(.int .u64 0)) (v':=(.int .u64 ((m*n:Nat):Int))) O O ?_)))))))))))));exact ⟨O,E⟩
def EU (y:Int) (m n:Nat):List Value:=(List.replicate m y++List.replicate (n - m) 0).map (Value.int .i64)
theorem KG (y:Int) {m n k:Nat} (h:k<=m):(EU y m n).take k=List.replicate k (Value.int .i64 y):=by
 simp only[EU,List.map_append,List.map_replicate];rw[List.take_append_of_le_length (by simp;omega),List.take_replicate,Nat.min_eq_left h]
theorem KH (y:Int) {m n k:Nat} (h:m+k<=n):((EU y m n).toArray.toList.take m++List.replicate k (Value.int .i64 y)++(EU y m n).toArray.toList.drop (m+k)).toArray=(EU y (m+k) n).toArray:=by
 have a:=KG y (m:=m) (n:=n) (k:=m) (Nat.le_refl _);have b:(EU y m n).drop (m+k)=List.replicate (n - (m+k)) (Value.int .i64 0):=by
  simp only[EU,List.map_append,List.map_replicate];rw[List.drop_append,List.drop_of_length_le qP,List.length_replicate,List.drop_replicate,List.nil_append];congr 1;omega
 show ((EU y m n).take m++List.replicate k (Value.int .i64 y)++(EU y m n).drop (m+k)).toArray=_;rw[a,b];simp only[EU,List.map_append,List.map_replicate,List.replicate_append_replicate]
theorem I0 (w0:World) (b sc n:Nat) (y:Int) (T:TypeId) (hB:Az w0 b #[.int .i64 y] T) (h1:1≤n) (hn:n≤60000) :
  CB prog 125 #[.slice (some ⟨b,0,none⟩) 1 sc,.int .i64 ((n:Nat):Int)] w0 fun r w=>(∃g,r=.slice (some ⟨g,0,none⟩) n n∧w0.heap.size≤g∧Az w g ((List.replicate n y).map (Value.int .i64)).toArray 3)∧Al w0 w:=by
 have hbl:=hB.lt;refine qR func125 rfl ntmps125 rfl (fun E=>(Y (qA _ rfl (AA (AI (Y (qM _ rfl (qV (A0 rfl rfl) (AA ?_)))))))));have ag:(decide ((((n:Nat):Int):Int)<0))=false:=decide_eq_false qO;refine AW (BH ag) (AM (AB (Y (qM _ rfl (qV (AL underlying22 rfl) (qV (Dl (c:=((1:Nat):Int)) ⟨_,underlying3⟩ underlying141 rfl (rfl)) (qM _ rfl (qV (Dl (c:=(n:Int)) ⟨_,underlying3⟩ underlying141 rfl (QH qO)) (qE rfl (AV func167 kQ kQ rfl) (U' _ 1 n qD hn) ?_)))))))));rintro _ w9 ⟨rfl,X9⟩;replace hB:=X9.keep hB;replace E:=E.ext X9;refine qM _ rfl (qV (Aj rfl rfl) (qV (Aj rfl rfl) (qA _ rfl (qA _ rfl (AA (AI (Y (qM _ rfl (qV (CU rfl rfl) (qM _ rfl (AD rfl rfl qD rfl (qM _ rfl (AD rfl rfl qD rfl ?_)))))))))))));obtain ⟨e2,ae⟩:∃e,(decide ((9223372036854775807:Int)<((1*n:Nat):Int)))=e:=⟨_,rfl⟩;refine qV ((CU rfl rfl).trans (by rw[ae];try rfl)) (qV (Ag rfl rfl) (AA ?_));subst ae;have am:((decide ((9223372036854775807:Int)<((1*n:Nat):Int))))=false:=decide_eq_false qO;refine AW (BH am) (AM (AB (Y (qM _ rfl (qV (Dl (c:=(n:Int)) ⟨_,underlying141⟩ underlying3 rfl ((A5 qO).trans qO)) (Dx (n:=n) (z:=(I6 0)) (bytes:=8) qD underlying22 Ad Dj BY rfl rfl rfl qO qO ?_))))));intro bz wz Nz;have Fz:=Nz.ge E;have Oz_b:=Nz.lt hB;replace hB:=Nz.keep hB;replace E:=E.ext Nz.ext;have Bz:=Nz.blk;refine qA _ rfl (AA (Y (qM _ rfl (qM _ rfl ?_))));rw[show List.replicate n (Value.int .i64 0)=EU y 0 n by simp[EU]] at Bz;refine T9 (g:=bz) (o:=0) (cs:=[Value.int .i64 y]) (c':=(EU y 1 n).toArray) qD underlying22 Ad rfl rfl Bz (hB.cells rfl) (by show 1=Nat.min 1 n;simp only[Nat.min_def];split<;>omega) (by simp[EU];omega) qS (KH y (m:=0) (k:=1) qO) ?_;intro w4 S4;replace hB:=S4.keep qO hB;replace E:=S4.step E qQ;replace Bz:=S4.blk;refine qA _ rfl (AA (AI (AO (Ap (fun nn_ σ W5=>∃(m:Nat),(∃jj_,σ=BK jj_ [(7,(.slice (some ⟨bz,0,none⟩) n n)),(8,(I6 (m:Int)))])∧Chg Ab w0 W5∧Az W5 b #[(I6 y)] T∧Az W5 bz ((EU y m n).toArray) 3∧(1≤m∧m≤n)∧nn_=n - m) (n:=n - 1) ?_ ?_))))
 ·exact ⟨1,Ac.out ⟨rfl,rfl,trivial⟩,E,hB,Bz,⟨Nat.le_refl _,h1⟩,rfl⟩
 ·clear E hB Bz;rintro _ _ W5 ⟨m,⟨j5,rfl⟩,E,hB,Bz,hm,rfl⟩;refine AI (Y (qM _ rfl (qM _ rfl (qV (AL underlying22 rfl) (qV (A0 rfl rfl) (AA (qC rfl (fun ap=>?_) (fun ap=>?_))))))))
  ·obtain ⟨k,hk⟩:∃k,k=Nat.min m (n - m):=⟨_,rfl⟩;have ad:1≤k∧k≤m∧m+k≤n:=by rw[hk];simp only[Nat.min_def];split<;>omega
   refine AM (AB (AO ?_));obtain ⟨au,aa⟩:∃Fs:List (FactT ((fun q=>q=bz))),Fs=[.eq (I6 (m:Int)),.eq (.slice (some ⟨bz,0,none⟩) n n),.eq (I6 (m:Int)),.eq (.slice (some ⟨bz,m,none⟩) (n - m) (n - m)),.eq (.slice (some ⟨bz,0,none⟩) n n),.eq (I6 (m:Int)),.eq (.slice (some ⟨bz,0,none⟩) m n),.own (fun v w=>v=.int .i64 (k:Int)∧Az w bz (EU y (m+k) n).toArray 3) (fun _ _ _ e h=>⟨h.1,Al.keep e h.2⟩),.eq (I6 ((m:Int)+(k:Int)))]:=⟨_,rfl⟩;refine Gt ((fun q=>q=bz)) 9 7 [38,39,40,41,42,43,44,45,46] [[],[],[],[1,2],[],[],[4,5],[3,6],[0,7]] au aa rfl mixed qK qK qK ?_ ?_
   ·intro wd X0;refine DagStepsT.cons (fun s' w' X U H=>?_) ?_
    ·exact AR (AZ (U 8 rfl)) (Chg.refl _ _) rfl
    refine DagStepsT.cons (fun s' w' X U H=>?_) ?_
    ·exact AR (AZ (U 7 rfl)) (Chg.refl _ _) rfl
    refine DagStepsT.cons (fun s' w' X U H=>?_) ?_
    ·exact AR (AZ (U 8 rfl)) (Chg.refl _ _) rfl
    refine DagStepsT.cons (fun s' w' X U H=>?_) ?_
    ·have af:s' 39=(.slice (some ⟨bz,0,none⟩) n n):=H 1 rfl 39 (.eq (.slice (some ⟨bz,0,none⟩) n n)) rfl (by rw[aa];rfl);have ao:s' 40=(.int .i64 ((m:Nat):Int)):=H 2 rfl 40 (.eq (.int .i64 ((m:Nat):Int))) rfl (by rw[aa];rfl);exact AR (PS (lo:=m) underlying22 Ad af ao rfl qO (by rw[if_neg qO];simp only[Option.map_some,Addr.add_lit,Nat.mul_one,Nat.zero_add]) rfl rfl) (Chg.refl _ _) rfl
    refine DagStepsT.cons (fun s' w' X U H=>?_) ?_
    ·exact AR (AZ (U 7 rfl)) (Chg.refl _ _) rfl
    refine DagStepsT.cons (fun s' w' X U H=>?_) ?_
    ·exact AR (AZ (U 8 rfl)) (Chg.refl _ _) rfl
    refine DagStepsT.cons (fun s' w' X U H=>?_) ?_
    ·have al:s' 42=(.slice (some ⟨bz,0,none⟩) n n):=H 4 rfl 42 (.eq (.slice (some ⟨bz,0,none⟩) n n)) rfl (by rw[aa];rfl);have aq:s' 43=(.int .i64 ((m:Nat):Int)):=H 5 rfl 43 (.eq (.int .i64 ((m:Nat):Int))) rfl (by rw[aa];rfl);exact AR (KJ (hi:=m) underlying22 Ad al aq rfl qO (by rw[if_neg qO];simp only[Option.map_some,Addr.add_lit,Nat.zero_mul,Nat.add_zero])) (Chg.refl _ _) rfl
    refine DagStepsT.cons (fun s' w' X U H=>?_) ?_
    ·have ai:s' 41=(.slice (some ⟨bz,m,none⟩) (n - m) (n - m)):=H 3 rfl 41 (.eq (.slice (some ⟨bz,m,none⟩) (n - m) (n - m))) rfl (by rw[aa];rfl);have ar:s' 44=(.slice (some ⟨bz,0,none⟩) m n):=H 6 rfl 44 (.eq (.slice (some ⟨bz,0,none⟩) m n)) rfl (by rw[aa];rfl);exact OK (cs:=List.replicate k (Value.int .i64 y)) (c':=(EU y (m+k) n).toArray) underlying22 Ad ai ar (Al.keep X (X0.keep Bz)) (Az.cells (Al.keep X (X0.keep Bz)) (by show ((EU y m n).drop 0).take _=_;rw[List.drop_zero,List.length_replicate,KG y ad.2.1])) (by rw[List.length_replicate];exact hk) (by rw[List.length_replicate];simp[EU];omega) (by intro v hv;rw[(List.mem_replicate.1 hv).2];rfl) (by rw[List.length_replicate];exact KH y ad.2.2) rfl (fun w9 aj=>⟨by show Value.int .i64 (((List.replicate k (Value.int .i64 y)).length:Nat):Int)=_;rw[List.length_replicate],aj⟩)
    refine DagStepsT.cons (fun s' w' X U H=>?_) ?_
    ·have ak:s' 38=(.int .i64 ((m:Nat):Int)):=H 0 rfl 38 (.eq (.int .i64 ((m:Nat):Int))) rfl (by rw[aa];rfl);obtain ⟨ac,ab⟩:=(show (.own (fun v w=>v=.int .i64 ((k:Nat):Int)∧Az w bz (EU y (m+k) n).toArray 3) (fun _ _ _ e h=>⟨h.1,Al.keep e h.2⟩):FactT ((fun q=>q=bz))).In (s' 45) w' from H 7 rfl 45 (.own (fun v w=>v=.int .i64 ((k:Nat):Int)∧Az w bz (EU y (m+k) n).toArray 3) (fun _ _ _ e h=>⟨h.1,Al.keep e h.2⟩)) rfl (by rw[aa];rfl));exact AR (Ar ak ac (A5 qO)) (Chg.refl _ _) rfl
    exact DagStepsT.nil
   ·intro s' wd7 w7 X0 X7 U H;obtain ⟨ac,ab⟩:=(show (.own (fun v w=>v=.int .i64 ((k:Nat):Int)∧Az w bz (EU y (m+k) n).toArray 3) (fun _ _ _ e h=>⟨h.1,Al.keep e h.2⟩):FactT ((fun q=>q=bz))).In (s' 45) w7 from H 7 45 (.own (fun v w=>v=.int .i64 ((k:Nat):Int)∧Az w bz (EU y (m+k) n).toArray 3) (fun _ _ _ e h=>⟨h.1,Al.keep e h.2⟩)) rfl (by rw[aa];rfl));have ah:s' 46=(.int .i64 (((m:Nat):Int)+((k:Nat):Int))):=H 8 46 (.eq (.int .i64 (((m:Nat):Int)+((k:Nat):Int)))) rfl (by rw[aa];rfl);obtain ⟨j7,rfl⟩:=Ac.out (σ:=s') (l:=[(7,(.slice (some ⟨bz,0,none⟩) n n)),(46,(.int .i64 (((m:Nat):Int)+((k:Nat):Int))))]) ⟨U 7 rfl,ah,trivial⟩;clear U H;replace hB:=Chg.keep X7 (fun h=>by have h':b=bz:=h;omega) (X0.keep hB);replace E:=(E.ext X0).step X7 (fun q hq h=>by have h':q=bz:=h;omega);refine qA _ rfl (AA (AN (AB ?_)));exact ⟨n - (m+k),qO,m+k,Ac.out ⟨rfl,rfl,trivial⟩,E,hB,ab,qO,rfl⟩
  ·have an:m=n:=qO
   refine Ak (AP (AP (Ae (AB (Y (qM _ rfl (qA _ rfl (AA (AS (AY results125 (v:=(.slice (some ⟨bz,0,none⟩) n n)) rfl ?_))))))))));rw[an,show EU y n n=(List.replicate n y).map (Value.int .i64) by simp[EU]] at Bz;exact ⟨⟨bz,rfl,qO,Bz⟩,E⟩
end Go.Proofs
namespace Go.Eng
open Go
def two (c1 c2:Nat) (M1 M2:Nat->Prop) (p:Nat):Nat->Prop:=bif Nat.beq p c1 then M1 else bif Nat.beq p c2 then M2 else Ab
def LN (wss:List (List Nat)) (i j:Nat):Bool:=Nat.beq j i || (wss.getD j []).contains i
def C3 (wss:List (List Nat)) (Ms:Nat->Nat->Prop) (i:Nat):Nat->Prop:=λy=>∃j,LN wss i j=false∧Ms j y
theorem Eg {c1 c2:Nat} {M1 M2:Nat->Prop} {p y:Nat} (h:two c1 c2 M1 M2 p y):(p=c1∧M1 y)∨(p=c2∧M2 y):=by
 unfold two at h;cases h1:Nat.beq p c1 with
 | true=>rw[h1] at h;exact .inl ⟨Nat.eq_of_beq_eq_true h1,h⟩
 | false=>
  rw[h1] at h;cases h2:Nat.beq p c2 with
  | true=>rw[h2] at h;exact .inr ⟨Nat.eq_of_beq_eq_true h2,h⟩
  | false=>rw[h2] at h;exact h.elim
section
variable {wss : List (List Nat)} {c1 c2 i y : Nat} {M1 M2 : Nat → Prop}
theorem C3.or (h:C3 wss (two c1 c2 M1 M2) i y):M1 y∨M2 y:=by
 obtain ⟨j,_,a⟩:=h;rcases Eg a with h|h
 .exact .inl h.2
 .exact .inr h.2
theorem C3.fst (c:LN wss i c2=true) (h:C3 wss (two c1 c2 M1 M2) i y):M1 y:=by
 obtain ⟨j,a,b⟩:=h;rcases Eg b with h|h
 .exact h.2
 .rw[h.1,c] at a;cases a
theorem C3.none (d:LN wss i c1=true) (b:LN wss i c2=true) (h:C3 wss (two c1 c2 M1 M2) i y):False:=by
 obtain ⟨j,a,c⟩:=h;rcases Eg c with h|h
 .rw[h.1,d] at a;cases a
 .rw[h.1,b] at a;cases a
theorem IdZ {p:Nat} {w w':World} (h:Chg (two c1 c2 M1 M2 p) w w'):(p=c1∧Chg M1 w w')∨(p=c2∧Chg M2 w w')∨Al w w':=by
 unfold two at h;cases h1:Nat.beq p c1 with
 | true=>rw[h1] at h;exact .inl ⟨Nat.eq_of_beq_eq_true h1,h⟩
 | false=>
  rw[h1] at h;cases h2:Nat.beq p c2 with
  | true=>rw[h2] at h;exact .inr (.inl ⟨Nat.eq_of_beq_eq_true h2,h⟩)
  | false=>rw[h2] at h;exact .inr (.inr h)
end
abbrev Cy:=B0->EK
def Le (ds:List Nat) (Fs:List Cy) (j:Nat) (σ:B0) (w:World):Prop:=∀d F,ds[j]?=some d->Fs[j]?=some F->F σ (σ d) w
def Mx (P:Program) (N:Nat) (ds:List Nat) (Fs:List Cy) (σ:B0) (w:World) (Ms:Nat->Nat->Prop) (all:List (List Nat)) (i:Nat) (o:Oper) (ws:List Nat) (F:Cy):Prop:=
 ∀σ' w',Chg (C3 all Ms i) w w'->(∀t,ds.contains t=false->σ' t=σ t)->(∀j,ws.contains j=true->Le ds Fs j σ' w')->CP (Ms i) P N o (λv w=>F σ' (Go.Eng.valOf o v) w) σ' w'
def BE (Ms:Nat->Nat->Prop) (i:Nat) (ws:List Nat) (F:Cy):Prop:=∀p,p≠i->ws.contains p=false->∀σ v w w',Chg (Ms p) w w'->F σ v w->F σ v w'
def FS (ds:List Nat) (ws:List Nat) (F:Cy):Prop:=∀σ1 σ2:B0,(∀j d,ws.contains j=true->ds[j]?=some d->σ2 d=σ1 d)->∀v w,F σ1 v w->F σ2 v w
theorem BE.eq {Ms:Nat->Nat->Prop} {i:Nat} {ws:List Nat} {u:Value}:BE Ms i ws (λ_ v _=>v=u):=λ_ _ _ _ _ _ _ _ h=>h
theorem FS.const {ds ws:List Nat} {G:EK}:FS ds ws (λ_=>G):=λ_ _ _ _ _ h=>h
inductive DagStepsX (P:Program) (N:Nat) (ds:List Nat) (Fs:List Cy) (σ:B0) (w:World) (Ms:Nat->Nat->Prop) (all:List (List Nat)):Nat->List Oper->List (List Nat)->List Cy->Prop where
  | nil {i:Nat}:DagStepsX P N ds Fs σ w Ms all i [] [] []
  | cons {i:Nat} {o:Oper} {l:List Oper} {ws:List Nat} {wss:List (List Nat)} {F:Cy} {Gs:List Cy} (s:BE Ms i ws F) (lc:FS ds ws F) (h:Mx P N ds Fs σ w Ms all i o ws F) (t:DagStepsX P N ds Fs σ w Ms all (i+1) l wss Gs):DagStepsX P N ds Fs σ w Ms all i (o::l) (ws::wss) (F::Gs)
theorem DagStepsX.get {P:Program} {N:Nat} {ds:List Nat} {b:List Cy} {σ:B0} {w:World} {Ms:Nat->Nat->Prop} {a:List (List Nat)}:∀{i:Nat} {l:List Oper} {wss:List (List Nat)} {c:List Cy},DagStepsX P N ds b σ w Ms a i l wss c->∀{j:Nat} {o:Oper},l[j]?=some o->∃ws F,wss[j]?=some ws∧c[j]?=some F∧BE Ms (i+j) ws F∧FS ds ws F∧Mx P N ds b σ w Ms a (i+j) o ws F
 | _,_,_,_,.nil,j,o,h=>by simp at h
 | i,_,_,_,.cons s lc h t,0,o,ho=>by
  simp at ho;subst ho;exact ⟨_,_,O,O,s,lc,h⟩
 | i,_,_,_,.cons s lc h t,j+1,o,ho=>by
  simp at ho;obtain ⟨ws,F,f,d,e,g,k⟩:=DagStepsX.get t ho;exact ⟨ws,F,by simpa using f,by simpa using d,by rw[show i+(j+1)=i+1+j from qO];exact e,g,by rw[show i+(j+1)=i+1+j from qO];exact k⟩
def Ud (wss cl:List (List Nat)) (i:Nat):Bool:=(cl.getD i []).all λc=>(wss.getD i []).contains c || (wss.getD i []).any λe=>(cl.getD e []).contains c
def Oz (wss cl:List (List Nat)):Bool:=(List.range wss.length).all (Ud wss cl)
theorem Gq {wss cl:List (List Nat)} (h:Oz wss cl=true) {i c:Nat} {ws:List Nat} (b:wss[i]?=some ws) (j:(cl.getD i []).contains c=true):c∈ws∨∃e∈ws,(cl.getD e []).contains c=true:=by
 have d:=List.all_eq_true.1 h i (List.mem_range.2 (AG b));have a:=List.all_eq_true.1 d c (by simpa using j);rw[List.getD_eq_getElem?_getD,b,Option.getD_some,Bool.or_eq_true] at a;rcases a with a|a
 .exact .inl (by simpa using a)
 .obtain ⟨e,f,g⟩:=List.any_eq_true.1 a;exact .inr ⟨e,f,g⟩
theorem Hi {P:Program} {N:Nat} {Q:DN} {σ:B0} {w:World} {id:Nat} {l:List Oper} (Ms:Nat->Nat->Prop) (n:Nat) (ds:List Nat) (wss cl:List (List Nat)) (Fs:List Cy) {Gs:List Cy} (hG:Fs=Gs) (hC:Oz wss cl=true) (hm:P.follows .mixedOrders=true) (hB:FO N 0 (l.take n) ds wss=true) (hn:FY ds=true)
 (hT:(decide (n<l.length) && Region.sinkB .any l.toArray n && Region.chainB .any l.toArray n && Region.seqB .any l.toArray (l.length - n) n (EP n l.length))=true)
 (aj:∀w1,Al w w1->DagStepsX P N ds Fs σ w1 Ms cl 0 (l.take n) cl Gs)
 (k:∀σ' w1 w',Al w w1->Chg (λy=>∃j,Ms j y) w1 w'->(∀t,ds.contains t=false->σ' t=σ t)->(∀j,Le ds Fs j σ' w')->DL P N l.toArray (Q .normal) Q (l.drop n) σ' w'):Wp P N (.region id l.toArray true) Q σ w:=by
 intro dz a Z B;have eQ:Dw dz N (J1 (Q .normal) Q)=Dw dz N Q:=by funext e a w;cases e<;>rfl
 refine wp_region_any hm ?_;obtain ⟨w1,az⟩:∃w1:World,w1={w with drawn:=w.drawn+1}:=⟨_,O⟩;have a2:Al w w1:=by rw[az];exact Er w
 rw[<-az];have ah:=aj w1 a2;rw[<-hG] at ah;simp only[Bool.and_eq_true,decide_eq_true_eq] at hT;obtain ⟨⟨⟨be,hs⟩,hc⟩,a0⟩:=hT;have hlen:ds.length=n:=by rw[H6 hB];simp;omega
 have a5:∀(m:Nat) (listed:Array Bool) (a:Act) (w':World),(listed.toList.take n).count false=m->HeadInv .any l.toArray n listed->Ok dz N a->Chg (λy=>∃j,listed.getD j false=true∧Ms j y) w1 w'->(∀t,ds.contains t=false->C1 a t=σ t)->(∀j,listed.getD j false=true->Le ds Fs j (C1 a) w')->
  wpAny P .any l.toArray (Dw dz N Q) (m+(l.length - n)) listed a w':=by
  intro m
  induction m with
  | zero=>
   intro listed a w' bb x Z hx hu hh;have ag:listed.size=l.length:=by simpa using x.size
   have hl:listed=EP n l.length:=by
    apply Array.ext';rw[EP];have:=MV (l:=listed.toList) (n:=n) (by simp;omega) bb (by
     intro t D h2;have ac:t<listed.size:=by simpa using h2
     have:=x.tail t D (by simpa[ag] using ac);simp only[Array.getD_eq_getD_getElem?,Array.getElem?_eq_getElem ac,Option.getD_some] at this;simp[ac,this])
    rw[this];simp[ag]
   rw[Nat.zero_add];have D:=k (C1 a) w1 w' a2 (hx.mono λy _ h=>by obtain ⟨j,_,h⟩:=h;exact ⟨j,h⟩) hu (λj d F hd hF=>by
    have A:j<n:=by have:=AG hd;omega
    exact hh j (by
     rw[hl,EP];simp[Array.getD_eq_getD_getElem?,List.getElem?_append_left,A]) d F hd hF) dz a Z O
   rw[eQ] at D;have:=wpAny_of_seq (P:=P) (md:=.any) (ops:=l.toArray) (Q':=Dw dz N Q) (l.drop n) n listed a w' (λj=>by simp[List.getElem?_drop]) (by rw[List.length_drop,hl];exact a0) D
   rwa [List.length_drop] at this
  | succ m ih=>
   intro listed a w' hcm x Z hx hu hh;have ag:listed.size=l.length:=by simpa using x.size
   obtain ⟨i0,ab,ai⟩:∃i,i<n∧listed.getD i true=false:=by
    have:0<(listed.toList.take n).count false:=qO
    rw[List.count_pos_iff] at this;obtain ⟨i,hi,B⟩:=List.getElem_of_mem this;have G:i<n:=by simp at hi;omega
    refine ⟨i,G,?_⟩;have E:i<listed.size:=by simp at hi;omega
    simp only[Array.getD_eq_getD_getElem?,Array.getElem?_eq_getElem E,Option.getD_some];simpa using B
   rw[show m+1+(l.length - n)=(m+(l.length - n))+1 by omega];refine ⟨λhr=>?_,λi hi=>?_⟩
   .exfalso;have aw:∀i,i<n->listed.getD i true=true:=by
     intro i
     induction i using Nat.strongRecOn with
     | _ i ihi=>
      intro hi;cases hv:listed.getD i true with
      | true=>rfl
      | false=>
       exfalso;obtain ⟨o,ho⟩:=AK (l:=l) (i:=i) qO;have L:(l.take n)[i]?=some o:=by rw[List.getElem?_take_of_lt hi];exact ho
       obtain ⟨d,ws,_,_,h3⟩:=Dr hB L;have:i∈Region.ready .any l.toArray listed:=by
        refine mem_ready.2 ⟨hv,o,by simpa using ho,λe B hb=>?_⟩;simp only[E8,Bool.and_eq_true,Array.all_eq_true_iff_forall_mem,Bool.or_eq_true,Bool.not_eq_true',Nat.zero_add] at h3;have:=(h3.1.1.2 e B).resolve_left (by simp[hb]);have bi:e.on<i:=by simpa[Nat.blt_eq] using this
        have h4:=ihi e.on bi qO;have A:e.on<listed.size:=qO
        simpa only[Array.getD_eq_getD_getElem?,Array.getElem?_eq_getElem A,Option.getD_some] using h4
       rw[hr] at this;cases this
    rw[aw i0 ab] at ai;cases ai
   .have G:i<n:=by
     rcases Nat.lt_or_ge i n with h|h
     .exact h
     .exact absurd hi (tail_waits hs hc (by simpa using be) x _ i0 O ab ai i h)
    obtain ⟨D,o,h2,h3⟩:=mem_ready.1 hi;have E:i<listed.size:=qO
    have ho:l[i]?=some o:=by simpa using h2
    have L:(l.take n)[i]?=some o:=by rw[List.getElem?_take_of_lt G];exact ho
    obtain ⟨d,ws,hd,a7,h4⟩:=Dr hB L;obtain ⟨am,F,ay,hF,ad,a1,J⟩:=ah.get L;simp only[Nat.zero_add] at J ad;simp only[E8,Bool.and_eq_true,List.all_eq_true,Array.any_eq_true',Array.all_eq_true_iff_forall_mem,Bool.or_eq_true,Bool.not_eq_true',Nat.zero_add] at h4;obtain ⟨⟨⟨g,_⟩,ak⟩,af⟩:=h4;have af:o.guard=none:=by simpa using af
    have av:∀j,listed.getD j false=true->∀c,(cl.getD j []).contains c=true->listed.getD c false=true:=by
     intro j
     induction j using Nat.strongRecOn with
     | _ j ihj=>
      intro b c hc;have bd:j<n:=by
       rcases Nat.lt_or_ge j n with h|h
       .exact h
       .rcases Nat.lt_or_ge j l.length with h'|h'
        .have:=getD_both (x.tail j h (by simpa using h'));rw[this] at b;cases b
        .simp[Array.getElem?_eq_none (show listed.size<=j by omega)] at b
      obtain ⟨oc,ar⟩:=AK (l:=l) (i:=j) qO;have ap:(l.take n)[j]?=some oc:=by rw[List.getElem?_take_of_lt bd];exact ar
      obtain ⟨dc,ba,_,ao,h5⟩:=Dr hB ap;simp only[E8,Bool.and_eq_true,List.all_eq_true,Array.any_eq_true',Array.all_eq_true_iff_forall_mem,Bool.or_eq_true,Bool.not_eq_true',Nat.zero_add] at h5;have f:∀s∈ba,listed.getD s false=true∧s<j:=by
       intro s u;obtain ⟨e,B,M,ae⟩:=h5.1.2 s u;have bf:e.on=s:=Nat.eq_of_beq_eq_true ae;have q:=x.closed j oc (by simpa using ar) b e B M;have h7:=(h5.1.1.2 e B).resolve_left (by simp[M]);rw[bf] at q h7;exact ⟨q,by simpa[Nat.blt_eq] using h7⟩
      rcases Gq hC ao hc with q|⟨s,u,q⟩
      .exact (f c q).1
      .exact ihj s (f s u).2 (f s u).1 c q
    have K:∀j,listed.getD j false=true->LN cl i j=false:=by
     intro j b;cases T:LN cl i j with
     | false=>rfl
     | true=>
      exfalso;simp only[LN,Bool.or_eq_true] at T;rcases T with T|T
      .have:j=i:=Nat.eq_of_beq_eq_true T;rw[this,getD_both D] at b;cases b
      .have:=av j b i T;rw[getD_both D] at this;cases this
    have X:∀j,am.contains j=true->listed.getD j false=true:=by
     intro j A;have C:(cl.getD i []).contains j=true:=by rw[List.getD_eq_getElem?_getD,ay,Option.getD_some];exact A
     have f:∀s∈ws,listed.getD s false=true:=by
      intro s u;obtain ⟨e,B,M,ae⟩:=ak s u;have:e.on=s:=Nat.eq_of_beq_eq_true ae;exact this▸h3 e B M
     rcases Gq hC a7 C with q|⟨s,u,q⟩
     .exact f j q
     .exact av s (f s u) j q
    have hH:∀j,am.contains j=true->Le ds Fs j (C1 a) w':=λj A=>hh j (X j A);have R:∀S,Chg (Ms i) w' S->Chg (λy=>∃j,(listed.setIfInBounds i true).getD j false=true∧Ms j y) w1 S:=by
     intro S U;have T:(listed.setIfInBounds i true).getD i false=true:=by simp[Array.getD_eq_getD_getElem?,E]
     refine Chg.step (hx.mono λy _ h=>?_) U (λy _ h=>⟨i,T,h⟩);obtain ⟨j,h5,q⟩:=h;by_cases z:j=i
     .exact ⟨i,T,z▸q⟩
     .exact ⟨j,by rw[getD_set_ne _ (Ne.symm z)];exact h5,q⟩
    have au:∀v S,Chg (Ms i) w' S->F (C1 a) (Go.Eng.valOf o v) S->wpAny P .any l.toArray (Dw dz N Q) (m+(l.length - n)) (listed.setIfInBounds i true) (a.put o.dst v) S:=by
     intro v S U hv;have r:(∀t,t≠d->C1 (a.put o.dst v) t=C1 a t)∧C1 (a.put o.dst v) d=Go.Eng.valOf o v:=by
      cases hod:o.dst with
      | none=>
       rw[hod] at g;have a6:N<=d:=Nat.le_of_ble_eq_true g;refine ⟨λt _=>rfl,?_⟩;simp only[Go.Eng.valOf,hod];show a.tmps.getD d undef=undef;have:a.tmps.size<=d:=by rw[Z.size];exact a6
       simp[Array.getElem?_eq_none this]
      | some I=>
       rw[hod] at g;simp only[Bool.and_eq_true] at g;have bc:I=d:=Nat.eq_of_beq_eq_true g.1;have a4:d<N:=by simpa[Nat.blt_eq] using g.2
       subst bc;rw[DT Z a4 v];refine ⟨λt ht=>?_,?_⟩
       .have:Nat.beq t I=false:=by cases hb:Nat.beq t I;rfl;exact absurd (Nat.eq_of_beq_eq_true hb) ht
        simp[Ef,this]
       .simp[Ef,Go.Eng.valOf,hod]
     refine ih _ _ _ ?_ (x.set hi G) (Z.put _ _) (R S U) ?_ ?_
     .have hl:listed.toList[i]?=some false:=by
       simp only[Array.getD_eq_getD_getElem?,Array.getElem?_eq_getElem E,Option.getD_some] at D;simp[E,D]
      have:=GY (l:=listed.toList) G (by simp;omega) hl;rw[Array.toList_setIfInBounds];omega
     .intro t ht;rw[r.1 t (λh=>by
       subst h;have:=List.mem_of_getElem? hd;simp[this] at ht),hu t ht]
     .intro j A I F' p V;by_cases z:j=i
      .subst z;rw[hd] at p;cases p;rw[hF] at V;cases V;rw[r.2];refine a1 (C1 a) _ (λj' I C p=>r.1 I λB=>?_) _ _ hv;have:=Cg hn (B▸p) hd;subst this;have:=X j' C;rw[getD_both D] at this;cases this
      .have bh:I≠d:=by
        intro h;subst h;exact z (Cg hn p hd)
       rw[r.1 I bh];rw[getD_set_ne _ (Ne.symm z)] at A;have q:=hh j A I F' p V;have a3:j<n:=by have:=AG p;omega
       obtain ⟨oj,a9⟩:=AK (l:=l) (i:=j) qO;have aa:(l.take n)[j]?=some oj:=by rw[List.getElem?_take_of_lt a3];exact a9
       obtain ⟨dj,wsj,_,hwsj,h5⟩:=Dr hB aa;obtain ⟨H,Fj,al,an,aq,b,_⟩:=ah.get aa;rw[V] at an;cases an;simp only[Nat.zero_add] at aq;have W:H.contains i=false:=by
        cases W:H.contains i with
        | false=>rfl
        | true=>
         exfalso;have:=K j A;have bj:cl.getD j []=H:=by simp[al]
         simp only[LN,bj,W,Bool.or_true] at this;cases this
       refine b (C1 a) _ (λj' I C p=>r.1 I λB=>?_) _ _ (aq i (Ne.symm z) W _ _ _ _ U q);have:=Cg hn (B▸p) hd;subst this;rw[W] at C;cases C
    have bg:Chg (C3 cl Ms i) w1 w':=hx.mono λy _ h=>by
     obtain ⟨j,h5,q⟩:=h;exact ⟨j,K j h5,q⟩
    have a8:=J (C1 a) w' bg hu hH;have hw:Region.wanted o (yielded l.toArray a.tmps)=true:=by simp[Region.wanted,af]
    unfold wpOp;simp only[h2,hw,if_true];exact Or.inl (a8 _ a Z O _ _ au)
 have ax:HeadInv .any l.toArray n (Array.replicate l.toArray.size false):=
  ⟨qP,λj oj _ hl=>(by rw[getD_replicate_false] at hl;cases hl),λt _ ht=>getD_in (by simpa using ht) (getD_replicate_false _ _)⟩
 have D:=a5 n (Array.replicate l.toArray.size false) a w1 (by simp;omega) ax Z (Chg.refl _ _) (λt _=>by rw[B]) (λj A=>by rw[getD_replicate_false] at A;cases A);have e3:n+(l.length - n)=l.toArray.size:=by simp;omega
 rw[e3] at D;exact D
end Go.Eng
namespace Go.Proofs
open Go Go.Eng Go.Sort
set_option maxRecDepth 100000
def Eb (E N:Value) (vs:List Value) (b:Nat):Prop:=E.ownBlock=some b∨N.ownBlock=some b∨∃(i:Nat) (v:Value),vs[i]?=some v∧v.ownBlock=some b
structure OutSt (w:World) (base:Nat) (E N:Value) (vs:List Value) (acc:List Int) (rows:List (List Int)):Prop where
 e:w.ownsRow base CF 1 E acc.length (acc.map (Value.int .i64))
 n:LSt CX CF 1 w base N vs (rows.map D9)
 en:∀b,E.ownBlock=some b->N.ownBlock≠some b
 ei:∀(i:Nat) v b,vs[i]?=some v->v.ownBlock=some b->E.ownBlock≠some b
theorem OutSt.typ {w:World} {base b T:Nat} {E N:Value} {vs:List Value} {acc:List Int} {rows:List (List Int)} {c:Array Value} (h:OutSt w base E N vs acc rows) (f:Az w b c T) (r:T≠CF) (t:T≠CX):¬Eb E N vs b:=by
 have a:∀{e n:Nat} {v:Value} {xs:List Value},w.ownsRow base e 1 v n xs->v.ownBlock=some b->T=e:=by
  intro e n v xs u q;rcases u.2 with ⟨rfl,_⟩|⟨g,cap,j,rfl,_,y,_⟩
  .cases q
  .have k:g=b:=Option.some.inj q;subst k;unfold Az at f;have m:w.heap[g]?=some (.cells j e (0,0)):=y;rw[m] at f;simp at f;exact f.2.symm
 rintro (d|d|⟨i,v,d,x⟩)
 .exact r (a h.e d)
 .exact t (a h.n.o d)
 .obtain ⟨p,s⟩:=AK (l:=rows.map D9) (i:=i) (by have:=AG d;have:=h.n.len;omega);exact r (a (h.n.inn i v p d s) x)
theorem OutSt.start (w:World) (base:Nat):OutSt w base (.slice none 0 0) (.slice none 0 0) [] [] []:=
 ⟨World.ownsRow_nil _ _ _ _,LSt.start _ _ _ _ _,(λb h=>by cases h),λi v b h=>by simp at h⟩
theorem OutSt.lt {w:World} {base:Nat} {E N:Value} {vs:List Value} {acc:List Int} {rows:List (List Int)} (h:OutSt w base E N vs acc rows) {b:Nat} (c:Eb E N vs b):base<=b∧b<w.heap.size:=by
 rcases c with a|a|⟨i,v,a,f⟩
 .exact h.e.lt b a
 .exact h.n.o.lt b a
 .obtain ⟨p,d⟩:=AK (l:=rows.map D9) (i:=i) (by have:=AG a;have:=h.n.len;omega);exact (h.n.inn i v p a d).lt b f
theorem OutSt.chg {M:Nat->Prop} {w w':World} {base:Nat} {E N:Value} {vs:List Value} {acc:List Int} {rows:List (List Int)} (h:OutSt w base E N vs acc rows) (c:Chg M w w') (d:∀b,Eb E N vs b->¬M b):OutSt w' base E N vs acc rows:=
 ⟨Av h.e c λb a=>d b (.inl a),⟨Av h.n.o c λb a=>d b (.inr (.inl a)),h.n.len,λi v p f g=>Av (h.n.inn i v p f g) c λb a=>d b (.inr (.inr ⟨i,v,f,a⟩)),h.n.apo⟩,h.en,h.ei⟩
theorem OutSt.ext {w w':World} {base:Nat} {E N:Value} {vs:List Value} {acc:List Int} {rows:List (List Int)} (h:OutSt w base E N vs acc rows) (c:Al w w'):OutSt w' base E N vs acc rows:=h.chg c λ_ _ f=>f
theorem OutSt.push {w w':World} {base A m:Nat} {E E' N N' u:Value} {vs:List Value} {acc row:List Int} {rows:List (List Int)} {y:Int} (h:OutSt w base E N vs acc rows) (t:w.ownsRow A CF 1 u m (row.map (Value.int .i64))) (B:m=row.length) (D:base<=A) (r:∀b,Eb E N vs b->b<A)
 (C:Chg (λb=>N.ownBlock=some b∨E.ownBlock=some b) w w') (K:w'.ownsRow base CX 1 N' (rows.length+1) (vs++[u])) (I:∀k,N'.ownBlock=some k->N.ownBlock=some k∨w.heap.size<=k)
 (G:w'.ownsRow base CF 1 E' (acc.length+1) ((acc++[y]).map (Value.int .i64))) (J:∀k,E'.ownBlock=some k->E.ownBlock=some k∨w.heap.size<=k) (H:∀b,N'.ownBlock=some b->E'.ownBlock≠some b):OutSt w' base E' N' (vs++[u]) (acc++[y]) (rows++[row]):=by
 have x:=λb (a:u.ownBlock=some b)=>t.lt b a;have j:∀(i:Nat) v,(vs++[u])[i]?=some v->vs[i]?=some v∨(i=vs.length∧v=u):=λi v c=>by
  rcases Nat.lt_or_ge i vs.length with d|d
  .left;rwa [List.getElem?_append_left d] at c
  .right;rw[List.getElem?_append_right d] at c;have o:=AG c;simp at o;rw[show i - vs.length=0 by omega] at c;simp at c;exact ⟨qO,c.symm⟩
 have l:∀(i:Nat) v b,(vs++[u])[i]?=some v->v.ownBlock=some b->N.ownBlock≠some b∧E.ownBlock≠some b∧b<w.heap.size:=λi v b c a=>by
  rcases j i v c with d|⟨_,rfl⟩
  .exact ⟨λe=>h.n.apo i v b d a e,h.ei i v b d a,(h.lt (.inr (.inr ⟨i,v,d,a⟩))).2⟩
  .have:=x b a;exact ⟨λe=>by have:=r b (.inr (.inl e));omega,λe=>by have:=r b (.inl e);omega,this.2⟩
 have g:∀(i:Nat) v b,(vs++[u])[i]?=some v->v.ownBlock=some b->N'.ownBlock≠some b∧E'.ownBlock≠some b:=λi v b c a=>by
  obtain ⟨d,o,s⟩:=l i v b c a;exact ⟨λe=>by rcases I b e with f|f;exact d f;omega,λe=>by rcases J b e with f|f;exact o f;omega⟩
 refine ⟨by rw[List.length_append];exact G,⟨by simpa using K,by simp[h.n.len],λi v p c q=>?_,λi v b c a=>(g i v b c a).1⟩,λb a e=>H b e a,λi v b c a=>(g i v b c a).2⟩;rw[List.map_append] at q;rcases j i v c with d|⟨d,rfl⟩
 .rw[List.getElem?_append_left (by have:=AG d;have:=h.n.len;omega)] at q;exact Av (h.n.inn i v p d q) C λb a z=>by
   obtain ⟨o,s,_⟩:=l i v b c a;rcases z with f|f
   .exact o f
   .exact s f
 .have F:=h.n.len;rw[d,F,List.getElem?_append_right (Nat.le_refl _),Nat.sub_self] at q;simp[D9] at q;subst q;rw[B] at t;exact Dc (Av t C λb a z=>by
   obtain ⟨o,s,_⟩:=l i v b c a;rcases z with f|f
   .exact o f
   .exact s f) D
theorem DB {c1 c2 i e hs:Nat} {M1 M2:Nat->Prop} {g:Array Value} {ws:List Nat} (d:∀y,M1 y->y<hs) (a:∀y,M2 y->y<hs):BE (two c1 c2 M1 M2) i ws (λ_=>Ct e g hs):=by
 rintro p _ _ σ v w w' x ⟨b,c,f,j⟩;exact ⟨b,c,x.keep (λh=>by rcases Eg h with h|h;have:=d b h.2;omega;have:=a b h.2;omega) f,j⟩
theorem Hg {c1 c2 base e size n hs:Nat} {M1 M2:Nat->Prop} {xs:List Value} {a:Value} {ws:List Nat} (h:∀k,(a.ownBlock=some k∨hs<=k)->¬M2 k):BE (two c1 c2 M1 M2) c1 ws (λ_=>CW base e size n xs a hs):=by
 rintro p g _ σ v w w' x ⟨f,d,c⟩;rcases IdZ x with b|b|b
 .exact absurd b.1 g
 .exact ⟨f,Av d b.2 (λk i=>h k (c k i)),c⟩
 .exact ⟨f,Am d b,c⟩
theorem Hf {c1 c2 base e size n hs t:Nat} {M1 M2:Nat->Prop} {xs:List Value} {d:Value} {ws:List Nat} (f:ws.contains c1=true):BE (two c1 c2 M1 M2) c2 ws (λs v w=>CW base e size n xs d hs v w∧∀b,(s t).ownBlock=some b->v.ownBlock≠some b):=by
 rintro p g c σ v w w' x ⟨⟨j,h,i⟩,k⟩;rcases IdZ x with a|a|a
 .rw[a.1,f] at c;cases c
 .exact absurd a.1 g
 .exact ⟨⟨j,Am h a,i⟩,k⟩
theorem E_ {M:Nat->Prop} {P:Program} {N:Nat} {o:Oper} {R R':EK} {σ:B0} {w:World} (h:CP M P N o R σ w) (d:∀v w,R v w->R' v w):CP M P N o R' σ w:=λi a g j Q K f=>h i a g j Q K λv c b e=>f v c b (d v c e)
theorem He {M:Nat->Prop} {P:Program} {N:Nat} {o:Oper} {σ:B0} {w:World} {p q n n1 i j l n2 hs:Nat} {xs t:List Value} {c a u:Value} (h:CW p q n n1 t a hs u w) (hd:CP M P N o (CW i j l n2 xs c w.heap.size) σ w) (r:hs<=w.heap.size) (e:∀k,(a.ownBlock=some k∨hs<=k)->c.ownBlock≠some k) (A:∀v,Go.Eng.valOf o v=v:=by intro v;rfl) :
 CP M P N o (λv w=>CW i j l n2 xs c hs (Go.Eng.valOf o v) w∧∀b,u.ownBlock=some b->(Go.Eng.valOf o v).ownBlock≠some b) σ w:=by
 refine E_ hd ?_;rintro v w2 ⟨z,y,f⟩;rw[A v];refine ⟨⟨z,y,λk d=>(f k d).imp id (λh=>Nat.le_trans r h)⟩,λk d x=>?_⟩;obtain ⟨_,s,m⟩:=h;rcases f k x with g|g
 .exact e k (m k d) g
 .have:=(s.lt k d).2;omega
theorem Ht {w:World} {b base n:Nat} {row:List Int} (h:Az w b (row.map (Value.int .i64)).toArray CF) (hb:base≤b) (hn:row.length=n) (hl:n≤9223372036854775807:=by omega):w.ownsRow base CF 1 (.slice (some ⟨b,0,none⟩) n n) n (row.map (Value.int .i64)):=
 ⟨by simp[hn],.inr ⟨b,n,_,rfl,hb,h,Nat.le_refl _,hl,by simp[hn],by simp only[Nat.mul_one];exact List.take_of_length_le (by simp[hn])⟩⟩
theorem OutSt.intss {w:World} {base:Nat} {E N:Value} {vs:List Value} {acc:List Int} {rows:List (List Int)} (h:OutSt w base E N vs acc rows):Dd w N rows:=by
 have a:vs.length=rows.length:=by simpa using h.n.len
 refine ⟨vs,?_,a,λi u l d a=>?_⟩
 .have c:=h.n.o;rw[show vs=(vs.map λx=>[x]).flatten by simp[List.flatten_eq_flatMap,List.flatMap_map]] at c;exact EO c (by intro r b;simp only[List.mem_map] at b;obtain ⟨x,_,rfl⟩:=b;rfl) (by simp[a]) qD
 .exact DR (h.n.inn i u (D9 l) d (by rw[List.getElem?_map,a];rfl)) O
end Go.Proofs
namespace Go.Proofs
open Go Go.Eng Go.Sort
set_option maxRecDepth 100000
theorem DI {w:World} {b:Nat} {l:List Int} {T:Nat} (h:Az w b (l.map (Value.int .i64)).toArray T) {i:Nat} {x:Int} (a:l[i]?=some x):w.cell? ⟨b,0+i,none⟩=some (.int .i64 x):=h.cell (by simp[a])
theorem L8 {p:List Int} {t:Nat} {n:Nat} (hl:p.length=n) (ht:t<n):p[t]?=some (CH p ((t:Nat):Int)):=by
 have a:p[t]?=some (p[t]'(by omega)):=List.getElem?_eq_getElem _;rw[a,CV a]
theorem Rd {w:World} {f b bg c:Nat} {T g:Nat} (m:Az w f #[.int .i64 (-1)] T) (h:Az w b #[.slice (some ⟨bg,0,none⟩) c c] g) (k:Az w bg ((List.replicate c (-1:Int)).map (Value.int .i64)).toArray CF) (hc:c<=60000):BC w ⟨0,[-1],[List.replicate c (-1)]⟩ [.int .i64 0,.slice (some ⟨f,0,none⟩) 1 1,.slice (some ⟨b,0,none⟩) 1 1]:=by
 refine ⟨_,1,_,1,O,GS [-1] m qP qP,[.slice (some ⟨bg,0,none⟩) c c],⟨some ⟨b,0,none⟩,1,O,show (1:Nat)<=9223372036854775807 by decide,Nat.le_refl 1,.inr ⟨b,0,O,?_⟩⟩,O,?_⟩
 .intro i r d j u a;rcases i with _|i<;>simp at d;subst d;cases j with
  | zero=>simp at a;subst a;exact h.cell O
  | succ j=>simp at a
 .intro i u l a e;rcases i with _|i<;>simp at a e;subst a;subst e;exact Ev k qP
theorem MF {E E' N N':Value} {vs:List Value} {b f e c:Nat} (h:¬Eb E N vs b∧b≠f) (hb:b<e) (j:∀k,N'.ownBlock=some k->N.ownBlock=some k∨e<=k) (m:∀k,E'.ownBlock=some k->E.ownBlock=some k∨e<=k) (l:Eb E' N' (vs++[.slice (some ⟨f,0,none⟩) c c]) b):False:=by
 rcases l with d|d|⟨i,v,d,g⟩
 .rcases m b d with a|a
  .exact h.1 (.inl a)
  .omega
 .rcases j b d with a|a
  .exact h.1 (.inr (.inl a))
  .omega
 .rcases BI d with a|⟨_,a⟩
  .exact h.1 (.inr (.inr ⟨i,v,a,g⟩))
  .subst a;cases g;exact h.2 O
theorem Eh {α:Type} {l:List α} {k:Nat} {x:α} (h:l[k]?=some x):l.take (k+1)=l.take k++[x]:=by rw[List.take_add_one,h];rfl
theorem CanP.st_le {n c:Nat} {d:Dfa} {p:List Int} {rows:List (List Int)} {row st:List Int} (h:CanP n c d p rows row st):st.length<=n:=by
 have hd:(st.map Int.toNat).Nodup:=by
  rw[List.nodup_iff_pairwise_ne,List.pairwise_iff_getElem];intro i j hi f hij k;simp only[List.length_map] at hi f;simp only[List.getElem_map] at k;have a:=List.getElem?_eq_getElem hi;have b:=List.getElem?_eq_getElem f;have h1:=h.sl _ (List.mem_of_getElem? a);have h2:=h.sl _ (List.mem_of_getElem? b);have e:st[i]=st[j]:=qO
  have:=h.inj i j _ _ a b (by rw[e]);omega
 have:=Do (m:=List.range n) hd λx g=>by
  obtain ⟨s,hs,rfl⟩:=List.mem_map.1 g;have:=h.sl s hs;exact List.mem_range.2 qO
 simpa using this
def DP (m:Nat) (w:World) (d:Dfa) (vs:List Value):Prop:=∀(M:Nat->Prop) w',Chg M w w'->(∀b,M b->b<m∨∃cs,Az w b cs 48)->BC w' d vs
theorem DP.at' {m:Nat} {w:World} {d:Dfa} {vs:List Value} (h:DP m w d vs):BC w d vs:=h Ab w (Chg.refl _ _) λ_ f=>f.elim
theorem DP.chgT {M:Nat->Prop} {m:Nat} {w w':World} {d:Dfa} {vs:List Value} (h:DP m w d vs) (c:Chg M w w') (j:∀b,M b->b<m∨∃cs,Az w b cs 48):DP m w' d vs:=λM2 l c2 k=>
 h (λb=>M b∨(M2 b∧b<w.heap.size∧¬M b)) l (Chg.step (c.mono λb _ a=>.inl a) c2 λb g i=>by by_cases e:M b;exact .inl e;exact .inr ⟨i,g,e⟩) λb a=>by
  rcases a with a|⟨i,g,e⟩
  .exact j b a
  .rcases k b i with f|⟨cs,f⟩
   .exact .inl f
   .exact .inr ⟨cs,(c.blk b g e).symm.trans f⟩
theorem DP.chg {M:Nat->Prop} {m:Nat} {w w':World} {d:Dfa} {vs:List Value} (h:DP m w d vs) (c:Chg M w w') (e:∀b,M b->b<m):DP m w' d vs:=h.chgT c λb a=>.inl (e b a)
theorem DP.low {m m':Nat} {w:World} {d:Dfa} {vs:List Value} (h:DP m w d vs) (hm:m'<=m):DP m' w d vs:=λM w' c e=>h M w' c λb a=>(e b a).imp (λh=>qO) id
theorem LH {M:Nat->Prop} {m b:Nat} {w:World} {cs:Array Value} {T:TypeId} (d:∀b,M b->b<m∨∃cs,Az w b cs 48) (hb:m<=b) (a:Az w b cs T) (e:T≠48):¬M b:=λh=>by
 rcases d b h with c|⟨c2,c⟩
 .omega
 .unfold Az at a c;rw[c] at a;simp at a;exact e a.2.symm
theorem TR (w0:World) (n c:Nat) (d:Dfa) (dv:List Value) (ok:OkD n c d) (h:BC w0 d dv) (hn:n≤20000∧1≤c∧c≤16) (hac:∀x∈d.accept,x<2147483648) :
  CB prog 126 #[.agg dv.toArray] w0 fun r w=>(∃C cv,Cj c (beh d d.start) C∧C.next.length≤n∧(∀x∈C.accept,x<2147483648)∧r=.agg cv.toArray∧DP w0.heap.size w C cv)∧Al w0 w:=by
 obtain ⟨dv0,b0⟩:∃x,x=dv:=⟨_,rfl⟩;have bw:=h;rw[←b0] at bw;obtain ⟨aa,ac,na,nc,rfl,cw,cu⟩:=h;have er:=ok.nl;have ep:=ok.al;have dq:=ok.st;rw[ep,er] at b0⊢;rw[ep] at cw;rw[er] at cu;have fs:∀w,Al w0 w→BC w d [.int .i64 d.start,.slice aa n ac,.slice na n nc]:=fun w e=>by rw[b0] at bw;exact bw.ext e
 obtain ⟨nb,no,rfl,gd⟩:=BL (n:=n) cu qO;obtain ⟨ab,ao,rfl,ef⟩:=Ao (n:=n) cw qO;obtain ⟨s0,d9⟩:=Int.eq_ofNat_of_zero_le dq.1;have e2:ab<w0.heap.size:=World.block_lt_of_cell? w0 _ (ef s0 _ (Ew ok (show s0<n by omega)));have bp:∀(s:Nat),s<n→∃row ra rc,d.next[s]?=some row∧row.length=c∧w0.cell? ⟨nb,no+s,none⟩=some (.slice ra c rc)∧A2 w0 (.slice ra c rc) row:=fun s hs=>by
  obtain ⟨row,a3⟩:=AK (l:=d.next) (i:=s) qO;have dz:=(ok.row row (List.mem_of_getElem? a3)).1;obtain ⟨ra,rc,h1,h2⟩:=gd s row a3;rw[dz] at h1 h2;exact ⟨row,ra,rc,a3,dz,h1,h2⟩
 obtain ⟨gb,ej,ek,eb,fd,bx,fm⟩:=bp 0 qO;refine qR func126 rfl ntmps126 rfl (fun E=>(Y (BP (v:=(.agg #[(I6 d.start),(.slice (some ⟨ab,ao,none⟩) n ac),(.slice (some ⟨nb,no,none⟩) n nc)])) (c:=#[(I6 d.start),(.slice (some ⟨ab,ao,none⟩) n ac),(.slice (some ⟨nb,no,none⟩) n nc)]) qD rfl rfl ?_)));intro bd wd Nd;have Fd:=Nd.ge E;replace E:=E.ext Nd.ext;have Bd:=Nd.blk;refine By (c:=#[(I6 0),(.slice none 0 0),(.slice none 0 0)]) qD Ce rfl ?_;intro bo wo No;have Fo:=No.ge E;have Oo_bd:=No.lt Bd;replace Bd:=No.keep Bd;replace E:=E.ext No.ext;have Bo:=No.blk;refine AA (Y (qV (Aa (vs:=[(I6 d.start),(.slice (some ⟨ab,ao,none⟩) n ac),(.slice (some ⟨nb,no,none⟩) n nc)]) rfl BB Aw rfl (Bd.cells rfl)) ?_));have fe:=Bo.lt;have fx:=Bd.lt;refine qE rfl (AV (vs:=[(.agg #[(I6 d.start),(.slice (some ⟨ab,ao,none⟩) n ac),(.slice (some ⟨nb,no,none⟩) n nc)])]) func168 kQ kQ rfl) (Sd _ n c d _ ok (fs _ E) qO hac) ?_;rintro _ w9 ⟨⟨p,b1,cz,rfl,hb1,ae⟩,X9⟩;replace Bd:=X9.keep Bd;replace Bo:=X9.keep Bo;replace E:=E.ext X9;refine qA (.slice (some ⟨b1,0,none⟩) n n) rfl (AA (Y (qF bd 0 2 rfl underlying48 rfl A' rfl (qV (AE (v:=(.slice (some ⟨nb,no,none⟩) n nc)) rfl A4 (Bd.cell rfl)) (qV (AC (b:=nb) (o:=no) (len:=n) (cap:=nc) (i:=0) (o':=no+0) rfl rfl rfl underlying46 Ay qO qO) (qV (AE (v:=(.slice ej c ek)) rfl Ax (E.cell (fun f=>f) (by rw[Nat.add_zero] at *;exact bx))) ?_))))));have fy:=ae.lt;have eg:=L8 cz.len (show s0<n by omega);refine qV (AL (ad:=ej) (n:=c) (cap:=ek) underlying22 rfl) (qA (I6 (c:Int)) rfl (AA (AI (Y (qM (.slice (some ⟨b1,0,none⟩) n n) rfl (qF bd 0 0 rfl underlying48 rfl Ad rfl (qV (AE (v:=(I6 d.start)) rfl Ai (Bd.cell rfl)) (qV (AC (b:=b1) (o:=0) (len:=n) (cap:=n) (i:=s0) (o':=0+s0) rfl rfl qO underlying22 Ad qO qO) (qV (AE (v:=(I6 (CH p d.start))) rfl Ai (by rw[d9];exact DI ae eg)) (qV (A0 (k:=.i64) (a:=CH p d.start) (b:=0) rfl rfl) (AA (qC rfl (fun ck=>?_) (fun ck=>?_)))))))))))))
 ·have dh:¬BG c d d.start:=fun hl=>by have:=(cz.live d.start ⟨qO,dq.2⟩).1.2 hl;omega
  refine Y (Ah (ps:=[(0,(I6 (-1)))]) (c:=#[(I6 (-1))]) qD rfl underlying22 Ad BY qD qD qK ?_);intro be we Ne;have Fe:=Ne.ge E;have Oe_bd:=Ne.lt Bd;have Oe_bo:=Ne.lt Bo;have Oe_b1:=Ne.lt ae;replace Bd:=Ne.keep Bd;replace Bo:=Ne.keep Bo;replace ae:=Ne.keep ae;replace E:=E.ext Ne.ext;have Be:=Ne.blk;refine Ah (ps:=[(0,(I6 (-1)))]) (c:=#[(I6 (-1))]) qD rfl underlying22 Ad BY qD qD qK ?_;intro bf wf Nf;have Ff:=Nf.ge E;have Of_bd:=Nf.lt Bd;have Of_bo:=Nf.lt Bo;have Of_b1:=Nf.lt ae;have Of_be:=Nf.lt Be;replace Bd:=Nf.keep Bd;replace Bo:=Nf.keep Bo;replace ae:=Nf.keep ae;replace Be:=Nf.keep Be;replace E:=E.ext Nf.ext;have Bf:=Nf.blk;refine qM (I6 (c:Int)) rfl ?_;have e5:=Bf.lt;refine qE rfl (AV (vs:=[(.slice (some ⟨bf,0,none⟩) 1 1),(I6 (c:Int))]) func125 kQ kQ rfl) (I0 _ bf 1 c (-1) _ Bf hn.2.1 qO) ?_;rintro _ fr ⟨⟨g,rfl,hg,hG⟩,cb⟩;replace Bd:=cb.keep Bd;replace Bo:=cb.keep Bo;replace ae:=cb.keep ae;replace Be:=cb.keep Be;replace Bf:=cb.keep Bf;replace E:=E.ext cb;refine Ah (ps:=[(0,(.slice (some ⟨g,0,none⟩) c c))]) (c:=#[(.slice (some ⟨g,0,none⟩) c c)]) qD rfl underlying46 Ay DY qD qD qK ?_;intro bh wh Nh;have Fh:=Nh.ge E;have Oh_bd:=Nh.lt Bd;have Oh_bo:=Nh.lt Bo;have Oh_b1:=Nh.lt ae;have Oh_be:=Nh.lt Be;have Oh_bf:=Nh.lt Bf;have Oh_g:=Nh.lt hG;replace Bd:=Nh.keep Bd;replace Bo:=Nh.keep Bo;replace ae:=Nh.keep ae;replace Be:=Nh.keep Be;replace Bf:=Nh.keep Bf;replace hG:=Nh.keep hG;replace E:=E.ext Nh.ext;have Bh:=Nh.blk;refine qV (B' (ps:=[(1,(.slice (some ⟨be,0,none⟩) 1 1)),(2,(.slice (some ⟨bh,0,none⟩) 1 1))]) (v:=(.agg #[(I6 0),(.slice (some ⟨be,0,none⟩) 1 1),(.slice (some ⟨bh,0,none⟩) 1 1)])) rfl qK) (A8 (b:=bo) (o:=0) (c':=#[(I6 0),(.slice (some ⟨be,0,none⟩) 1 1),(.slice (some ⟨bh,0,none⟩) 1 1)]) rfl rfl qS Aw rfl Bo qL rfl ?_);intro w2 S2;replace Bd:=S2.keep qO Bd;replace ae:=S2.keep qO ae;replace Be:=S2.keep qO Be;replace Bf:=S2.keep qO Bf;replace hG:=S2.keep qO hG;replace Bh:=S2.keep qO Bh;replace E:=S2.step E qQ;replace Bo:=S2.blk;refine AA (AS (AU (C5 results126 (vs:=[(.int .i64 0),(.slice (some ⟨be,0,none⟩) 1 1),(.slice (some ⟨bh,0,none⟩) 1 1)]) (b:=bo) rfl BB Aw rfl (Bo.cells rfl) ?_)));exact ⟨⟨⟨0,[-1],[List.replicate c (-1)]⟩,_,Jl ok dh,by show 1≤n;omega,fun x hx=>by rw[List.mem_singleton] at hx;rw[hx];decide,rfl,fun M w' ch hM=>Rd (ch.keep (LH hM qO Be qD) Be) (ch.keep (LH hM qO Bh qD) Bh) (ch.keep (LH hM qO hG qD) hG) qO⟩,E⟩
 ·have b2:0≤CH p d.start:=qO
  refine AM (AB (Y (By (c:=#[(I6 0),(.slice none 0 0),(.slice none 0 0)]) qD Ce rfl ?_)));intro br wr Nr;have Fr:=Nr.ge E;have Or_bd:=Nr.lt Bd;have Or_bo:=Nr.lt Bo;have Or_b1:=Nr.lt ae;replace Bd:=Nr.keep Bd;replace Bo:=Nr.keep Bo;replace ae:=Nr.keep ae;replace E:=E.ext Nr.ext;have Br:=Nr.blk;refine AA (Y (EB Cd Cd qD ?_));intro bm wm Nm;have Fm:=Nm.ge E;have Om_bd:=Nm.lt Bd;have Om_bo:=Nm.lt Bo;have Om_b1:=Nm.lt ae;have Om_br:=Nm.lt Br;replace Bd:=Nm.keep Bd;replace Bo:=Nm.keep Bo;replace ae:=Nm.keep ae;replace Br:=Nm.keep Br;replace E:=E.ext Nm.ext;intro Mm;refine qM (.slice (some ⟨b1,0,none⟩) n n) rfl (qF bd 0 0 rfl underlying48 rfl Ad rfl (qV (AE (v:=(I6 d.start)) rfl Ai (Bd.cell rfl)) (qV (AC (b:=b1) (o:=0) (len:=n) (cap:=n) (i:=s0) (o':=0+s0) rfl rfl qO underlying22 Ad qO qO) (qV (AE (v:=(I6 (CH p d.start))) rfl Ai (by rw[d9];exact DI ae eg)) (HH (k:=(CH p d.start)) (v:=0) underlying119 (Dz underlying3) Mm rfl rfl rfl ?_)))));intro w3 S3 H3;replace Bd:=S3.keep qO Bd;replace Bo:=S3.keep qO Bo;replace ae:=S3.keep qO ae;replace Br:=S3.keep qO Br;replace E:=S3.step E qQ;replace Mm:=H3;refine qM (.map (some bm)) rfl (qA (.map (some bm)) rfl (AA (Y (qF bd 0 0 rfl underlying48 rfl Ad rfl (qV (AE (v:=(I6 d.start)) rfl Ai (Bd.cell rfl)) (Ah (ps:=[(0,(I6 d.start))]) (c:=#[(I6 d.start)]) qD rfl underlying22 Ad BY qD qD qK ?_))))));intro bs ws Ns;have Fs:=Ns.ge E;have Os_bd:=Ns.lt Bd;have Os_bo:=Ns.lt Bo;have Os_b1:=Ns.lt ae;have Os_br:=Ns.lt Br;have Os_bm:=Ns.ltM Mm;replace Bd:=Ns.keep Bd;replace Bo:=Ns.keep Bo;replace ae:=Ns.keep ae;replace Br:=Ns.keep Br;replace Mm:=Ns.keepM Mm;replace E:=E.ext Ns.ext;have Bs:=Ns.blk;refine qA (.slice (some ⟨bs,0,none⟩) 1 1) rfl (AA (AI (Y (qA (I6 0) rfl (AA (AO ?_))))));obtain ⟨n1,f4⟩:∃n1,n1=bs:=⟨_,rfl⟩;have fb:bs<ws.heap.size:=Bs.lt;have fn:=FL (base:=n1) Bs qO;have e7:=CanP.start (c:=c) dq b2;refine Ap (fun nn_ σ W4=>∃(i:Nat) (ag:List (List Int)) (st aq:List Int) (vs:List Value) (sa ea am:Option Addr) (ah sn ec ak:Nat),(∃jj_,σ=BK jj_ [(1,(P6 bd 0)),(2,(P6 bo 0)),(3,(.slice (some ⟨b1,0,none⟩) n n)),(4,(I6 (c:Int))),(5,(P6 br 0)),(6,(.map (some bm))),(8,(I6 (i:Int))),(7,(.slice sa sn ah))])∧Chg Ab w0 W4∧Az W4 bd #[(I6 d.start),(.slice (some ⟨ab,ao,none⟩) n ac),(.slice (some ⟨nb,no,none⟩) n nc)] 48∧Az W4 bo #[(I6 0),(.slice none 0 0),(.slice none 0 0)] 48∧Az W4 b1 ((p.map (Value.int .i64)).toArray) 3∧Az W4 br (#[Value.int .i64 0,.slice ea i ec,.slice am i ak]) 48∧BZ W4 bm Cd Cd (Cc (st.map (CH p)) 0)∧(CanP n c d p ag [] st)∧(ag.length=i)∧(sn=st.length)∧(i≤sn)∧(aq=(st.take i).map (Co d))∧(W4.ownsRow n1 CF 1 (.slice sa sn ah) sn (st.map (Value.int .i64)))∧(OutSt W4 n1 (.slice ea i ec) (.slice am i ak) vs aq ag)∧(∀b,(Value.slice sa sn ah).ownBlock=some b→¬Eb (.slice ea i ec) (.slice am i ak) vs b)∧(n1≤W4.heap.size)∧nn_=n - i) (n:=n - 0) ?_ ?_
  ·exact ⟨0,[],[d.start],[],[],some ⟨bs,0,none⟩,none,none,1,1,0,0,Ac.out ⟨rfl,rfl,rfl,rfl,rfl,rfl,rfl,rfl,trivial⟩,E,Bd,Bo,ae,Br,Mm,e7,rfl,rfl,qO,rfl,fn,OutSt.start _ _,(fun b _ h=>by rcases h with h|h|⟨i,v,h,_⟩;cases h;cases h;simp at h),qO,rfl⟩
  ·clear E Bd Bo ae Br Mm;rintro _ _ W4 ⟨i,ag,st,aq,vs,sa,ea,am,ah,sn,ec,ak,⟨j4,rfl⟩,E,Bd,Bo,ae,Br,Mm,hC,cy,bn,fp,bt,hS,hO,az,ar,rfl⟩;refine AI (Y (qM (I6 (i:Int)) rfl (qM (.slice sa sn ah) rfl (qV (AL (ad:=sa) (n:=sn) (cap:=ah) underlying22 rfl) (qV (A0 (k:=.i64) (a:=(i:Int)) (b:=(sn:Int)) rfl rfl) (AA (qC rfl (fun e1=>?_) (fun e1=>?_))))))))
   ·obtain ⟨s,av⟩:=AK (l:=st) (i:=i) qO;obtain ⟨dl,e6,f3⟩:=hC.sl s (List.mem_of_getElem? av);obtain ⟨sN,em⟩:=Int.eq_ofNat_of_zero_le dl;obtain ⟨row,ra,rc,a3,dz,cd,ez⟩:=bp sN qO;have hle:=hC.st_le;have c5:((ag.length:Nat):Int)≤FZ ag.flatten:=by have:=hC.mx;rw[List.append_nil] at this;omega
    obtain ⟨sb,rfl,fi,cj⟩:=BS hS qO;obtain ⟨z0,hz0⟩:∃z0,z0=(W4).heap.size:=⟨_,rfl⟩;have hnz:n1≤z0:=qO
    have ct:∀b,Eb (.slice ea i ec) (.slice am i ak) vs b→b<z0:=fun b hb=>by have:=(hO.lt hb).2;omega
    have fo:∀b,(Value.slice (some ⟨sb,0,none⟩) sn ah).ownBlock=some b→b<z0:=fun b hb=>by have:=(hS.lt b hb).2;omega
    refine AM (AB (AI (AO (Y (qM (I6 (c:Int)) rfl (Dx (n:=c) (z:=(I6 0)) (bytes:=8) qD underlying22 Ad Dj BY rfl rfl rfl qO qO ?_))))));intro bq wq Nq;have Fq:=Nq.ge E;have Oq_bd:=Nq.lt Bd;have Oq_bo:=Nq.lt Bo;have Oq_b1:=Nq.lt ae;have Oq_br:=Nq.lt Br;have Oq_bm:=Nq.ltM Mm;replace Bd:=Nq.keep Bd;replace Bo:=Nq.keep Bo;replace ae:=Nq.keep ae;replace Br:=Nq.keep Br;replace Mm:=Nq.keepM Mm;replace hS:=Am hS Nq.ext;replace hO:=hO.ext Nq.ext;replace ar:=Nat.le_trans ar Nq.ext.size;replace cj:=cj.ext Nq.ext;replace E:=E.ext Nq.ext;have Bq:=Nq.blk;refine qA (.slice (some ⟨bq,0,none⟩) c c) rfl (AA (AI (AI ?_)));obtain ⟨f1,aj⟩:∃Fs:List Fact,Fs=[.eq (P6 bd 2),.eq (.slice (some ⟨nb,no,none⟩) n nc),.eq (.slice (some ⟨sb,0,none⟩) sn ah),.eq (I6 (i:Int)),.eq (.pointer (some ⟨sb,0+i,none⟩)),.eq (I6 s),.eq (.pointer (some ⟨nb,no+sN,none⟩)),.eq (.slice ra c rc),.eq (I6 (c:Int)),.eq (I6 0)]:=⟨_,rfl⟩;refine IE [51,52,53,54,55,56,57,58,59,60] [[],[0],[],[],[2,3],[4],[1,5],[6],[7],[]] f1 aj mixed qK qK ?_ ?_
    ·intro wd X0;refine DagSteps.cons (fun s' w' X U H=>Or.inl ⟨?_,?_⟩) ?_
     ·exact AQ rfl
     ·exact Aq (AT (b:=bd) (o:=0) (o':=2) (U 1 rfl) underlying48 rfl A' rfl) (Al.refl _) rfl
     refine DagSteps.cons (fun s' w' X U H=>Or.inl ⟨?_,?_⟩) ?_
     ·exact AQ rfl
     ·have fq:s' 51=(.pointer (some ⟨bd,2,none⟩)):=H 0 rfl 51 (.eq (.pointer (some ⟨bd,2,none⟩))) rfl (by rw[aj];rfl);exact Aq (AE (v:=(.slice (some ⟨nb,no,none⟩) n nc)) fq A4 (((X0.trans X).keep Bd).cell rfl)) (Al.refl _) rfl
     refine DagSteps.cons (fun s' w' X U H=>Or.inl ⟨?_,?_⟩) ?_
     ·exact AQ rfl
     ·exact Aq (AZ (v:=(.slice (some ⟨sb,0,none⟩) sn ah)) (U 7 rfl)) (Al.refl _) rfl
     refine DagSteps.cons (fun s' w' X U H=>Or.inl ⟨?_,?_⟩) ?_
     ·exact AQ rfl
     ·exact Aq (AZ (v:=(I6 (i:Int))) (U 8 rfl)) (Al.refl _) rfl
     refine DagSteps.cons (fun s' w' X U H=>Or.inl ⟨?_,?_⟩) ?_
     ·exact AQ rfl
     ·have e4:s' 53=(.slice (some ⟨sb,0,none⟩) sn ah):=H 2 rfl 53 (.eq (.slice (some ⟨sb,0,none⟩) sn ah)) rfl (by rw[aj];rfl);have fh:s' 54=(.int .i64 ((i:Nat):Int)):=H 3 rfl 54 (.eq (.int .i64 ((i:Nat):Int))) rfl (by rw[aj];rfl);exact Aq (AC (b:=sb) (o:=0) (len:=sn) (cap:=ah) (i:=i) (o':=0+i) e4 fh rfl underlying22 Ad qO qO) (Al.refl _) rfl
     refine DagSteps.cons (fun s' w' X U H=>Or.inl ⟨?_,?_⟩) ?_
     ·exact AQ rfl
     ·have fz:s' 55=(.pointer (some ⟨sb,0+i,none⟩)):=H 4 rfl 55 (.eq (.pointer (some ⟨sb,0+i,none⟩))) rfl (by rw[aj];rfl);exact Aq (AE (v:=(I6 s)) fz Ai ((X0.trans X).cell (cj i _ (by rw[List.getElem?_map,av];rfl)))) (Al.refl _) rfl
     refine DagSteps.cons (fun s' w' X U H=>Or.inl ⟨?_,?_⟩) ?_
     ·exact AQ rfl
     ·have f9:s' 52=(.slice (some ⟨nb,no,none⟩) n nc):=H 1 rfl 52 (.eq (.slice (some ⟨nb,no,none⟩) n nc)) rfl (by rw[aj];rfl);have ex:s' 56=(.int .i64 s):=H 5 rfl 56 (.eq (.int .i64 s)) rfl (by rw[aj];rfl);exact Aq (AC (b:=nb) (o:=no) (len:=n) (cap:=nc) (i:=sN) (o':=no+sN) f9 ex qO underlying46 Ay qO qO) (Al.refl _) rfl
     refine DagSteps.cons (fun s' w' X U H=>Or.inl ⟨?_,?_⟩) ?_
     ·exact AQ rfl
     ·have e8:s' 57=(.pointer (some ⟨nb,no+sN,none⟩)):=H 6 rfl 57 (.eq (.pointer (some ⟨nb,no+sN,none⟩))) rfl (by rw[aj];rfl);exact Aq (AE (v:=(.slice ra c rc)) e8 Ax ((Chg.ext E (X0.trans X)).cell (fun f=>f) cd)) (Al.refl _) rfl
     refine DagSteps.cons (fun s' w' X U H=>Or.inl ⟨?_,?_⟩) ?_
     ·exact AQ rfl
     ·have fj:s' 58=(.slice ra c rc):=H 7 rfl 58 (.eq (.slice ra c rc)) rfl (by rw[aj];rfl);exact Aq (AL (ad:=ra) (n:=c) (cap:=rc) underlying22 fj) (Al.refl _) rfl
     refine DagSteps.cons (fun s' w' X U H=>Or.inl ⟨?_,?_⟩) ?_
     ·exact AQ rfl
     ·exact Aq (AZ (v:=(I6 0)) rfl) (Al.refl _) rfl
     exact DagSteps.nil
    ·intro s' w6 X6 U H;obtain ⟨j6,rfl⟩:=Ac.out (σ:=s') (l:=[(1,(.pointer (some ⟨bd,0,none⟩))),(2,(.pointer (some ⟨bo,0,none⟩))),(3,(.slice (some ⟨b1,0,none⟩) n n)),(4,(.int .i64 ((c:Nat):Int))),(5,(.pointer (some ⟨br,0,none⟩))),(6,(.map (some bm))),(7,(.slice (some ⟨sb,0,none⟩) sn ah)),(8,(.int .i64 ((i:Nat):Int))),(9,(.slice (some ⟨bq,0,none⟩) c c)),(58,(.slice ra c rc)),(59,(.int .i64 ((c:Nat):Int))),(60,(.int .i64 0))]) ⟨U 1 rfl,U 2 rfl,U 3 rfl,U 4 rfl,U 5 rfl,U 6 rfl,U 7 rfl,U 8 rfl,U 9 rfl,(show s' 58=(.slice ra c rc) from H 7 58 (.eq (.slice ra c rc)) rfl (by rw[aj];rfl)),(show s' 59=(.int .i64 ((c:Nat):Int)) from H 8 59 (.eq (.int .i64 ((c:Nat):Int))) rfl (by rw[aj];rfl)),(show s' 60=(.int .i64 0) from H 9 60 (.eq (.int .i64 0)) rfl (by rw[aj];rfl)),trivial⟩;clear U H;replace Bd:=X6.keep Bd;replace Bo:=X6.keep Bo;replace ae:=X6.keep ae;replace Br:=X6.keep Br;replace Mm:=X6.keepM Mm;replace Bq:=X6.keep Bq;replace hS:=Am hS X6;replace hO:=hO.ext X6;replace ar:=Nat.le_trans ar X6.size;replace cj:=cj.ext X6;replace E:=E.ext X6;have hqz:z0≤bq:=by have:=Nq.eq;omega
     rw[show List.replicate c (Value.int .i64 0)=(List.replicate c (0:Int)).map (Value.int .i64) by simp] at Bq;refine AB (AO (Ap (fun nn_ σ W7=>∃(x:Nat) (R:List Int) (st:List Int) (sa:Option Addr) (ah sn:Nat),(∃jj_,σ=BK jj_ [(1,(P6 bd 0)),(2,(P6 bo 0)),(3,(.slice (some ⟨b1,0,none⟩) n n)),(4,(I6 (c:Int))),(5,(P6 br 0)),(6,(.map (some bm))),(8,(I6 (i:Int))),(9,(.slice (some ⟨bq,0,none⟩) c c)),(58,(.slice ra c rc)),(59,(I6 (c:Int))),(60,(I6 (x:Int))),(7,(.slice sa sn ah))])∧Chg Ab w0 W7∧Az W7 bd #[(I6 d.start),(.slice (some ⟨ab,ao,none⟩) n ac),(.slice (some ⟨nb,no,none⟩) n nc)] 48∧Az W7 bo #[(I6 0),(.slice none 0 0),(.slice none 0 0)] 48∧Az W7 b1 ((p.map (Value.int .i64)).toArray) 3∧Az W7 br (#[Value.int .i64 0,.slice ea i ec,.slice am i ak]) 48∧BZ W7 bm Cd Cd (Cc (st.map (CH p)) 0)∧Az W7 bq ((R.map (Value.int .i64)).toArray) 3∧(x≤c)∧(R.length=c)∧(CanP n c d p ag (R.take x) st)∧(st[i]?=some s)∧(sn=st.length)∧((st.take i).map (Co d)=aq)∧(W7.ownsRow n1 CF 1 (.slice sa sn ah) sn (st.map (Value.int .i64)))∧(OutSt W7 n1 (.slice ea i ec) (.slice am i ak) vs aq ag)∧(∀b,(Value.slice sa sn ah).ownBlock=some b→¬Eb (.slice ea i ec) (.slice am i ak) vs b∧b≠bq)∧(n1≤W7.heap.size)∧nn_=c - x) (n:=c - 0) ?_ ?_))
     ·exact ⟨0,List.replicate c 0,st,some ⟨sb,0,none⟩,ah,sn,Ac.out ⟨rfl,rfl,rfl,rfl,rfl,rfl,rfl,rfl,rfl,rfl,rfl,rfl,trivial⟩,E,Bd,Bo,ae,Br,Mm,Bq,Nat.zero_le _,qP,(by simpa using hC),av,bn,bt.symm,hS,hO,(fun b hb=>⟨az b hb,fun e=>by have:=fo b hb;omega⟩),ar,rfl⟩
     ·clear E Bd Bo ae Br Mm Bq;rintro _ _ W7 ⟨x,R,st,sa,ah,sn,⟨j7,rfl⟩,E,Bd,Bo,ae,Br,Mm,Bq,hx,b5,hC,av,bn,ca,hS,hO,az,ar,rfl⟩;refine Y (qV (A0 (k:=.i64) (a:=(x:Int)) (b:=(c:Int)) rfl rfl) (AA (AI (qC rfl (fun c9=>?_) (fun c9=>?_)))))
      ·obtain ⟨t,ht⟩:=AK (l:=row) (i:=x) qO;obtain ⟨rb,ro,rfl,e3⟩:=Ao (n:=c) ez qO;obtain ⟨cr,_,_,hxl,hxh⟩:=FT ok a3 ht;rw[←em] at cr;have bg:(R.take x).length=x:=by simp;omega
       have cx:st[ag.length]?=some s:=by rw[cy];exact av
       have es:=DA (L:=R) (s:=x) (x:=-1) qO;refine AM (AB (AI (AO (Y (qM (I6 (x:Int)) rfl (qV (AC (b:=rb) (o:=ro) (len:=c) (cap:=rc) (i:=x) (o':=ro+x) rfl rfl rfl underlying22 Ad qO qO) (qV (AE (v:=(I6 t)) rfl Ai (E.cell (fun f=>f) (e3 x t ht))) (qA (I6 (x:Int)) rfl (qA (I6 t) rfl (AA (AI (Y (qM (.slice (some ⟨bq,0,none⟩) c c) rfl (qM (I6 (x:Int)) rfl (qV (AC (b:=bq) (o:=0) (len:=c) (cap:=c) (i:=x) (o':=0+x) rfl rfl rfl underlying22 Ad qO qO) (A9 (b:=bq) (o:=0+x) (c':=((R.set x (-1)).map (Value.int .i64)).toArray) (v:=(I6 (-1))) rfl rfl rfl Ad Bq (by simp;omega) (DC _) ?_))))))))))))))));intro w9 S9;replace hS:=Av hS S9.chg fun b hb h=>(az b hb).2 h;replace hO:=hO.chg S9.chg fun b hb h=>by have:=ct b hb;have h':b=bq:=h;omega
       replace ar:=Nat.le_trans ar S9.chg.size;replace Bd:=S9.keep qO Bd;replace Bo:=S9.keep qO Bo;replace ae:=S9.keep qO ae;replace Br:=S9.keep qO Br;replace Mm:=S9.keepM qO Mm;replace E:=S9.step E qQ;replace Bq:=S9.blk;refine AA (Y (qM (I6 t) rfl (qV (A0 (k:=.i64) (a:=t) (b:=0) rfl rfl) (qM (.bool (decide ((t:Int)<0))) rfl ?_))));rcases Bool.eq_false_or_eq_true (decide ((t:Int)<0)) with ai|ai
       ·have an:=ai;replace an:=of_decide_eq_true an;have d3:Li d p st s (R.take x).length (-1):=.inl ⟨rfl,by rw[bg,cr,Gj an];decide⟩;refine AF (oj:=_) rfl rfl qD (v:=.bool true) (BH ai) (Or.inl rfl) (AF (oj:=_) rfl rfl qD (v:=.bool true) (BH ai) (Or.inl rfl) (AF (oj:=_) rfl rfl qD (v:=.bool true) (BH ai) (Or.inl rfl) (AF (oj:=_) rfl rfl qD (v:=.bool true) (BH ai) (Or.inl rfl) (AF (oj:=_) rfl rfl qD (v:=.bool true) (BH ai) (Or.inl rfl) (qV (Ag (b:=decide ((t:Int)<0)) (v:=(.bool true)) rfl (by rw[ai];rfl)) (AA (A7 rfl (Ak (AP (Ae (AB (AJ (qV (Ar (k:=.i64) (a:=(x:Int)) (b:=1) (c:=(x:Int)+1) rfl rfl (A5 qO)) (qM (I6 ((x:Int)+1)) rfl (AA (AB ?_))))))))))))))));exact ⟨c - (x+1),qO,x+1,R.set x (-1),st,sa,ah,sn,Ac.out ⟨rfl,rfl,rfl,rfl,rfl,rfl,rfl,rfl,rfl,rfl,rfl,rfl,trivial⟩,E,Bd,Bo,ae,Br,Mm,Bq,qO,(by simp[b5]),(by rw[es];exact hC.add cx d3),av,bn,ca,hS,hO,az,ar,rfl⟩
       ·have an:=ai;replace an:=of_decide_eq_false an;obtain ⟨tN,dt⟩:=Int.eq_ofNat_of_zero_le (show 0≤t by omega);have dd:=L8 cz.len (show tN<n by omega);refine AD (oj:=_) rfl rfl qD (BH ai) (qM (.slice (some ⟨b1,0,none⟩) n n) rfl (AD (oj:=_) rfl rfl qD (BH ai) (qM (I6 t) rfl (AD (oj:=_) rfl rfl qD (BH ai) (qV (AC (b:=b1) (o:=0) (len:=n) (cap:=n) (i:=tN) (o':=0+tN) rfl rfl qO underlying22 Ad qO qO) (AD (oj:=_) rfl rfl qD (BH ai) (qV (AE (v:=(I6 (CH p t))) rfl Ai (by rw[dt];exact DI ae dd)) (AD (oj:=_) rfl rfl qD (BH ai) (qV (A0 (k:=.i64) (a:=CH p t) (b:=0) rfl rfl) (qV (Ag (b:=decide ((t:Int)<0)) (v:=(.bool (decide ((CH p t:Int)<0)))) rfl (by rw[ai];rfl)) (AA (qC rfl (fun f5=>?_) (fun f5=>?_)))))))))))))
        ·have d3:Li d p st s (R.take x).length (-1):=.inl ⟨rfl,by rw[bg,cr];omega⟩;refine Ak (AP (Ae (AB (AJ (qV (Ar (k:=.i64) (a:=(x:Int)) (b:=1) (c:=(x:Int)+1) rfl rfl (A5 qO)) (qM (I6 ((x:Int)+1)) rfl (AA (AB ?_))))))));exact ⟨c - (x+1),qO,x+1,R.set x (-1),st,sa,ah,sn,Ac.out ⟨rfl,rfl,rfl,rfl,rfl,rfl,rfl,rfl,rfl,rfl,rfl,rfl,trivial⟩,E,Bd,Bo,ae,Br,Mm,Bq,qO,(by simp[b5]),(by rw[es];exact hC.add cx d3),av,bn,ca,hS,hO,az,ar,rfl⟩
        ·refine AM (AB (Y (qM (.map (some bm)) rfl (qM (.slice (some ⟨b1,0,none⟩) n n) rfl (qM (I6 t) rfl (qV (AC (b:=b1) (o:=0) (len:=n) (cap:=n) (i:=tN) (o':=0+tN) rfl rfl qO underlying22 Ad qO qO) (qV (AE (v:=(I6 (CH p t))) rfl Ai (by rw[dt];exact DI ae dd)) (BV (v:=(.tuple #[(I6 ((A3 (Cc (st.map (CH p)) 0) (CH p t)).getD 0)),(.bool ((A3 (Cc (st.map (CH p)) 0) (CH p t)).isSome))])) rfl rfl qD (FK (k:=(CH p t)) (z:=0) underlying119 (Dz underlying3) BY Mm rfl rfl) (qM (.tuple #[(I6 ((A3 (Cc (st.map (CH p)) 0) (CH p t)).getD 0)),(.bool ((A3 (Cc (st.map (CH p)) 0) (CH p t)).isSome))]) rfl (qV (Aj (vs:=#[(I6 ((A3 (Cc (st.map (CH p)) 0) (CH p t)).getD 0)),(.bool ((A3 (Cc (st.map (CH p)) 0) (CH p t)).isSome))]) (v:=(I6 ((A3 (Cc (st.map (CH p)) 0) (CH p t)).getD 0))) rfl rfl) (qV (Aj (vs:=#[(I6 ((A3 (Cc (st.map (CH p)) 0) (CH p t)).getD 0)),(.bool ((A3 (Cc (st.map (CH p)) 0) (CH p t)).isSome))]) (v:=(.bool ((A3 (Cc (st.map (CH p)) 0) (CH p t)).isSome))) rfl rfl) (qA (I6 ((A3 (Cc (st.map (CH p)) 0) (CH p t)).getD 0)) rfl (qA (.bool ((A3 (Cc (st.map (CH p)) 0) (CH p t)).isSome)) rfl (AA (Ex (fun σ a4=>∃(bk:List Int) (j:Nat) (cp:Option Addr) (cm b7:Nat),(∃jj_,σ=BK jj_ [(1,(P6 bd 0)),(2,(P6 bo 0)),(3,(.slice (some ⟨b1,0,none⟩) n n)),(4,(I6 (c:Int))),(5,(P6 br 0)),(6,(.map (some bm))),(8,(I6 (i:Int))),(9,(.slice (some ⟨bq,0,none⟩) c c)),(10,(I6 (x:Int))),(58,(.slice (some ⟨rb,ro,none⟩) c rc)),(59,(I6 (c:Int))),(60,(I6 (x:Int))),(7,(.slice cp b7 cm)),(12,(I6 (j:Int)))])∧Chg Ab w0 a4∧Az a4 bd #[(I6 d.start),(.slice (some ⟨ab,ao,none⟩) n ac),(.slice (some ⟨nb,no,none⟩) n nc)] 48∧Az a4 bo #[(I6 0),(.slice none 0 0),(.slice none 0 0)] 48∧Az a4 b1 ((p.map (Value.int .i64)).toArray) 3∧Az a4 br (#[Value.int .i64 0,.slice ea i ec,.slice am i ak]) 48∧BZ a4 bm Cd Cd (Cc (bk.map (CH p)) 0)∧Az a4 bq (((R.set x (-1)).map (Value.int .i64)).toArray) 3∧(CanP n c d p ag (R.take x++[(j:Int)]) bk)∧(bk[i]?=some s)∧(b7=bk.length)∧((bk.take i).map (Co d)=aq)∧(a4.ownsRow n1 CF 1 (.slice cp b7 cm) b7 (bk.map (Value.int .i64)))∧(OutSt a4 n1 (.slice ea i ec) (.slice am i ak) vs aq ag)∧(∀b,(Value.slice cp b7 cm).ownBlock=some b→¬Eb (.slice ea i ec) (.slice am i ak) vs b∧b≠bq)∧(n1≤a4.heap.size)) ?_ ?_)))))))))))))))
         ·skip
          refine Y (qM (.bool ((A3 (Cc (st.map (CH p)) 0) (CH p t)).isSome)) rfl (qV (CM (b:=(A3 (Cc (st.map (CH p)) 0) (CH p t)).isSome) rfl) (AA (As (b:=!((A3 (Cc (st.map (CH p)) 0) (CH p t)).isSome)) rfl (fun ap=>?_) (fun ap=>?_)))))
          ·have co:=ap;replace ap:=by simpa using ap
           have f2:A3 (Cc (st.map (CH p)) 0) (CH p t)=none:=by simpa using ap
           obtain ⟨dm,d1⟩:=NQ f2;have bj:Bu d s (R.take x).length=t:=by rw[bg,cr]
           have fv:=hC.st_le;refine Y (qM (.slice sa sn ah) rfl (qV (AL (ad:=sa) (n:=sn) (cap:=ah) underlying22 rfl) (qA (I6 (sn:Int)) rfl (AA (Y (qM (.map (some bm)) rfl (qM (.slice (some ⟨b1,0,none⟩) n n) rfl (qM (I6 t) rfl (qV (AC (b:=b1) (o:=0) (len:=n) (cap:=n) (i:=tN) (o':=0+tN) rfl rfl qO underlying22 Ad qO qO) (qV (AE (v:=(I6 (CH p t))) rfl Ai (by rw[dt];exact DI ae dd)) (qM (I6 (sn:Int)) rfl (Dk (k:=(CH p t)) (v:=(sn:Int)) underlying119 (Dz underlying3) Mm rfl rfl rfl ?_))))))))))));intro w14 bb fc;replace hS:=Av hS bb.chg fun b hb h=>by have:=(hS.lt b hb).1;have h':b=bm:=h;omega
           replace hO:=hO.chg bb.chg fun b hb h=>by have:=(hO.lt hb).1;have h':b=bm:=h;omega
           replace ar:=Nat.le_trans ar bb.chg.size;replace Bd:=bb.keep qO Bd;replace Bo:=bb.keep qO Bo;replace ae:=bb.keep qO ae;replace Br:=bb.keep qO Br;replace Bq:=bb.keep qO Bq;replace E:=bb.step E qQ;replace Mm:=fc;refine AA (AJ (qM (.slice sa sn ah) rfl (qM (I6 t) rfl (Ah (ps:=[(0,(I6 t))]) (c:=#[(I6 t)]) qD rfl underlying22 Ad BY qD qD qK ?_))));intro b15 w15 au;have F15:=au.ge E;have O15_bd:=au.lt Bd;have O15_bo:=au.lt Bo;have O15_b1:=au.lt ae;have O15_br:=au.lt Br;have O15_bm:=au.ltM Mm;have O15_bq:=au.lt Bq;replace Bd:=au.keep Bd;replace Bo:=au.keep Bo;replace ae:=au.keep ae;replace Br:=au.keep Br;replace Mm:=au.keepM Mm;replace Bq:=au.keep Bq;replace hS:=Am hS au.ext;replace hO:=hO.ext au.ext;replace ar:=Nat.le_trans ar au.ext.size;replace E:=E.ext au.ext;have f7:=au.blk;have dn:=Bq.lt;refine BU (base:=n1) (n:=sn) (m:=1) (xs:=(st.map (Value.int .i64))) (news:=[(I6 t)]) (size:=1) (bytes:=8) (v:=(.slice sa sn ah)) qD underlying22 Ad Dj BY rfl qD rfl hS rfl (rfl) (f7.cells rfl) qS (by unfold maxLen;omega) qO (ar) ?_;intro v7 w59 eh bi fu;replace Bd:=bi.keep (fun h=>by have:=(hS.lt _ h).1;omega) Bd;replace Bo:=bi.keep (fun h=>by have:=(hS.lt _ h).1;omega) Bo;replace ae:=bi.keep (fun h=>by have:=(hS.lt _ h).1;omega) ae;replace Br:=bi.keep (fun h=>by have:=(hS.lt _ h).1;omega) Br;replace Mm:=bi.keepM (fun h=>by have:=(hS.lt _ h).1;omega) Mm;replace Bq:=bi.keep (fun h=>(az _ h).2 rfl) Bq;replace E:=E.step bi (fun x hx h=>absurd (hS.lt x h).1 qO);obtain ⟨eu,ee,rfl⟩:=BD eh;rw[bn,show ((st.length:Nat):Int)=(((st.map (CH p)).length:Nat):Int) by rw[List.length_map],d1,show st.map (CH p)++[CH p t]=(st++[t]).map (CH p) by simp] at Mm;refine qA (.slice eu (sn+1) ee) rfl (AA (AB ?_));exact ⟨st++[t],sn,eu,ee,sn+1,Ac.out ⟨rfl,rfl,rfl,rfl,rfl,rfl,rfl,rfl,rfl,rfl,rfl,rfl,rfl,rfl,trivial⟩,E,Bd,Bo,ae,Br,Mm,Bq,(by rw[bn];have h9:=hC.new cx (by rw[bj];omega) (by rw[bj];omega) (fun u hu he=>dm (by rw[←bj,←he];exact List.mem_map.2 ⟨u,hu,rfl⟩));rw[bj] at h9;exact h9),(by rw[List.getElem?_append_left (AG av)];exact av),(by simp;omega),(by rw[List.take_append_of_le_length (by have:=AG av;omega)];exact ca),(by rw[List.map_append];exact eh),hO.chg bi (fun b hb h=>(az b h).1 hb),(fun b hb=>by rcases fu b hb with h9|h9;exact az b h9;exact ⟨fun ho=>by have:=(hO.lt ho).2;omega,fun e=>qO⟩),Nat.le_trans ar bi.size⟩
          ·have co:=ap;replace ap:=by simpa using ap
           have fg:(A3 (Cc (st.map (CH p)) 0) (CH p t)).isSome=true:=by simpa using ap
           obtain ⟨v9,eo⟩:=Option.isSome_iff_exists.1 fg;obtain ⟨j9,rfl,ed⟩:=Pg eo;rw[List.getElem?_map] at ed;obtain ⟨u,hu,ei⟩:=Option.map_eq_some_iff.1 ed;rw[show (A3 (Cc (st.map (CH p)) 0) (CH p t)).getD 0=((j9:Nat):Int) from by rw[eo];rfl];refine AM (AB ?_);exact ⟨st,j9,sa,ah,sn,Ac.out ⟨rfl,rfl,rfl,rfl,rfl,rfl,rfl,rfl,rfl,rfl,rfl,rfl,rfl,rfl,trivial⟩,E,Bd,Bo,ae,Br,Mm,Bq,hC.add cx (.inr ⟨j9,u,rfl,hu,by rw[bg,cr,ei],by rw[ei];omega⟩),av,bn,ca,hS,hO,az,ar⟩
         ·clear E Bd Bo ae Br Mm Bq;rintro _ a4 ⟨bk,j,cp,cm,b7,⟨j12,rfl⟩,E,Bd,Bo,ae,Br,Mm,Bq,fa,de,ds,df,dc,c6,cq,b4⟩;have dx:=DA (L:=R.set x (-1)) (s:=x) (x:=((j:Nat):Int)) (by simp;omega);refine AJ (qM (.slice (some ⟨bq,0,none⟩) c c) rfl (qM (I6 (x:Int)) rfl (qM (I6 (j:Int)) rfl (qV (AC (b:=bq) (o:=0) (len:=c) (cap:=c) (i:=x) (o':=0+x) rfl rfl rfl underlying22 Ad qO qO) (A9 (b:=bq) (o:=0+x) (c':=(((R.set x (-1)).set x (j:Int)).map (Value.int .i64)).toArray) (v:=(I6 (j:Int))) rfl rfl rfl Ad Bq (by simp;omega) (DC _) ?_)))));intro w16 ba;replace dc:=Av dc ba.chg fun b hb h=>(cq b hb).2 h;replace c6:=c6.chg ba.chg fun b hb h=>by have:=ct b hb;have h':b=bq:=h;omega
          replace b4:=Nat.le_trans b4 ba.chg.size;replace Bd:=ba.keep qO Bd;replace Bo:=ba.keep qO Bo;replace ae:=ba.keep qO ae;replace Br:=ba.keep qO Br;replace Mm:=ba.keepM qO Mm;replace E:=ba.step E qQ;replace Bq:=ba.blk;refine AA (AN (AB (AJ (qV (Ar (k:=.i64) (a:=(x:Int)) (b:=1) (c:=(x:Int)+1) rfl rfl (A5 qO)) (qM (I6 ((x:Int)+1)) rfl (AA (AB ?_)))))));exact ⟨c - (x+1),qO,x+1,(R.set x (-1)).set x ((j:Nat):Int),bk,cp,cm,b7,Ac.out ⟨rfl,rfl,rfl,rfl,rfl,rfl,rfl,rfl,rfl,rfl,rfl,rfl,trivial⟩,E,Bd,Bo,ae,Br,Mm,Bq,qO,(by simp[b5]),(by rw[dx,List.take_set_of_le (Nat.le_refl x)];exact fa),de,ds,df,dc,c6,cq,b4,rfl⟩
      ·have gc:x=c:=qO
       rw[gc,show R.take c=R by rw[←b5,List.take_length]] at hC;obtain ⟨n4,et⟩:∃n4,n4=(W7).heap.size:=⟨_,rfl⟩;obtain ⟨bz,rfl,_,c4⟩:=BS hS (by have:=AG av;omega);have cg:aq.length=i:=by rw[←ca,List.length_map,List.length_take];have:=AG av;omega
       have ax:(W7).ownsRow n1 CF 1 (.slice ea i ec) i (aq.map (Value.int .i64)):=by have h9:=hO.e;rwa [cg] at h9
       have a2:(W7).ownsRow n1 CX 1 (.slice am i ak) i vs:=hO.n.on (by rw[List.length_map];omega);have f8:=hC.st_le;have fw:=AG av;have ew:=Ew ok (show sN<n by omega);obtain ⟨yv,d8⟩:∃y,y=Co d s:=⟨_,rfl⟩;rw[←em,←d8] at ew;have dn:=Bq.lt;have e0:=Ht (base:=bq) Bq (Nat.le_refl _) b5;refine Ak (AP (AP (Ae (AB ?_))));obtain ⟨d0,af⟩:∃Fs:List Cy,Fs=[(fun _ v _=>v=(P6 br 2)),(fun _ v _=>v=(.slice am i ak)),(fun _ v _=>v=(.slice (some ⟨bq,0,none⟩) c c)),(fun _=>Ct CX #[.slice (some ⟨bq,0,none⟩) c c] n4),(fun _=>CW n1 CX 1 (i+1) (vs++[Value.slice (some ⟨bq,0,none⟩) c c]) (.slice am i ak) n4),(fun _ v _=>v=(P6 br 1)),(fun _ v _=>v=(.slice ea i ec)),(fun _ v _=>v=(P6 bd 1)),(fun _ v _=>v=(.slice (some ⟨ab,ao,none⟩) n ac)),(fun _ v _=>v=(.slice (some ⟨bz,0,none⟩) sn ah)),(fun _ v _=>v=(I6 (i:Int))),(fun _ v _=>v=(.pointer (some ⟨bz,0+i,none⟩))),(fun _ v _=>v=(I6 s)),(fun _ v _=>v=(.pointer (some ⟨ab,ao+sN,none⟩))),(fun _ v _=>v=(I6 yv)),(fun _=>Ct CF #[.int .i64 yv] n4),(fun s v w=>CW n1 CF 1 (i+1) (aq.map (Value.int .i64)++[Value.int .i64 yv]) (.slice ea i ec) n4 v w∧∀b,(s 109).ownBlock=some b→v.ownBlock≠some b),(fun _ v _=>v=(P6 br 2))]:=⟨_,rfl⟩;refine Hi (two 4 16 (fun b=>(Value.slice am i ak).ownBlock=some b) (fun b=>(Value.slice ea i ec).ownBlock=some b)) 18 [105,106,107,108,109,110,111,112,113,114,115,116,117,118,119,120,121,122] [[],[0],[],[2],[1,3],[],[5],[],[7],[],[],[9,10],[11],[8,12],[13],[14],[4,6,15],[0,1,2,3,4,5,6]] [[],[0],[],[2],[1,0,3,2],[],[5],[],[7],[],[],[9,10],[11,9,10],[8,7,12,11,9,10],[13,8,7,12,11,9,10],[14,13,8,7,12,11,9,10],[4,1,0,3,2,6,5,15,14,13,8,7,12,11,9,10],[0,1,2,3,4,5,6]] d0 af qK mixed qK qK qK ?_ ?_
       ·intro wd X0;refine DagStepsX.cons (BE.eq) (fun _ _ _ _ _ h=>h) (fun s' w' X U H=>?_) ?_
        ·exact AR (AT (b:=br) (o:=0) (o':=2) (U 5 rfl) underlying48 rfl A' rfl) (Chg.refl _ _) rfl
        refine DagStepsX.cons (BE.eq) (fun _ _ _ _ _ h=>h) (fun s' w' X U H=>?_) ?_
        ·have d6:=H 0 rfl 105 _ rfl (by rw[af];rfl);exact AR (AE (v:=(.slice am i ak)) d6 A4 ((Chg.keep X (fun h=>(fun h=>h.elim (fun h=>by have:=(a2.lt _ h).1;omega) (fun h=>by have:=(ax.lt _ h).1;omega)) (C3.or h)) (X0.keep Br)).cell rfl)) (Chg.refl _ _) rfl
        refine DagStepsX.cons (BE.eq) (fun _ _ _ _ _ h=>h) (fun s' w' X U H=>?_) ?_
        ·exact AR (AZ (v:=(.slice (some ⟨bq,0,none⟩) c c)) (U 9 rfl)) (Chg.refl _ _) rfl
        refine DagStepsX.cons (DB (fun y h=>by have:=(a2.lt y h).2;omega) (fun y h=>by have:=(ax.lt y h).2;omega)) (FS.const) (fun s' w' X U H=>?_) ?_
        ·have du:=H 2 rfl 107 _ rfl (by rw[af];rfl);exact Cl (hs:=n4) underlying46 Ay DY du qD qD qK (by have:=X0.size;have:=X.size;omega)
        refine DagStepsX.cons (Hg (fun k hk hm=>hk.elim (fun h=>hO.en k hm h) (fun h=>by have:=(ax.lt k hm).2;omega))) (FS.const) (fun s' w' X U H=>?_) ?_
        ·have dr:=H 1 rfl 106 _ rfl (by rw[af];rfl);obtain ⟨fk,dk,d4,ft⟩:=(show ((fun _=>Ct CX #[.slice (some ⟨bq,0,none⟩) c c] n4):Cy) s' (s' 108) w' from H 3 rfl 108 ((fun _=>Ct CX #[.slice (some ⟨bq,0,none⟩) c c] n4)) rfl (by rw[af];rfl));exact CL (hs:=n4) underlying46 Ay IR DY rfl qD dr (Am (Am a2 X0) (X.mono (fun y _ h=>C3.none rfl rfl h))) dk rfl (d4.cells rfl) qS (by unfold maxLen;omega) qO (by have:=X0.size;have:=X.size;omega) (fun y h=>h) (by have:=X0.size;have:=X.size;omega)
        refine DagStepsX.cons (BE.eq) (fun _ _ _ _ _ h=>h) (fun s' w' X U H=>?_) ?_
        ·exact AR (AT (b:=br) (o:=0) (o':=1) (U 5 rfl) underlying48 rfl Ay rfl) (Chg.refl _ _) rfl
        refine DagStepsX.cons (BE.eq) (fun _ _ _ _ _ h=>h) (fun s' w' X U H=>?_) ?_
        ·have c0:=H 5 rfl 110 _ rfl (by rw[af];rfl);exact AR (AE (v:=(.slice ea i ec)) c0 Ax ((Chg.keep X (fun h=>(fun h=>h.elim (fun h=>by have:=(a2.lt _ h).1;omega) (fun h=>by have:=(ax.lt _ h).1;omega)) (C3.or h)) (X0.keep Br)).cell rfl)) (Chg.refl _ _) rfl
        refine DagStepsX.cons (BE.eq) (fun _ _ _ _ _ h=>h) (fun s' w' X U H=>?_) ?_
        ·exact AR (AT (b:=bd) (o:=0) (o':=1) (U 1 rfl) underlying48 rfl Ay rfl) (Chg.refl _ _) rfl
        refine DagStepsX.cons (BE.eq) (fun _ _ _ _ _ h=>h) (fun s' w' X U H=>?_) ?_
        ·have di:=H 7 rfl 112 _ rfl (by rw[af];rfl);exact AR (AE (v:=(.slice (some ⟨ab,ao,none⟩) n ac)) di Ax ((Chg.keep X (fun h=>(fun h=>h.elim (fun h=>by have:=(a2.lt _ h).1;omega) (fun h=>by have:=(ax.lt _ h).1;omega)) (C3.or h)) (X0.keep Bd)).cell rfl)) (Chg.refl _ _) rfl
        refine DagStepsX.cons (BE.eq) (fun _ _ _ _ _ h=>h) (fun s' w' X U H=>?_) ?_
        ·exact AR (AZ (v:=(.slice (some ⟨bz,0,none⟩) sn ah)) (U 7 rfl)) (Chg.refl _ _) rfl
        refine DagStepsX.cons (BE.eq) (fun _ _ _ _ _ h=>h) (fun s' w' X U H=>?_) ?_
        ·exact AR (AZ (v:=(I6 (i:Int))) (U 8 rfl)) (Chg.refl _ _) rfl
        refine DagStepsX.cons (BE.eq) (fun _ _ _ _ _ h=>h) (fun s' w' X U H=>?_) ?_
        ·have c1:=H 9 rfl 114 _ rfl (by rw[af];rfl);have da:=H 10 rfl 115 _ rfl (by rw[af];rfl);exact AR (AC (b:=bz) (o:=0) (len:=sn) (cap:=ah) (i:=i) (o':=0+i) c1 da rfl underlying22 Ad qO qO) (Chg.refl _ _) rfl
        refine DagStepsX.cons (BE.eq) (fun _ _ _ _ _ h=>h) (fun s' w' X U H=>?_) ?_
        ·have c8:=H 11 rfl 116 _ rfl (by rw[af];rfl);exact AR (AE (v:=(I6 s)) c8 Ai (Chg.cell X (fun h=>(C3.or h).elim (fun h=>(az _ rfl).1 (.inr (.inl h))) (fun h=>(az _ rfl).1 (.inl h))) (X0.cell (c4 i _ (by rw[List.getElem?_map,av];rfl))))) (Chg.refl _ _) rfl
        refine DagStepsX.cons (BE.eq) (fun _ _ _ _ _ h=>h) (fun s' w' X U H=>?_) ?_
        ·have dw:=H 8 rfl 113 _ rfl (by rw[af];rfl);have dy:=H 12 rfl 117 _ rfl (by rw[af];rfl);exact AR (AC (b:=ab) (o:=ao) (len:=n) (cap:=ac) (i:=sN) (o':=ao+sN) dw dy qO underlying22 Ad qO qO) (Chg.refl _ _) rfl
        refine DagStepsX.cons (BE.eq) (fun _ _ _ _ _ h=>h) (fun s' w' X U H=>?_) ?_
        ·have dg:=H 13 rfl 118 _ rfl (by rw[af];rfl);exact AR (AE (v:=(I6 yv)) dg Ai (Chg.cell X (fun h=>(C3.or h).elim (fun h=>by have:=(a2.lt ab h).1;omega) (fun h=>by have:=(ax.lt ab h).1;omega)) (X0.cell (E.cell (fun f=>f) (ef sN _ ew))))) (Chg.refl _ _) rfl
        refine DagStepsX.cons (DB (fun y h=>by have:=(a2.lt y h).2;omega) (fun y h=>by have:=(ax.lt y h).2;omega)) (FS.const) (fun s' w' X U H=>?_) ?_
        ·have c2:=H 14 rfl 119 _ rfl (by rw[af];rfl);exact Cl (hs:=n4) underlying22 Ad BY c2 qD qD qK (by have:=X0.size;have:=X.size;omega)
        refine DagStepsX.cons (Hf rfl) (fun s1 s2 h v w h2=>⟨h2.1,by have:=h 4 109 rfl rfl;rw[this];exact h2.2⟩) (fun s' w' X U H=>?_) ?_
        ·have d5:=H 6 rfl 111 _ rfl (by rw[af];rfl);obtain ⟨e9,db,c3,f6⟩:=(show ((fun _=>Ct CF #[.int .i64 yv] n4):Cy) s' (s' 120) w' from H 15 rfl 120 ((fun _=>Ct CF #[.int .i64 yv] n4)) rfl (by rw[af];rfl));exact He (H 4 rfl 109 _ rfl (by rw[af];rfl)) (CL (hs:=w'.heap.size) underlying22 Ad Dj BY rfl qD d5 (Av (Am ax X0) (X.mono (fun y _ h=>C3.fst rfl h)) (fun k hk hm=>hO.en k hk hm)) db rfl (c3.cells rfl) qS (by unfold maxLen;omega) qO (by have:=X0.size;have:=X.size;omega) (fun y h=>h) (Nat.le_refl _)) (by have:=X0.size;have:=X.size;omega) (fun k h1 h2=>h1.elim (fun h=>hO.en k h2 h) (fun h=>by have:=(ax.lt k h2).2;omega))
        refine DagStepsX.cons (BE.eq) (fun _ _ _ _ _ h=>h) (fun s' w' X U H=>?_) ?_
        ·exact AR (AT (b:=br) (o:=0) (o':=2) (U 5 rfl) underlying48 rfl A' rfl) (Chg.refl _ _) rfl
        exact DagStepsX.nil
       ·intro s' ga d7 X0 a7 U H;replace a7:=a7.mono (M':=fun y=>(fun b=>(Value.slice am i ak).ownBlock=some b) y∨(fun b=>(Value.slice ea i ec).ownBlock=some b) y) (fun y _ h=>by obtain ⟨j,h⟩:=h;rcases Eg h with h|h;exact .inl h.2;exact .inr h.2);obtain ⟨⟨ay,aw,ci⟩,cn,bu⟩:=(show ((fun _=>CW n1 CX 1 (i+1) (vs++[Value.slice (some ⟨bq,0,none⟩) c c]) (.slice am i ak) n4):Cy) s' (s' 109) d7 from H 4 109 ((fun _=>CW n1 CX 1 (i+1) (vs++[Value.slice (some ⟨bq,0,none⟩) c c]) (.slice am i ak) n4)) rfl (by rw[af];rfl));obtain ⟨⟨⟨a1,a0,cc⟩,cf,bv⟩,b3⟩:=(show ((fun s v w=>CW n1 CF 1 (i+1) (aq.map (Value.int .i64)++[Value.int .i64 yv]) (.slice ea i ec) n4 v w∧∀b,(s 109).ownBlock=some b→v.ownBlock≠some b):Cy) s' (s' 121) d7 from H 16 121 ((fun s v w=>CW n1 CF 1 (i+1) (aq.map (Value.int .i64)++[Value.int .i64 yv]) (.slice ea i ec) n4 v w∧∀b,(s 109).ownBlock=some b→v.ownBlock≠some b)) rfl (by rw[af];rfl));have dj:s' 122=(.pointer (some ⟨br,2,none⟩)):=H 17 122 ((fun _ v _=>v=(.pointer (some ⟨br,2,none⟩)))) rfl (by rw[af];rfl);obtain ⟨j17,rfl⟩:=Ac.out (σ:=s') (l:=[(1,(.pointer (some ⟨bd,0,none⟩))),(2,(.pointer (some ⟨bo,0,none⟩))),(3,(.slice (some ⟨b1,0,none⟩) n n)),(4,(.int .i64 ((c:Nat):Int))),(5,(.pointer (some ⟨br,0,none⟩))),(6,(.map (some bm))),(7,(.slice (some ⟨bz,0,none⟩) sn ah)),(8,(.int .i64 ((i:Nat):Int))),(109,(.slice ay (i+1) aw)),(121,(.slice a1 (i+1) a0)),(122,(.pointer (some ⟨br,2,none⟩)))]) ⟨U 1 rfl,U 2 rfl,U 3 rfl,U 4 rfl,U 5 rfl,U 6 rfl,U 7 rfl,U 8 rfl,ci,cc,dj,trivial⟩;clear U H;replace Bd:=Chg.keep a7 (fun h=>h.elim (fun h=>by have:=(a2.lt _ h).1;omega) (fun h=>by have:=(ax.lt _ h).1;omega)) (X0.keep Bd);replace Bo:=Chg.keep a7 (fun h=>h.elim (fun h=>by have:=(a2.lt _ h).1;omega) (fun h=>by have:=(ax.lt _ h).1;omega)) (X0.keep Bo);replace ae:=Chg.keep a7 (fun h=>h.elim (fun h=>by have:=(a2.lt _ h).1;omega) (fun h=>by have:=(ax.lt _ h).1;omega)) (X0.keep ae);replace Br:=Chg.keep a7 (fun h=>h.elim (fun h=>by have:=(a2.lt _ h).1;omega) (fun h=>by have:=(ax.lt _ h).1;omega)) (X0.keep Br);replace Mm:=Chg.keepM a7 (fun h=>h.elim (fun h=>by have:=(a2.lt _ h).1;omega) (fun h=>by have:=(ax.lt _ h).1;omega)) (X0.keepM Mm);replace Bq:=Chg.keep a7 (fun h=>h.elim (fun h=>by have:=ct _ (.inr (.inl h));omega) (fun h=>by have:=ct _ (.inl h);omega)) (X0.keep Bq);have dp:=Chg.trans (Al.chg X0) a7;replace E:=(E.ext X0).step a7 (fun y hy h=>h.elim (fun h=>by have:=(a2.lt y h).1;omega) (fun h=>by have:=(ax.lt y h).1;omega));rw[ci] at cn bu b3;rw[cc] at cf bv b3;have b9:=hO.push (y:=yv) (N':=.slice ay (i+1) aw) (E':=.slice a1 (i+1) a0) e0 b5.symm qO (fun b hb=>by have:=ct b hb;omega) dp (by rw[cy];exact cn) (fun k hk=>by rw[←et];exact bu k hk) (by rw[cg,List.map_append];exact cf) (fun k hk=>by rw[←et];exact bv k hk) b3;have b6:=Av hS dp (fun b hb h=>h.elim (fun h=>(az b hb).1 (.inr (.inl h))) (fun h=>(az b hb).1 (.inl h)));have a5:=Nat.le_trans ar dp.size;have c7:∀b,(Value.slice (some ⟨bz,0,none⟩) sn ah).ownBlock=some b→¬Eb (.slice a1 (i+1) a0) (.slice ay (i+1) aw) (vs++[.slice (some ⟨bq,0,none⟩) c c]) b:=fun b hb ho=>MF (az b hb) (by have:=(hS.lt b hb).2;omega) bu bv ho;refine A9 (b:=br) (o:=2) (c':=#[(I6 0),(.slice ea i ec),(.slice ay (i+1) aw)]) (v:=(.slice ay (i+1) aw)) rfl rfl rfl A' Br qP rfl ?_;intro w18 a9;replace b9:=b9.chg a9.chg fun b hb h=>by have:=(b9.lt hb).1;have h':b=br:=h;omega
        replace b6:=Av b6 a9.chg fun b hb h=>by have:=(b6.lt b hb).1;have h':b=br:=h;omega
        replace a5:=Nat.le_trans a5 a9.chg.size;replace Bd:=a9.keep qO Bd;replace Bo:=a9.keep qO Bo;replace ae:=a9.keep qO ae;replace Mm:=a9.keepM qO Mm;replace Bq:=a9.keep qO Bq;replace E:=a9.step E qQ;replace Br:=a9.blk;refine qF br 0 1 rfl underlying48 rfl Ay rfl (A9 (b:=br) (o:=1) (c':=#[(I6 0),(.slice a1 (i+1) a0),(.slice ay (i+1) aw)]) (v:=(.slice a1 (i+1) a0)) rfl rfl rfl Ay Br qP rfl ?_);intro fr a8;replace b9:=b9.chg a8.chg fun b hb h=>by have:=(b9.lt hb).1;have h':b=br:=h;omega
        replace b6:=Av b6 a8.chg fun b hb h=>by have:=(b6.lt b hb).1;have h':b=br:=h;omega
        replace a5:=Nat.le_trans a5 a8.chg.size;replace Bd:=a8.keep qO Bd;replace Bo:=a8.keep qO Bo;replace ae:=a8.keep qO ae;replace Mm:=a8.keepM qO Mm;replace Bq:=a8.keep qO Bq;replace E:=a8.step E qQ;replace Br:=a8.blk;refine AA (AN (AB (AJ (qM (I6 (i:Int)) rfl (qV (Ar (k:=.i64) (a:=(i:Int)) (b:=1) (c:=(i:Int)+1) rfl rfl (A5 qO)) (qA (I6 ((i:Int)+1)) rfl (AA (AB ?_))))))));exact ⟨n - (i+1),qO,i+1,ag++[R],st,aq++[yv],vs++[.slice (some ⟨bq,0,none⟩) c c],some ⟨bz,0,none⟩,a1,ay,ah,sn,a0,aw,Ac.out ⟨rfl,rfl,rfl,rfl,rfl,rfl,rfl,rfl,trivial⟩,E,Bd,Bo,ae,Br,Mm,hC.row b5 c5,(by simp[cy]),bn,qO,(by rw[Eh av,List.map_append,ca,d8];rfl),b6,b9,c7,a5,rfl⟩
   ·have f0:i=st.length:=qO
    have hlc:=hC.st_le;refine Ak (AP (AP (Ae (AB (Y (qV (Aa (vs:=[(I6 0),(.slice ea i ec),(.slice am i ak)]) rfl BB Aw rfl (Br.cells rfl)) (A8 (b:=bo) (o:=0) (c':=#[(I6 0),(.slice ea i ec),(.slice am i ak)]) rfl rfl qS Aw rfl Bo qL rfl ?_)))))));intro w20 b8;replace hO:=hO.chg b8.chg fun b hb h=>by have:=(hO.lt hb).1;have h':b=bo:=h;omega
    replace Bd:=b8.keep qO Bd;replace ae:=b8.keep qO ae;replace Br:=b8.keep qO Br;replace Mm:=b8.keepM qO Mm;replace E:=b8.step E qQ;replace Bo:=b8.blk;refine AA (AS (C5 results126 (vs:=[(.int .i64 0),(.slice ea i ec),(.slice am i ak)]) (b:=bo) rfl BB Aw rfl (Bo.cells rfl) ?_));have cl:=hC.done ok cz qO;have a6:aq=st.map (Co d):=by rw[bt,f0,List.take_length]
    have ce:ag.length=i:=cy;have bc:aq.length=i:=by rw[a6,List.length_map];omega
    rw[←a6] at cl;refine ⟨⟨⟨0,aq,ag⟩,_,cl,by show ag.length≤n;omega,fun x hx=>?_,rfl,fun M w' ch hM=>⟨ea,ec,am,ak,by show [_,_,_]=[Value.int .i64 0,.slice ea aq.length ec,.slice am ag.length ak];rw[bc,ce],?_,?_⟩⟩,E⟩
    ·rw[a6] at hx;obtain ⟨u,hu,ff⟩:=List.mem_map.1 hx;have h9:=hC.sl u hu;obtain ⟨uN,ey⟩:=Int.eq_ofNat_of_zero_le h9.1;rw[←ff,ey];exact hac _ (List.mem_of_getElem? (Ew ok (show uN<n by omega)))
    ·show A2 _ (.slice ea aq.length ec) aq;rw[bc];have h9:=(hO.chg ch fun b hb h=>by rcases hM b h with h1|⟨cs,h1⟩;have:=(hO.lt hb).1;omega;exact OutSt.typ hO h1 qD qD hb).e;rw[bc] at h9;exact DR h9 bc.symm
    ·show Dd _ (.slice am ag.length ak) ag;rw[ce];exact (hO.chg ch fun b hb h=>by rcases hM b h with h1|⟨cs,h1⟩;have:=(hO.lt hb).1;omega;exact OutSt.typ hO h1 qD qD hb).intss
end Go.Proofs
namespace Go.Proofs
open Go Go.Eng Go.Sort
set_option maxRecDepth 100000
theorem ED {n c:Nat} {d:Dfa} (h:OkD n c d) (hn:1<=n∧n<=200) (hc:1<=c∧c<=16):Af d=0:=by
 obtain ⟨q,p,h3,r,o⟩:=h;have j:d.next≠[]:=λg=>by rw[g] at q;simp at q;omega
 have hcol:ER d=c:=by
  unfold ER;cases hq:d.next with
  | nil=>exact absurd hq j
  | cons y l=>exact (o y (by rw[hq];simp)).1
 unfold Af;rw[if_neg qO,if_neg qO,if_neg qO,if_neg,if_neg]
 .rw[Bool.or_eq_true];rintro (a|a)
  .unfold IC at a;have f:d.accept≠[]:=λg=>by rw[g] at p;simp at p;omega
   have:=(HT f (z:=-1)).2 (λx i=>r x i);simp only[Bool.or_eq_true,decide_eq_true_eq] at a;omega
  .obtain ⟨row,k,a⟩:=List.any_eq_true.1 a;obtain ⟨m,i⟩:=o row k;have b:row≠[]:=λg=>by rw[g] at m;simp at m;omega
   have h6:=(HT b (z:=-1)).2 (λx e=>(i x e).1);have h7:=(LI b (z:=((n:Nat):Int))).2 (λx e=>(i x e).2);simp only[Cx,Bool.or_eq_true,decide_eq_true_eq] at a;omega
 .intro a;obtain ⟨row,k,a⟩:=List.any_eq_true.1 a;obtain ⟨m,_⟩:=o row k;simp only[D0,Bool.or_eq_true,decide_eq_true_eq] at a;omega
def K_ (d:Dfa) (s:Int) (w:List Int):Int:=w.foldl (λs x=>Bu d s x.toNat) s
theorem LZ (d:Dfa):∀(w:List Int) (s:Int),beh d s (w.map Int.toNat)=Co d (K_ d s w)
 | [],_=>rfl
 | x::w,s=>by simp only[List.map_cons,beh];rw[LZ d w];rfl
theorem Hn {d:Dfa} {s:Int} {w:List Int} {k:Nat} {x:Int} (h:w[k]?=some x):K_ d s (w.take (k+1))=Bu d (K_ d s (w.take k)) x.toNat:=by
 rw[List.take_add_one,h];simp[K_,List.foldl_append]
theorem OkD.run {n c:Nat} {d:Dfa} (h:OkD n c d) (w:List Int) : -1<=K_ d d.start w∧K_ d d.start w<n:=by
 have hst:=h.st;rcases List.eq_nil_or_concat w with rfl|⟨w,x,rfl⟩
 .show -1<=d.start∧d.start<n;omega
 .simp only[K_,List.concat_eq_append,List.foldl_append,List.foldl_cons,List.foldl_nil];exact h.to
theorem Ub (k:World) (d:Dfa) (A:List Value) (s:Int) (h:BC k d A) (hs:s<d.accept.length) :
 CB prog 71 #[.agg A.toArray,.int .i64 s] k λr w=>r=.int .i64 (Co d s)∧Al k w:=by
 obtain ⟨q,m,x,p,rfl,e,hnxt⟩:=h;refine qR func71 O ntmps71 O (λE=>(Y (BP (v:=(.agg #[(I6 d.start),(.slice q d.accept.length m),(.slice x d.next.length p)])) (c:=#[(I6 d.start),(.slice q d.accept.length m),(.slice x d.next.length p)]) qD O O ?_)));intro B wq u;replace E:=E.ext u.ext;have C:=u.blk;refine qA _ O (AA (AI (Y (qM _ O (qV (A0 O O) (AA (qC O (λa=>?_) (λa=>?_))))))))
 .refine Y (qA _ O (AA (AS (AU (AY results71 (v:=(.int .i64 (-1))) O ?_)))));exact ⟨BJ (by unfold Co;rw[if_pos a]),E⟩
 .obtain ⟨g,n⟩:=Int.eq_ofNat_of_zero_le (show 0<=s by omega);obtain ⟨D,t,rfl,j⟩:=Ao e qO;obtain ⟨y,z⟩:=AK (l:=d.accept) (i:=g) qO;refine AM (AB (Y (qF B 0 1 O underlying48 O Ay O (qV (AE O Ax (C.cell O)) (qM _ O (qV (AC (b:=D) (o:=t) (len:=d.accept.length) (cap:=m) (i:=g) (o':=t+g) O O qO underlying22 Ad qO qO) (qV (AE O Ai (E.cell (λf=>f) (j g _ z))) (qA _ O (AA (AS (AY results71 (v:=(.int .i64 y)) O ?_)))))))))));exact ⟨BJ (by rw[n,Cn z]),E⟩
theorem Ua (u:World) (n c:Nat) (d:Dfa) (D:List Value) (s x:Int) (ok:OkD n c d) (h:BC u d D) (hs:s<n) (M:0<=x∧x<c) :
 CB prog 70 #[.agg D.toArray,.int .i64 s,.int .i64 x] u λr w=>r=.int .i64 (Bu d s x.toNat)∧Al u w:=by
 obtain ⟨B,C,G,p,rfl,hacc,j⟩:=h;have hnl:=ok.nl;obtain ⟨m,rfl⟩:=Int.eq_ofNat_of_zero_le M.1;rw[Int.toNat_natCast];refine qR func70 O ntmps70 O (λE=>(Y (BP (v:=(.agg #[(I6 d.start),(.slice B d.accept.length C),(.slice G d.next.length p)])) (c:=#[(I6 d.start),(.slice B d.accept.length C),(.slice G d.next.length p)]) qD O O ?_)));intro N wq F;replace E:=E.ext F.ext;have K:=F.blk;refine qA _ O (AA (AI (Y (qM _ O (qV (A0 O O) (AA (qC O (λe=>?_) (λe=>?_))))))))
 .refine Y (qA _ O (AA (AS (AU (AY results70 (v:=(.int .i64 (-1))) O ?_)))));exact ⟨BJ (by rw[E3 e]),E⟩
 .obtain ⟨k,A⟩:=Int.eq_ofNat_of_zero_le (show 0<=s by omega);obtain ⟨P,I,rfl,z⟩:=BL j qO;obtain ⟨row,a⟩:=AK (l:=d.next) (i:=k) qO;have hrl:=(ok.row row (List.mem_of_getElem? a)).1;obtain ⟨ra,L,g,t⟩:=z k row a;obtain ⟨Q,J,rfl,q⟩:=Ao t qO;obtain ⟨y,H⟩:=AK (l:=row) (i:=m) qO;refine AM (AB (Y (qF N 0 2 O underlying48 O A' O (qV (AE O A4 (K.cell O)) (qM _ O (qV (AC (b:=P) (o:=I) (len:=d.next.length) (cap:=p) (i:=k) (o':=I+k) O O qO underlying46 Ay qO qO) (qV (AE O Ax (E.cell (λf=>f) g)) (qM _ O (qV (AC (b:=Q) (o:=J) (len:=row.length) (cap:=L) (i:=m) (o':=J+m) O O O underlying22 Ad qO qO) (qV (AE O Ai (E.cell (λf=>f) (q m _ H))) (qA _ O (AA (AS (AY results70 (v:=(.int .i64 y)) O ?_))))))))))))));exact ⟨BJ (by rw[A,DQ a H]),E⟩
theorem Mc (m:World) (b n c:Nat) (d:Dfa) (t:List Value) (x:Int) (ok:OkD n c d) (h:BC m d t) (A:Az m b t.toArray 48) (hn:1<=n) (hc:c<=16) :
 CB prog 69 #[.int .i64 x,.pointer (some ⟨b,0,none⟩)] m λr w=>r=.bool (decide (x<0) || decide ((c:Int)<=x))∧Al m w:=by
 obtain ⟨aa,ac,na,y,rfl,hacc,k⟩:=h;have hnl:=ok.nl;obtain ⟨z,u,rfl,q⟩:=BL k qO;obtain ⟨row,j⟩:=AK (l:=d.next) (i:=0) qO;have p:=(ok.row row (List.mem_of_getElem? j)).1;obtain ⟨ra,rc,g,s⟩:=q 0 row j;rw[p] at g s;refine qR func69 O ntmps69 O (λE=>(Y (qA _ O (AA (Y (qM _ O (qV (A0 O O) (qM _ O ?_))))))));rcases Bool.eq_false_or_eq_true (decide ((x:Int)<0)) with a|a
 .have e:=a;replace e:=of_decide_eq_true e;refine AF O O qD (v:=.bool true) (BH a) (Or.inl O) (AF O O qD (v:=.bool true) (BH a) (Or.inl O) (AF O O qD (v:=.bool true) (BH a) (Or.inl O) (AF O O qD (v:=.bool true) (BH a) (Or.inl O) (AF O O qD (v:=.bool true) (BH a) (Or.inl O) (AF O O qD (v:=.bool true) (BH a) (Or.inl O) (AF O O qD (v:=.bool true) (BH a) (Or.inl O) (qV (Ag (v:=(.bool true)) O (by rw[a];rfl)) (qA _ O (AA (AS (AY results69 (v:=(.bool true)) O ?_)))))))))));exact ⟨CK (by simp[a]),E⟩
 .have e:=a;replace e:=of_decide_eq_false e;refine AD O O qD (BH a) (qM _ O (AD O O qD (BH a) (qF b 0 2 O underlying48 O A' O (AD O O qD (BH a) (qV (AE O A4 (A.cell O)) (AD O O qD (BH a) (qV (AC (b:=z) (o:=u) (len:=d.next.length) (cap:=y) (i:=0) (o':=u+0) O O O underlying46 Ay qO qO) (AD O O qD (BH a) (qV (AE O Ax (E.cell (λf=>f) g)) (AD O O qD (BH a) (qV (AL underlying22 O) (AD O O qD (BH a) (qV (CT O O) (qV (Ag (v:=(.bool (decide (((c:Int):Int)<=x)))) O (by rw[a];rfl)) ?_))))))))))))));refine qA _ O (AA (AS (AY results69 (v:=(.bool (decide ((((c:Nat):Int):Int)<=x)))) O ?_)));exact ⟨CK (by simp[a]),E⟩
theorem Ha (b:Bool) (d:World):CB prog 124 #[.bool b] d λr w=>r=.int .i64 (if b=true then 0 else -1)∧Al d w:=by
 refine qR func124 O ntmps124 O (λE=>(Y (qA _ O (AA (AI (Y (qM _ O (AA (As O (λa=>?_) (λa=>?_))))))))))
 .have c:=a;refine Y (qA _ O (AA (AS (AU (AY results124 (v:=(.int .i64 0)) O ?_)))));exact ⟨BJ (by rw[if_pos a]),E⟩
 .have c:=a;refine AM (AB (Y (qA _ O (AA (AS (AY results124 (v:=(.int .i64 (-1))) O ?_))))));exact ⟨BJ (by rw[a];rfl),E⟩
theorem LT (z:World) (n c:Nat) (d:Dfa) (Q:List Value) (v:Value) (l:List Int) (ok:OkD n c d) (h:BC z d Q) (T:1<=n∧n<=200) (S:1<=c∧c<=16) (D:A2 z v l) (hll:l.length<=4000) (C:∀x∈l,0<=x∧x<c) :
 CB prog 19 #[.agg Q.toArray,v] z λr w=>r=.tuple #[.int .i64 (beh d d.start (l.map Int.toNat)),.int .i64 0]∧Al z w:=by
 have e:=h;obtain ⟨j,m,p,g,rfl,hacc,hnxt⟩:=h;have hnl:=ok.nl;have hal:=ok.al;have hst:=ok.st;obtain ⟨X,N,rfl⟩:=BO.form D;simp only[List.length_map] at D⊢;have u:(l.any λx=>decide (x<0) || decide ((c:Int)<=x))=false:=by
  rw[List.any_eq_false];intro x t;have:=C x t;simp only[Bool.or_eq_true,decide_eq_true_eq];omega
 refine qR func19 O ntmps19 O (λE=>(Y (BP (v:=(.agg #[(I6 d.start),(.slice j d.accept.length m),(.slice p d.next.length g)])) (c:=#[(I6 d.start),(.slice j d.accept.length m),(.slice p d.next.length g)]) qD O O ?_)));intro y wq R;replace E:=E.ext R.ext;have a:=R.blk;refine qA _ O (qA _ O (AA (AI (Y (qV (Aa (vs:=[(I6 d.start),(.slice j d.accept.length m),(.slice p d.next.length g)]) O BB Aw O (a.cells O)) (qE O (AV func24 kQ kQ O) (Cw _ d _ (e.ext E)) ?_))))));rintro _ w9 ⟨rfl,V⟩;replace a:=V.keep a;replace E:=E.ext V;refine qA _ O (AA (Y (qM _ O (qV (CE O O) (AA ?_)))));have I:(decide ((Af d:Int)≠0))=false:=decide_eq_false (by rw[ED ok T S];decide);refine AW (BH I) (AM (AB (AI (Y (qM _ O (qV (AL underlying22 O) (qV (CU O O) (AA ?_))))))));have M:(decide ((4000:Int)<((l.length:Nat):Int)))=false:=decide_eq_false qO;refine AW (BH M) (AM (AB (AI (Y (qM _ O (qV (B7 O O) (qE O (AV func44 kQ kQ O) (JR _ _ _ l (λx=>decide (x<0) || decide ((c:Int)<=x)) (D.ext E) (λw x P _=>CQ.mk (first:=#[]) (cap:=#[.pointer (some ⟨y,0,none⟩)]) func69 kQ kQ O (Mc w y n c d _ x ok (e.ext (E.trans P)) (P.keep a) T.1 S.2))) ?_)))))));rintro _ w19 ⟨rfl,B⟩;replace a:=B.keep a;replace E:=E.ext B;refine AA ?_;have J:((l.any λx=>decide (x<0) || decide ((c:Int)<=x)))=false:=u;refine AW (BH J) (AM (AB (Y (qF y 0 0 O underlying48 O Ad O (qV (AE O Ai (a.cell O)) (qA _ O (AA (AI (Y (qM _ O (qV (AL underlying22 O) (qM _ O (AA (AO (Ap (λnn_ σ H=>∃(k:Nat) (s:Int),(∃jj_,σ=BK jj_ [(2,(P6 y 0)),(23,(.slice X l.length N)),(24,(I6 (l.length:Int))),(25,(I6 (k:Int))),(7,(I6 s))])∧Chg Ab z H∧Az H y #[(I6 d.start),(.slice j d.accept.length m),(.slice p d.next.length g)] 48∧(k<=l.length)∧(s=K_ d d.start (l.take k))∧nn_=l.length - k) (n:=l.length - 0) ?_ ?_)))))))))))))))
 .exact ⟨0,d.start,Ac.out ⟨O,O,O,O,O,trivial⟩,E,a,Nat.zero_le _,O,O⟩
 .clear E a;rintro _ _ H ⟨k,s,⟨j4,rfl⟩,E,a,hk,hs,rfl⟩;refine Y (qV (A0 O O) (AA (AI (qC O (λL=>?_) (λL=>?_)))))
  .obtain ⟨x,t⟩:=AK (l:=l) (i:=k) qO;obtain ⟨W,U,rfl,K⟩:=Ao D qO;have F:=ok.run (l.take k);refine AM (AB (AI (AO (Y (qV (AC (b:=W) (o:=U) (len:=l.length) (cap:=N) (i:=k) (o':=U+k) O O O underlying22 Ad qO qO) (qV (AE O Ai (E.cell (λf=>f) (K k x t))) (qA _ O (AA (AJ (qV (Aa (vs:=[(I6 d.start),(.slice j d.accept.length m),(.slice p d.next.length g)]) O BB Aw O (a.cells O)) (qM _ O (qM _ O (qE O (AV func70 kQ kQ O) (Ua _ n c d _ s x ok (e.ext E) qO (C x (List.mem_of_getElem? t))) ?_)))))))))))));rintro _ w29 ⟨rfl,q⟩;replace a:=q.keep a;replace E:=E.ext q;refine qA _ O (AA (AN (AB (AJ (qV (Ar O O (A5 qO)) (qM _ O (AA (AB ?_))))))));exact ⟨l.length - (k+1),qO,k+1,Bu d s x.toNat,Ac.out ⟨O,O,O,O,O,trivial⟩,E,a,qO,(by rw[Hn t,hs]),O⟩
  .have G:k=l.length:=qO
   have F:=ok.run (l.take k);refine Ak (AP (AP (Ae (AB (Y (qV (Aa (vs:=[(I6 d.start),(.slice j d.accept.length m),(.slice p d.next.length g)]) O BB Aw O (a.cells O)) (qM _ O (qE O (AV func71 kQ kQ O) (Ub _ d _ s (e.ext E) qO) ?_))))))));rintro _ w39 ⟨rfl,A⟩;replace a:=A.keep a;replace E:=E.ext A;refine qA _ O (qA _ O (AA (AS (B_ results19 (v:=(.int .i64 (Co d s))) (v':=(.int .i64 0)) O O ?_))));exact ⟨by rw[LZ,hs,G,List.take_length],E⟩
end Go.Proofs
namespace Go.Proofs
open Go Go.Eng Go.Sort
set_option maxRecDepth 100000
--BEGIN
def nt (n:Nat) (t:Int):Int:=if t<0 then (n:Int) else t
def LG (n:Nat) (l:List Int) (x:Nat):List Int:=(l.take x).map (nt n)++l.drop x
def fl (a:Int):Int:=if a<0 then 0 else -1
def Cz (n c:Nat) (d:Dfa):Dfa:=⟨d.start,d.accept.map fl++[0],d.next.map (λr=>r.map (nt n))++[List.replicate c (n:Int)]⟩
theorem Oh (n:Nat) (l:List Int) (x:Nat):(LG n l x).length=l.length:=by simp[LG];omega
theorem Q0 (n:Nat) (l:List Int):LG n l 0=l:=by simp[LG]
theorem So (n:Nat) (l:List Int):LG n l l.length=l.map (nt n):=by simp[LG]
theorem Sn {n:Nat} {l:List Int} {x:Nat} {t:Int} (h:l[x]?=some t):(LG n l x)[x]?=some t:=by
 have hx:=AG h;rw[LG,List.getElem?_append_right (by simp;omega)];simp only[List.length_map,List.length_take,List.getElem?_drop];rw[show x+(x - min x l.length)=x by omega,h]
theorem KS {n:Nat} {l:List Int} {x:Nat} {t:Int} (h:l[x]?=some t):LG n l x=(l.take x).map (nt n)++t::l.drop (x+1):=by
 have a:=AG h;have:l[x]=t:=by rw[List.getElem?_eq_getElem a] at h;simpa using h
 rw[LG,List.drop_eq_getElem_cons a,this]
theorem MH {n:Nat} {l:List Int} {x:Nat} {t:Int} (h:l[x]?=some t):LG n l (x+1)=(l.take x).map (nt n)++nt n t::l.drop (x+1):=by
 rw[LG,List.take_add_one,h];simp
theorem Q1 {n:Nat} {l:List Int} {x:Nat} {t:Int} (h:l[x]?=some t) (a:¬t<0):LG n l x=LG n l (x+1):=by
 rw[KS h,MH h,nt,if_neg a]
theorem Sm {n:Nat} {l:List Int} {x:Nat} {t:Int} (h:l[x]?=some t) (a:t<0):(LG n l x).set x (n:Int)=LG n l (x+1):=by
 have hx:=AG h;rw[KS h,MH h,nt,if_pos a,List.set_append_right _ _ (by simp;omega)];simp only[List.length_map,List.length_take];rw[show x - min x l.length=0 by omega];rfl
theorem Qz {n:Nat} {t:Int} (h : -1<=t∧t<n):0<=nt n t∧nt n t<(n+1:Nat):=by
 unfold nt;split<;>omega
theorem HO {n c:Nat} {d:Dfa} (h:OkD n c d):OkD (n+1) c (Cz n c d) where
 nl:=by simp[Cz,h.nl]
 al:=by simp[Cz,h.al]
 st:=by have:=h.st;show 0<=d.start∧d.start<((n+1:Nat):Int);omega
 acc:=λx b=>by
  simp only[Cz,List.mem_append,List.mem_map,List.mem_singleton] at b;rcases b with ⟨a,_,rfl⟩|rfl
  .unfold fl;split<;>omega
  .decide
 row:=λr f=>by
  simp only[Cz,List.mem_append,List.mem_map,List.mem_singleton] at f;rcases f with ⟨q,g,rfl⟩|rfl
  .have e:=h.row q g;refine ⟨by simpa using e.1,λx b=>?_⟩;obtain ⟨t,i,rfl⟩:=List.mem_map.1 b;have:=Qz (e.2 t i);omega
  .refine ⟨qP,λx b=>?_⟩;rw[List.eq_of_mem_replicate b];omega
theorem OU {n c:Nat} {d:Dfa} (h:OkD n c d) {s:Int} {x:Nat} (hs : -1<=s∧s<n) (hx:x<c):Bu (Cz n c d) (nt n s) x=nt n (Bu d s x):=by
 have ab:=h.nl;rcases Int.lt_or_le s 0 with h1|h1
 ·rw[E3 h1,show nt n s=((n:Nat):Int) by unfold nt;rw[if_pos h1]];rw[DQ (r:=List.replicate c (n:Int)) (t:=(n:Int)) (by simp[Cz,ab]) (by simp[hx])];rfl
 ·obtain ⟨sN,rfl⟩:=Int.eq_ofNat_of_zero_le h1;rw[show nt n ((sN:Nat):Int)=((sN:Nat):Int) by unfold nt;rw[if_neg qO]];obtain ⟨row,aa⟩:=AK (l:=d.next) (i:=sN) qO;have hrl:=(h.row row (List.mem_of_getElem? aa)).1;obtain ⟨t,ht⟩:=AK (l:=row) (i:=x) qO;rw[DQ aa ht,DQ (r:=row.map (nt n)) (t:=nt n t)]
  ·simp only[Cz];rw[List.getElem?_append_left (by simp;omega),List.getElem?_map,aa];rfl
  ·rw[List.getElem?_map,ht];rfl
theorem TV {n c:Nat} {d:Dfa} (h:OkD n c d) {s:Int} (hs : -1<=s∧s<n):Co (Cz n c d) (nt n s)=fl (Co d s):=by
 have aa:=h.al;rcases Int.lt_or_le s 0 with h1|h1
 ·rw[show nt n s=((n:Nat):Int) by unfold nt;rw[if_pos h1],show Co d s = -1 by unfold Co;rw[if_pos h1]];rw[Cn (t:=0) (by simp[Cz,aa])];rfl
 ·obtain ⟨sN,rfl⟩:=Int.eq_ofNat_of_zero_le h1;rw[show nt n ((sN:Nat):Int)=((sN:Nat):Int) by unfold nt;rw[if_neg qO]];obtain ⟨a,ha⟩:=AK (l:=d.accept) (i:=sN) qO;rw[Cn ha,Cn (t:=fl a)];simp only[Cz];rw[List.getElem?_append_left (by simp;omega),List.getElem?_map,ha];rfl
theorem O1 {n c:Nat} {d:Dfa} (h:OkD n c d):∀{w:List Nat} {s:Int},C0 c w->-1<=s∧s<n->beh (Cz n c d) (nt n s) w=fl (beh d s w)
 | [],s,_,hs=>TV h hs
 | x::w,s,hw,hs=>by
  simp only[beh];rw[OU h hs hw.head];exact O1 h hw.tail h.to
theorem Mk {n c:Nat} {d:Dfa} (h:OkD n c d) {w:List Nat} (a:C0 c w):beh (Cz n c d) (Cz n c d).start w=fl (beh d d.start w):=by
 have hst:=h.st;have:=O1 h (s:=d.start) a qO
 rwa [show nt n d.start=d.start by unfold nt;rw[if_neg qO]] at this
theorem Q3 {n c:Nat} {d:Dfa}:∀x∈(Cz n c d).accept,x<2147483648:=λx b=>by
 simp only[Cz,List.mem_append,List.mem_map,List.mem_singleton] at b;rcases b with ⟨a,_,rfl⟩|rfl
 .unfold fl;split<;>omega
 .decide
theorem Cj.congr {c:Nat} {f g:List Nat->Int} {C:Dfa} (h:Cj c f C) (e:∀w,C0 c w->f w=g w):Cj c g C:=by
 obtain ⟨m,b,i,j,d⟩:=h;exact ⟨m,b,λw a=>(i w a).trans (e w a),j,d⟩
--END
def Vk (l:List Int) (hs:Nat) (r:Value) (w:World):Prop:=∃b rest k,r=.slice (some ⟨b,0,none⟩) l.length k∧hs<=b∧Az w b (l.map (Value.int .i64)++rest).toArray CF∧l.length+rest.length=k∧k<=9223372036854775807
theorem Rm (w0:World) (v:Value) (l:List Int) (h:A2 w0 v l) (hl:l.length≤2000000) (h1:0<l.length) :
  CB prog 117 #[v] w0 fun r w=>Vk l w0.heap.size r w∧Al w0 w:=by
 obtain ⟨a,c,rfl⟩:=BO.form h;simp only[List.length_map] at h⊢;obtain ⟨base,ad⟩:∃base,base=w0.heap.size:=⟨_,rfl⟩;obtain ⟨b,o,rfl,ag⟩:=Ao h h1;refine qR func117 rfl ntmps117 rfl (fun E=>(Y (qA _ rfl (AA (AI (Y (qM _ rfl (BV (v:=(.bool ((some (⟨b,o,none⟩:Addr)).isNone))) rfl rfl qD (L5 underlying22 rfl rfl) (AA ?_)))))))));have ae:((some (⟨b,o,none⟩:Addr)).isNone)=false:=rfl;refine AW (BH ae) (AM (AB (Y (HI qD underlying22 Ad ?_))));intro bq wq Nq;have Fq:=Nq.ge E;replace E:=E.ext Nq.ext;have Bq:=Nq.blk;refine qM _ rfl ?_;have aa:=FM (base:=base) (size:=1) Bq qO;have af:base≤wq.heap.size:=by have:=Nq.ext.size;omega
 refine BU (base:=base) (n:=0) (m:=l.length) (xs:=[]) (news:=l.map (Value.int .i64)) (size:=1) (bytes:=8) (v:=(.slice (some ⟨bq,0,none⟩) 0 0)) qD underlying22 Ad Dj BY rfl qD rfl aa rfl qP (fun i u hu=>by rw[List.getElem?_map,Option.map_eq_some_iff] at hu;obtain ⟨x,hx,rfl⟩:=hu;exact Nq.ext.cell (ag i x hx)) qS (by unfold maxLen;omega) qO (af) ?_;intro v9 w29 ab ah Dv9;replace E:=E.step ah (fun x hx h=>absurd (aa.lt x h).1 qO);obtain ⟨la,lc,rfl⟩:=BD ab;refine qA _ rfl (AA (AS (AY results117 (v:=(.slice la (0+l.length) lc)) rfl ?_)));simp only[Nat.zero_add,List.nil_append] at ab;simp only[Nat.zero_add];rcases ab.2 with ⟨_,h2⟩|⟨g,cap,ac,h1,h2,h3,h4,h5,h6,h7⟩
 ·omega
 ·simp only[Value.slice.injEq] at h1;obtain ⟨rfl,_,rfl⟩:=h1;have e9:(l.map (Value.int .i64)++ac.toList.drop (l.length*1)).toArray=ac:=by rw[←h7,List.take_append_drop]
  refine ⟨⟨g,ac.toList.drop (l.length*1),lc,rfl,qO,by rw[e9];exact h3,?_,h5⟩,E⟩;have e8:=congrArg Array.size e9;simp only[List.size_toArray,List.length_append,List.length_map] at e8;omega
theorem Sh {w:World} {b base k:Nat} {l:List Int} {rest:List Value} (h:Az w b (l.map (Value.int .i64)++rest).toArray CF) (a:base<=b) (hk:l.length+rest.length=k) (c:k<=9223372036854775807):w.ownsRow base CF 1 (.slice (some ⟨b,0,none⟩) l.length k) l.length (l.map (Value.int .i64)):=
 ⟨qP,.inr ⟨b,k,_,O,a,h,qO,c,by simp;omega,by simp[List.take_append_of_le_length]⟩⟩
end Go.Proofs
namespace Go.Proofs
open Go Go.Eng Go.Sort
set_option maxRecDepth 100000
theorem Qe (a:World) (b c n hs:Nat) (y:Int) (T:TypeId) (j:Az a b #[.int .i64 y] T) (i:1<=n) (h:n<=60000) (hhs:hs<=a.heap.size) :
 CB prog 125 #[.slice (some ⟨b,0,none⟩) 1 c,.int .i64 ((n:Nat):Int)] a λr w=>CW hs CF 1 n ((List.replicate n y).map (Value.int .i64)) (.slice none 0 0) hs r w∧Al a w:=by
 refine (I0 a b c n y T j i h).mono ?_;rintro r w ⟨⟨g,rfl,hg,l⟩,e⟩;have d:w.ownsRow hs CF 1 (.slice (some ⟨g,0,none⟩) n n) n ((List.replicate n y).map (Value.int .i64)):=Ht l qO qP;exact ⟨⟨⟨_,_,O⟩,d,λk f=>.inr (d.lt k f).1⟩,e⟩
theorem Pu (y:Int) (a:World):CB prog 124 #[.bool (decide (y<0))] a λr w=>r=.int .i64 (fl y)∧Al a w:=by
 refine (Ha (decide (y<0)) a).mono ?_;rintro r w ⟨rfl,e⟩;exact ⟨by unfold fl;simp only[decide_eq_true_eq],e⟩
theorem Rx {c1 c2 i base e size n hs:Nat} {M1 M2:Nat->Prop} {xs:List Value} {ws:List Nat} (f:∀y,M1 y->y<hs) (b:∀y,M2 y->y<hs):BE (two c1 c2 M1 M2) i ws (λ_=>CW base e size n xs (.slice none 0 0) hs):=by
 rintro p _ _ σ v w w' x ⟨c,g,a⟩;refine ⟨c,Av g x λk d h=>?_,a⟩;have h6:hs<=k:=(a k d).elim (λh=>by cases h) id;rcases Eg h with h|h
 .have:=f k h.2;omega
 .have:=b k h.2;omega
theorem RA {c1 c2 i e hs t:Nat} {M1 M2:Nat->Prop} {ws:List Nat} (d:∀y,M1 y->y<hs) (a:∀y,M2 y->y<hs):BE (two c1 c2 M1 M2) i ws (λs=>Ct e #[s t] hs):=by
 rintro p _ _ σ v w w' x ⟨b,c,f,g⟩;exact ⟨b,c,x.keep (λh=>by rcases Eg h with h|h;have:=d b h.2;omega;have:=a b h.2;omega) f,g⟩
theorem Rv {c1 c2 base e size n hs t:Nat} {M1 M2:Nat->Prop} {xs:List Value} {a:Value} {ws:List Nat} (h:∀k,(a.ownBlock=some k∨hs<=k)->¬M2 k):BE (two c1 c2 M1 M2) c1 ws (λs v w=>CW base e size n (xs++[s t]) a hs v w∧∀b,(s t).ownBlock=some b->v.ownBlock≠some b):=by
 rintro p j _ σ v w w' x ⟨⟨i,g,d⟩,f⟩;rcases IdZ x with c|c|c
 .exact absurd c.1 j
 .exact ⟨⟨i,Av g c.2 (λk l=>h k (d k l)),d⟩,f⟩
 .exact ⟨⟨i,Am g c,d⟩,f⟩
theorem Rw {c1 c2 base e size n hs:Nat} {M1 M2:Nat->Prop} {xs:List Value} {c:Value} {ws:List Nat} (d:ws.contains c1=true):BE (two c1 c2 M1 M2) c2 ws (λ_=>CW base e size n xs c hs):=by
 rintro p f b σ v w w' x ⟨h,g,i⟩;rcases IdZ x with a|a|a
 .rw[a.1,d] at b;cases b
 .exact absurd a.1 f
 .exact ⟨h,Am g a,i⟩
theorem LSt.intss {w:World} {base:Nat} {N:Value} {vs:List Value} {rows:List (List Int)} (h:LSt CX CF 1 w base N vs (rows.map D9)):Dd w N rows:=by
 have a:vs.length=rows.length:=by simpa using h.len
 refine ⟨vs,?_,a,λi u l d a=>?_⟩
 .have b:=h.o;rw[show vs=(vs.map λx=>[x]).flatten by simp[List.flatten_eq_flatMap,List.flatMap_map]] at b;exact EO b (by intro r c;simp only[List.mem_map] at c;obtain ⟨x,_,rfl⟩:=c;rfl) (by simp[a]) qD
 .exact DR (h.inn i u (D9 l) d (by rw[List.getElem?_map,a];rfl)) O
theorem OutSt.last {w w':World} {base m:Nat} {E N N' u:Value} {vs:List Value} {acc row:List Int} {rows:List (List Int)} (h:OutSt w base E N vs acc rows) (l:m=w.heap.size) (r:base<=m) (C:Chg (λb=>N.ownBlock=some b∨E.ownBlock=some b) w w')
 (y:w'.ownsRow base CX 1 N' (rows.length+1) (vs++[u])) (q:w'.ownsRow m CF 1 u row.length (row.map (Value.int .i64))) (x:∀k,N'.ownBlock=some k->N.ownBlock=some k∨m<=k) (s:∀b,u.ownBlock=some b->N'.ownBlock≠some b) :
 LSt CX CF 1 w' base N' (vs++[u]) ((rows++[row]).map D9):=by
 have o:vs.length=rows.length:=by simpa using h.n.len
 have f:∀(i:Nat) v,(vs++[u])[i]?=some v->vs[i]?=some v∨(i=vs.length∧v=u):=λi v d=>by
  rcases Nat.lt_or_ge i vs.length with c|c
  .left;rwa [List.getElem?_append_left c] at d
  .right;rw[List.getElem?_append_right c] at d;have j:=AG d;simp at j;rw[show i - vs.length=0 by omega] at d;simp at d;exact ⟨qO,d.symm⟩
 refine ⟨by simpa using y,by simp[o],λi v p d g=>?_,λi v b d a e=>?_⟩
 .rw[List.map_append] at g;rcases f i v d with c|⟨c,rfl⟩
  .rw[List.getElem?_append_left (by have:=AG c;simp;omega)] at g;exact Av (h.n.inn i v p c g) C λb a t=>t.elim (λl=>h.n.apo i v b c a l) (λl=>h.ei i v b c a l)
  .rw[c,o,List.getElem?_append_right qP,List.length_map,Nat.sub_self] at g;simp[D9] at g;subst g;exact Dc q r
 .rcases f i v d with c|⟨_,rfl⟩
  .rcases x b e with j|j
   .exact h.n.apo i v b c a j
   .have:=(h.lt (.inr (.inr ⟨i,v,c,a⟩))).2;omega
  .exact s b a e
theorem F9 {w:World} {base:Nat} {d:Dfa} {E N:Value} {vs:List Value} (e:∃a c,E=.slice a d.accept.length c) (h:∃a c,N=.slice a d.next.length c) (i:w.ownsRow base CF 1 E d.accept.length (d.accept.map (Value.int .i64))) (k:LSt CX CF 1 w base N vs (d.next.map D9)):BC w d [.int .i64 d.start,E,N]:=by
 obtain ⟨b,g,rfl⟩:=e;obtain ⟨j,f,rfl⟩:=h;exact ⟨b,g,j,f,O,DR i O,k.intss⟩
def Uq (c:Nat) (f:List Nat->Int) (n m:Nat) (r:Value) (w:World):Prop:=∃C ca cc ma mc,Cj c f C∧C.next.length<=n∧(∀x∈C.accept,x<2147483648)∧r=.agg #[.int .i64 C.start,.slice ca C.accept.length cc,.slice ma C.next.length mc]∧DP m w C [.int .i64 C.start,.slice ca C.accept.length cc,.slice ma C.next.length mc]
theorem Jk (a:World) (n c:Nat) (d:Dfa) (f:List Value) (ok:OkD n c d) (h:BC a d f) (l:n<=20000∧1<=c∧c<=16) (b:∀x∈d.accept,x<2147483648) :
 CB prog 126 #[.agg f.toArray] a λr w=>Uq c (beh d d.start) n a.heap.size r w∧Al a w:=by
 refine (TR a n c d f ok h l b).mono ?_;rintro r w ⟨⟨C,cv,o,k,p,rfl,g⟩,e⟩;have m:=g.at';obtain ⟨j,q,i,s,rfl,_,_⟩:=m;exact ⟨⟨C,j,q,i,s,o,k,p,O,g⟩,e⟩
theorem TG (w0:World) (n c:Nat) (d:Dfa) (dv:List Value) (ok:OkD n c d) (h:BC w0 d dv) (hn:1≤n∧n≤19999∧1≤c∧c≤16) :
  CB prog 72 #[.agg dv.toArray] w0 fun r w=>Uq c (fun w=>fl (beh d d.start w)) (n+1) w0.heap.size r w∧Al w0 w:=by
 obtain ⟨aa,ac,na,nc,rfl,bg,bf⟩:=h;have cd:=ok.nl;have b9:=ok.al;have hst:=ok.st;rw[b9,cd];rw[b9] at bg;rw[cd] at bf;obtain ⟨nb,no,rfl,eb⟩:=BL (n:=n) bf qO;obtain ⟨ab,ao,rfl,ck⟩:=Ao (n:=n) bg qO;have au:∀(s:Nat),s<n→∃row ra rc,d.next[s]?=some row∧row.length=c∧w0.cell? ⟨nb,no+s,none⟩=some (.slice ra row.length rc)∧A2 w0 (.slice ra row.length rc) row:=fun s hs=>by
  obtain ⟨row,av⟩:=AK (l:=d.next) (i:=s) qO;have b7:=(ok.row row (List.mem_of_getElem? av)).1;obtain ⟨ra,rc,h1,h2⟩:=eb s row av;exact ⟨row,ra,rc,av,b7,h1,h2⟩
 have hab:ab<w0.heap.size:=by
  obtain ⟨x,hx⟩:=AK (l:=d.accept) (i:=0) qO;exact World.block_lt_of_cell? w0 _ (ck 0 x hx)
 have hnb:nb<w0.heap.size:=by
  obtain ⟨row,ra,rc,_,_,h1,_⟩:=au 0 qO;exact World.block_lt_of_cell? w0 _ h1
 refine qR func72 rfl ntmps72 rfl (fun E=>(Y (BP (v:=(.agg #[(I6 d.start),(.slice (some ⟨ab,ao,none⟩) n ac),(.slice (some ⟨nb,no,none⟩) n nc)])) (c:=#[(I6 d.start),(.slice (some ⟨ab,ao,none⟩) n ac),(.slice (some ⟨nb,no,none⟩) n nc)]) qD rfl rfl ?_)));intro bd wd Nd;have Fd:=Nd.ge E;replace E:=E.ext Nd.ext;have Bd:=Nd.blk;refine By (c:=#[(I6 0),(.slice none 0 0),(.slice none 0 0)]) qD Ce rfl ?_;intro bo wo No;have Fo:=No.ge E;have Oo_bd:=No.lt Bd;replace Bd:=No.keep Bd;replace E:=E.ext No.ext;have Bo:=No.blk;refine AA (Y (qF bd 0 2 rfl underlying48 rfl A' rfl (qV (AE (v:=(.slice (some ⟨nb,no,none⟩) n nc)) rfl A4 (Bd.cell rfl)) (qV (AL (ad:=some ⟨nb,no,none⟩) (n:=n) (cap:=nc) underlying46 rfl) (qA (I6 (n:Int)) rfl (AA (Y (qF bd 0 0 rfl underlying48 rfl Ad rfl (qV (AE (v:=(I6 d.start)) rfl Ai (Bd.cell rfl)) (qV (B' (ps:=[(0,(I6 d.start))]) (v:=(.agg #[(I6 d.start),(.slice none 0 0),(.slice none 0 0)])) rfl qK) (A6 (v:=(.agg #[(I6 d.start),(.slice none 0 0),(.slice none 0 0)])) (c:=#[(I6 d.start),(.slice none 0 0),(.slice none 0 0)]) (n:=3) qD Ce rfl Aw rfl rfl rfl qS ?_)))))))))));intro bx wx Nx;have Fx:=Nx.ge E;have Ox_bd:=Nx.lt Bd;have Ox_bo:=Nx.lt Bo;replace Bd:=Nx.keep Bd;replace Bo:=Nx.keep Bo;replace E:=E.ext Nx.ext;have Bx:=Nx.blk;refine AA (AI (Y (qF bd 0 2 rfl underlying48 rfl A' rfl (qV (AE (v:=(.slice (some ⟨nb,no,none⟩) n nc)) rfl A4 (Bd.cell rfl)) (qV (AL (ad:=some ⟨nb,no,none⟩) (n:=n) (cap:=nc) underlying46 rfl) (qM (I6 0) rfl (AA (AO ?_))))))));have d6:=Bd.lt;have df:=Bo.lt;obtain ⟨n1,c8⟩:∃n1,n1=wx.heap.size:=⟨_,rfl⟩;have dt:bx<n1:=by have:=Bx.lt;omega
 refine Ap (fun nn_ σ W1=>∃(i:Nat) (an:List (List Int)) (am:List Int) (vs:List Value) (ea ak:Option Addr) (ec aj:Nat),(∃jj_,σ=BK jj_ [(1,(P6 bd 0)),(2,(P6 bo 0)),(3,(I6 (n:Int))),(4,(P6 bx 0)),(17,(.slice (some ⟨nb,no,none⟩) n nc)),(18,(I6 (n:Int))),(19,(I6 (i:Int)))])∧Chg Ab w0 W1∧Az W1 bd #[(I6 d.start),(.slice (some ⟨ab,ao,none⟩) n ac),(.slice (some ⟨nb,no,none⟩) n nc)] 48∧Az W1 bo #[(I6 0),(.slice none 0 0),(.slice none 0 0)] 48∧Az W1 bx (#[Value.int .i64 d.start,.slice ea i ec,.slice ak i aj]) 48∧(i≤n)∧(an=(d.next.take i).map (fun r=>r.map (nt n)))∧(am=(d.accept.take i).map fl)∧(OutSt W1 n1 (.slice ea i ec) (.slice ak i aj) vs am an)∧(n1≤W1.heap.size)∧nn_=n - i) (n:=n - 0) ?_ ?_
 ·exact ⟨0,[],[],[],none,none,0,0,Ac.out ⟨rfl,rfl,rfl,rfl,rfl,rfl,rfl,trivial⟩,E,Bd,Bo,Bx,Nat.zero_le _,rfl,rfl,OutSt.start _ _,qO,rfl⟩
 ·clear E Bd Bo Bx;rintro _ _ W1 ⟨i,an,am,vs,ea,ak,ec,aj,⟨j1,rfl⟩,E,Bd,Bo,Bx,hi,ap,aq,hO,ax,rfl⟩;refine Y (qV (A0 (k:=.i64) (a:=(i:Int)) (b:=(n:Int)) rfl rfl) (AA (AI (qC rfl (fun di=>?_) (fun di=>?_)))))
  ·obtain ⟨row,ra,rc,av,b7,bb,db⟩:=au i qO;obtain ⟨z0,hz0⟩:∃z0,z0=(W1).heap.size:=⟨_,rfl⟩;have bn:∀b,Eb (.slice ea i ec) (.slice ak i aj) vs b→b<z0:=fun b hb=>by have:=(hO.lt hb).2;omega
   have hnz:n1≤z0:=qO
   refine AM (AB (AI (AO (Y (qM (I6 (i:Int)) rfl (qV (AC (b:=nb) (o:=no) (len:=n) (cap:=nc) (i:=i) (o':=no+i) rfl rfl rfl underlying46 Ay qO qO) (qV (AE (v:=(.slice ra row.length rc)) rfl Ax (E.cell (fun f=>f) bb)) (qA (I6 (i:Int)) rfl (qA (.slice ra row.length rc) rfl (AA (Y (qM (.slice ra row.length rc) rfl (qE rfl (AV (vs:=[(.slice ra row.length rc)]) func117 kQ kQ rfl) (Rm _ _ row (db.ext E) qO qO) ?_)))))))))))));rintro _ w9 ⟨⟨bq,bc,k9,rfl,hq,hQ,da,cv⟩,X9⟩;replace Bd:=X9.keep Bd;replace Bo:=X9.keep Bo;replace Bx:=X9.keep Bx;replace hO:=hO.ext X9;replace ax:=Nat.le_trans ax X9.size;replace E:=E.ext X9;have hqz:z0≤bq:=qO
   rw[show row.map (Value.int .i64)=(LG n row 0).map (Value.int .i64) by rw[Q0]] at hQ;refine qA (.slice (some ⟨bq,0,none⟩) row.length k9) rfl (AA (AI (Y (qM (.slice (some ⟨bq,0,none⟩) row.length k9) rfl (qV (AL (ad:=some ⟨bq,0,none⟩) (n:=row.length) (cap:=k9) underlying22 rfl) (qM (I6 0) rfl (AA (AO (Ap (fun nn_ σ W3=>∃(x:Nat),(∃jj_,σ=BK jj_ [(1,(P6 bd 0)),(2,(P6 bo 0)),(3,(I6 (n:Int))),(4,(P6 bx 0)),(5,(I6 (i:Int))),(7,(.slice (some ⟨bq,0,none⟩) row.length k9)),(17,(.slice (some ⟨nb,no,none⟩) n nc)),(18,(I6 (n:Int))),(19,(I6 (i:Int))),(26,(.slice (some ⟨bq,0,none⟩) row.length k9)),(27,(I6 (row.length:Int))),(28,(I6 (x:Int)))])∧Chg Ab w0 W3∧Az W3 bd #[(I6 d.start),(.slice (some ⟨ab,ao,none⟩) n ac),(.slice (some ⟨nb,no,none⟩) n nc)] 48∧Az W3 bo #[(I6 0),(.slice none 0 0),(.slice none 0 0)] 48∧Az W3 bx (#[Value.int .i64 d.start,.slice ea i ec,.slice ak i aj]) 48∧Az W3 bq (((LG n row x).map (Value.int .i64)++bc).toArray) 3∧(x≤c)∧(OutSt W3 n1 (.slice ea i ec) (.slice ak i aj) vs am an)∧(n1≤W3.heap.size)∧nn_=c - x) (n:=c - 0) ?_ ?_)))))))))
   ·exact ⟨0,Ac.out ⟨rfl,rfl,rfl,rfl,rfl,rfl,rfl,rfl,rfl,rfl,rfl,rfl,trivial⟩,E,Bd,Bo,Bx,hQ,Nat.zero_le _,hO,ax,rfl⟩
   ·clear E Bd Bo Bx hQ;rintro _ _ W3 ⟨x,⟨j3,rfl⟩,E,Bd,Bo,Bx,hQ,hx,hO,ax,rfl⟩;refine Y (qV (A0 (k:=.i64) (a:=(x:Int)) (b:=(row.length:Int)) rfl rfl) (AA (AI (qC rfl (fun b3=>?_) (fun b3=>?_)))))
    ·obtain ⟨t,ht⟩:=AK (l:=row) (i:=x) qO;refine AM (AB (AI (AO (Y (qM (I6 (x:Int)) rfl (qV (AC (b:=bq) (o:=0) (len:=row.length) (cap:=k9) (i:=x) (o':=0+x) rfl rfl rfl underlying22 Ad qO qO) (qV (AE (v:=(I6 t)) rfl Ai (by rw[Nat.zero_add];exact HX hQ (Sn ht))) (qA (I6 (x:Int)) rfl (qA (I6 t) rfl (AA (Y (qM (I6 t) rfl (qV (A0 (k:=.i64) (a:=t) (b:=0) rfl rfl) (AA (qC rfl (fun a3=>?_) (fun a3=>?_))))))))))))))))
     ·refine AJ (qM (.slice (some ⟨bq,0,none⟩) row.length k9) rfl (qM (I6 (x:Int)) rfl (qM (I6 (n:Int)) rfl (qV (AC (b:=bq) (o:=0) (len:=row.length) (cap:=k9) (i:=x) (o':=0+x) rfl rfl rfl underlying22 Ad qO qO) (A9 (b:=bq) (o:=0+x) (c':=((LG n row (x+1)).map (Value.int .i64)++bc).toArray) (v:=(I6 (n:Int))) rfl rfl rfl Ad hQ (by simp[Oh];omega) (by rw[Nat.zero_add,JQ (by rw[Oh];omega),Sm ht a3]) ?_)))));intro w6 S6;replace hO:=hO.chg S6.chg fun b hb h=>by have:=bn b hb;have h':b=bq:=h;omega
      replace ax:=Nat.le_trans ax S6.chg.size;replace Bd:=S6.keep qO Bd;replace Bo:=S6.keep qO Bo;replace Bx:=S6.keep qO Bx;replace E:=S6.step E qQ;replace hQ:=S6.blk;refine AA (AN (AB (AJ (qV (Ar (k:=.i64) (a:=(x:Int)) (b:=1) (c:=(x:Int)+1) rfl rfl (A5 qO)) (qM (I6 ((x:Int)+1)) rfl (AA (AB ?_)))))));exact ⟨c - (x+1),qO,x+1,Ac.out ⟨rfl,rfl,rfl,rfl,rfl,rfl,rfl,rfl,rfl,rfl,rfl,rfl,trivial⟩,E,Bd,Bo,Bx,hQ,qO,hO,ax,rfl⟩
     ·rw[Q1 ht a3] at hQ;refine AM (AN (AB (AJ (qV (Ar (k:=.i64) (a:=(x:Int)) (b:=1) (c:=(x:Int)+1) rfl rfl (A5 qO)) (qM (I6 ((x:Int)+1)) rfl (AA (AB ?_)))))));exact ⟨c - (x+1),qO,x+1,Ac.out ⟨rfl,rfl,rfl,rfl,rfl,rfl,rfl,rfl,rfl,rfl,rfl,rfl,trivial⟩,E,Bd,Bo,Bx,hQ,qO,hO,ax,rfl⟩
    ·have d8:x=row.length:=qO
     rw[d8,So] at hQ;have cg:=Sh (base:=bq) hQ (Nat.le_refl _) (by rw[List.length_map];exact da) cv;rw[List.length_map] at cg;obtain ⟨n4,bm⟩:∃n4,n4=(W3).heap.size:=⟨_,rfl⟩;have bj:an.length=i:=by rw[ap,List.length_map,List.length_take];omega
     have ar:am.length=i:=by rw[aq,List.length_map,List.length_take];omega
     have ah:(W3).ownsRow n1 CF 1 (.slice ea i ec) i (am.map (Value.int .i64)):=by have h9:=hO.e;rwa [ar] at h9
     have ai:(W3).ownsRow n1 CX 1 (.slice ak i aj) i vs:=hO.n.on (by rw[List.length_map];omega);have b1:=Ew ok (show i<n by omega);obtain ⟨yv,dg⟩:∃y,y=Co d ((i:Nat):Int):=⟨_,rfl⟩;rw[←dg] at b1;refine Ak (AP (AP (Ae (AB ?_))));obtain ⟨eg,ag⟩:∃Fs:List Cy,Fs=[(fun _ v _=>v=(P6 bx 2)),(fun _ v _=>v=(.slice ak i aj)),(fun _ v _=>v=(.slice (some ⟨bq,0,none⟩) row.length k9)),(fun _=>Ct CX #[.slice (some ⟨bq,0,none⟩) row.length k9] n4),(fun _=>CW n1 CX 1 (i+1) (vs++[Value.slice (some ⟨bq,0,none⟩) row.length k9]) (.slice ak i aj) n4),(fun _ v _=>v=(P6 bx 1)),(fun _ v _=>v=(.slice ea i ec)),(fun _ v _=>v=(P6 bd 1)),(fun _ v _=>v=(.slice (some ⟨ab,ao,none⟩) n ac)),(fun _ v _=>v=(I6 (i:Int))),(fun _ v _=>v=(.pointer (some ⟨ab,ao+i,none⟩))),(fun _ v _=>v=(I6 yv)),(fun _ v _=>v=(.bool (decide (yv<0)))),(fun _ v _=>v=(I6 (fl yv))),(fun _=>Ct CF #[.int .i64 (fl yv)] n4),(fun s v w=>CW n1 CF 1 (i+1) (am.map (Value.int .i64)++[Value.int .i64 (fl yv)]) (.slice ea i ec) n4 v w∧∀b,(s 44).ownBlock=some b→v.ownBlock≠some b),(fun _ v _=>v=(P6 bx 2))]:=⟨_,rfl⟩;refine Hi (two 4 15 (fun b=>(Value.slice ak i aj).ownBlock=some b) (fun b=>(Value.slice ea i ec).ownBlock=some b)) 17 [40,41,42,43,44,45,46,47,48,49,50,51,52,53,54,55,56] [[],[0],[],[2],[1,3],[],[5],[],[7],[],[8,9],[10],[11],[4,12],[13],[6,13,14],[0,1,2,3,4,5,6]] [[],[0],[],[2],[1,0,3,2],[],[5],[],[7],[],[8,7,9],[10,8,7,9],[11,10,8,7,9],[4,1,0,3,2,12,11,10,8,7,9],[13,4,1,0,3,2,12,11,10,8,7,9],[6,5,13,4,1,0,3,2,12,11,10,8,7,9,14],[0,1,2,3,4,5,6]] eg ag qK mixed qK qK qK ?_ ?_
     ·intro wd X0;refine DagStepsX.cons (BE.eq) (fun _ _ _ _ _ h=>h) (fun s' w' X U H=>?_) ?_
      ·exact AR (AT (b:=bx) (o:=0) (o':=2) (U 4 rfl) underlying48 rfl A' rfl) (Chg.refl _ _) rfl
      refine DagStepsX.cons (BE.eq) (fun _ _ _ _ _ h=>h) (fun s' w' X U H=>?_) ?_
      ·have dh:=H 0 rfl 40 _ rfl (by rw[ag];rfl);exact AR (AE (v:=(.slice ak i aj)) dh A4 ((Chg.keep X (fun h=>(fun h=>h.elim (fun h=>by have:=(ai.lt _ h).1;omega) (fun h=>by have:=(ah.lt _ h).1;omega)) (C3.or h)) (X0.keep Bx)).cell rfl)) (Chg.refl _ _) rfl
      refine DagStepsX.cons (BE.eq) (fun _ _ _ _ _ h=>h) (fun s' w' X U H=>?_) ?_
      ·exact AR (AZ (v:=(.slice (some ⟨bq,0,none⟩) row.length k9)) (U 7 rfl)) (Chg.refl _ _) rfl
      refine DagStepsX.cons (DB (fun y h=>by have:=(ai.lt y h).2;omega) (fun y h=>by have:=(ah.lt y h).2;omega)) (FS.const) (fun s' w' X U H=>?_) ?_
      ·have c9:=H 2 rfl 42 _ rfl (by rw[ag];rfl);exact Cl (hs:=n4) underlying46 Ay DY c9 qD qD qK (by have:=X0.size;have:=X.size;omega)
      refine DagStepsX.cons (Hg (fun k hk hm=>hk.elim (fun h=>hO.en k hm h) (fun h=>by have:=(ah.lt k hm).2;omega))) (FS.const) (fun s' w' X U H=>?_) ?_
      ·have dr:=H 1 rfl 41 _ rfl (by rw[ag];rfl);obtain ⟨b43,ee,d7,g43⟩:=(show ((fun _=>Ct CX #[.slice (some ⟨bq,0,none⟩) row.length k9] n4):Cy) s' (s' 43) w' from H 3 rfl 43 ((fun _=>Ct CX #[.slice (some ⟨bq,0,none⟩) row.length k9] n4)) rfl (by rw[ag];rfl));exact CL (hs:=n4) underlying46 Ay IR DY rfl qD dr (Am (Am ai X0) (X.mono (fun y _ h=>C3.none rfl rfl h))) ee rfl (d7.cells rfl) qS (by unfold maxLen;omega) qO (by have:=X0.size;have:=X.size;omega) (fun y h=>h) (by have:=X0.size;have:=X.size;omega)
      refine DagStepsX.cons (BE.eq) (fun _ _ _ _ _ h=>h) (fun s' w' X U H=>?_) ?_
      ·exact AR (AT (b:=bx) (o:=0) (o':=1) (U 4 rfl) underlying48 rfl Ay rfl) (Chg.refl _ _) rfl
      refine DagStepsX.cons (BE.eq) (fun _ _ _ _ _ h=>h) (fun s' w' X U H=>?_) ?_
      ·have dw:=H 5 rfl 45 _ rfl (by rw[ag];rfl);exact AR (AE (v:=(.slice ea i ec)) dw Ax ((Chg.keep X (fun h=>(fun h=>h.elim (fun h=>by have:=(ai.lt _ h).1;omega) (fun h=>by have:=(ah.lt _ h).1;omega)) (C3.or h)) (X0.keep Bx)).cell rfl)) (Chg.refl _ _) rfl
      refine DagStepsX.cons (BE.eq) (fun _ _ _ _ _ h=>h) (fun s' w' X U H=>?_) ?_
      ·exact AR (AT (b:=bd) (o:=0) (o':=1) (U 1 rfl) underlying48 rfl Ay rfl) (Chg.refl _ _) rfl
      refine DagStepsX.cons (BE.eq) (fun _ _ _ _ _ h=>h) (fun s' w' X U H=>?_) ?_
      ·have cr:=H 7 rfl 47 _ rfl (by rw[ag];rfl);exact AR (AE (v:=(.slice (some ⟨ab,ao,none⟩) n ac)) cr Ax ((Chg.keep X (fun h=>(fun h=>h.elim (fun h=>by have:=(ai.lt _ h).1;omega) (fun h=>by have:=(ah.lt _ h).1;omega)) (C3.or h)) (X0.keep Bd)).cell rfl)) (Chg.refl _ _) rfl
      refine DagStepsX.cons (BE.eq) (fun _ _ _ _ _ h=>h) (fun s' w' X U H=>?_) ?_
      ·exact AR (AZ (v:=(I6 (i:Int))) (U 5 rfl)) (Chg.refl _ _) rfl
      refine DagStepsX.cons (BE.eq) (fun _ _ _ _ _ h=>h) (fun s' w' X U H=>?_) ?_
      ·have d3:=H 8 rfl 48 _ rfl (by rw[ag];rfl);have d5:=H 9 rfl 49 _ rfl (by rw[ag];rfl);exact AR (AC (b:=ab) (o:=ao) (len:=n) (cap:=ac) (i:=i) (o':=ao+i) d3 d5 rfl underlying22 Ad qO qO) (Chg.refl _ _) rfl
      refine DagStepsX.cons (BE.eq) (fun _ _ _ _ _ h=>h) (fun s' w' X U H=>?_) ?_
      ·have cx:=H 10 rfl 50 _ rfl (by rw[ag];rfl);exact AR (AE (v:=(I6 yv)) cx Ai (Chg.cell X (fun h=>(C3.or h).elim (fun h=>by have:=(ai.lt ab h).1;omega) (fun h=>by have:=(ah.lt ab h).1;omega)) (X0.cell (E.cell (fun f=>f) (ck i _ b1))))) (Chg.refl _ _) rfl
      refine DagStepsX.cons (BE.eq) (fun _ _ _ _ _ h=>h) (fun s' w' X U H=>?_) ?_
      ·have c1:=H 11 rfl 51 _ rfl (by rw[ag];rfl);exact AR (A0 c1 rfl) (Chg.refl _ _) rfl
      refine DagStepsX.cons (BE.eq) (fun _ _ _ _ _ h=>h) (fun s' w' X U H=>?_) ?_
      ·have d0:=H 12 rfl 52 _ rfl (by rw[ag];rfl);exact Dv (AV (vs:=[(.bool (decide (yv<0)))]) func124 kQ kQ (NK d0)) (Pu yv _)
      refine DagStepsX.cons (DB (fun y h=>by have:=(ai.lt y h).2;omega) (fun y h=>by have:=(ah.lt y h).2;omega)) (FS.const) (fun s' w' X U H=>?_) ?_
      ·have dm:=H 13 rfl 53 _ rfl (by rw[ag];rfl);exact Cl (hs:=n4) underlying22 Ad BY dm qD qD qK (by have:=X0.size;have:=X.size;omega)
      refine DagStepsX.cons (Hf rfl) (fun s1 s2 h v w h2=>⟨h2.1,by have:=h 4 44 rfl rfl;rw[this];exact h2.2⟩) (fun s' w' X U H=>?_) ?_
      ·have cy:=H 6 rfl 46 _ rfl (by rw[ag];rfl);obtain ⟨b54,dp,dk,g54⟩:=(show ((fun _=>Ct CF #[.int .i64 (fl yv)] n4):Cy) s' (s' 54) w' from H 14 rfl 54 ((fun _=>Ct CF #[.int .i64 (fl yv)] n4)) rfl (by rw[ag];rfl));exact He (H 4 rfl 44 _ rfl (by rw[ag];rfl)) (CL (hs:=w'.heap.size) underlying22 Ad Dj BY rfl qD cy (Av (Am ah X0) (X.mono (fun y _ h=>C3.fst rfl h)) (fun k hk hm=>hO.en k hk hm)) dp rfl (dk.cells rfl) qS (by unfold maxLen;omega) qO (by have:=X0.size;have:=X.size;omega) (fun y h=>h) (Nat.le_refl _)) (by have:=X0.size;have:=X.size;omega) (fun k h1 h2=>h1.elim (fun h=>hO.en k h2 h) (fun h=>by have:=(ah.lt k h2).2;omega))
      refine DagStepsX.cons (BE.eq) (fun _ _ _ _ _ h=>h) (fun s' w' X U H=>?_) ?_
      ·exact AR (AT (b:=bx) (o:=0) (o':=2) (U 4 rfl) underlying48 rfl A' rfl) (Chg.refl _ _) rfl
      exact DagStepsX.nil
     ·intro s' wd7 w7 X0 X7 U H;replace X7:=X7.mono (M':=fun y=>(fun b=>(Value.slice ak i aj).ownBlock=some b) y∨(fun b=>(Value.slice ea i ec).ownBlock=some b) y) (fun y _ h=>by obtain ⟨j,h⟩:=h;rcases Eg h with h|h;exact .inl h.2;exact .inr h.2);obtain ⟨⟨ba,a9,ch⟩,cb,cj⟩:=(show ((fun _=>CW n1 CX 1 (i+1) (vs++[Value.slice (some ⟨bq,0,none⟩) row.length k9]) (.slice ak i aj) n4):Cy) s' (s' 44) w7 from H 4 44 ((fun _=>CW n1 CX 1 (i+1) (vs++[Value.slice (some ⟨bq,0,none⟩) row.length k9]) (.slice ak i aj) n4)) rfl (by rw[ag];rfl));obtain ⟨⟨⟨bh,bi,b5⟩,cn,ce⟩,bt⟩:=(show ((fun s v w=>CW n1 CF 1 (i+1) (am.map (Value.int .i64)++[Value.int .i64 (fl yv)]) (.slice ea i ec) n4 v w∧∀b,(s 44).ownBlock=some b→v.ownBlock≠some b):Cy) s' (s' 55) w7 from H 15 55 ((fun s v w=>CW n1 CF 1 (i+1) (am.map (Value.int .i64)++[Value.int .i64 (fl yv)]) (.slice ea i ec) n4 v w∧∀b,(s 44).ownBlock=some b→v.ownBlock≠some b)) rfl (by rw[ag];rfl));have c4:s' 56=(.pointer (some ⟨bx,2,none⟩)):=H 16 56 ((fun _ v _=>v=(.pointer (some ⟨bx,2,none⟩)))) rfl (by rw[ag];rfl);obtain ⟨j7,rfl⟩:=Ac.out (σ:=s') (l:=[(1,(.pointer (some ⟨bd,0,none⟩))),(2,(.pointer (some ⟨bo,0,none⟩))),(3,(.int .i64 ((n:Nat):Int))),(4,(.pointer (some ⟨bx,0,none⟩))),(17,(.slice (some ⟨nb,no,none⟩) n nc)),(18,(.int .i64 ((n:Nat):Int))),(19,(.int .i64 ((i:Nat):Int))),(44,(.slice ba (i+1) a9)),(55,(.slice bh (i+1) bi)),(56,(.pointer (some ⟨bx,2,none⟩)))]) ⟨U 1 rfl,U 2 rfl,U 3 rfl,U 4 rfl,U 17 rfl,U 18 rfl,U 19 rfl,ch,b5,c4,trivial⟩;clear U H;replace Bd:=Chg.keep X7 (fun h=>h.elim (fun h=>by have:=(ai.lt _ h).1;omega) (fun h=>by have:=(ah.lt _ h).1;omega)) (X0.keep Bd);replace Bo:=Chg.keep X7 (fun h=>h.elim (fun h=>by have:=(ai.lt _ h).1;omega) (fun h=>by have:=(ah.lt _ h).1;omega)) (X0.keep Bo);replace Bx:=Chg.keep X7 (fun h=>h.elim (fun h=>by have:=(ai.lt _ h).1;omega) (fun h=>by have:=(ah.lt _ h).1;omega)) (X0.keep Bx);replace hQ:=Chg.keep X7 (fun h=>h.elim (fun h=>by have:=bn _ (.inr (.inl h));omega) (fun h=>by have:=bn _ (.inl h);omega)) (X0.keep hQ);have bp:=Chg.trans (Al.chg X0) X7;replace E:=(E.ext X0).step X7 (fun y hy h=>h.elim (fun h=>by have:=(ai.lt y h).1;omega) (fun h=>by have:=(ah.lt y h).1;omega));rw[ch] at cb cj bt;rw[b5] at cn ce bt;have a4:=hO.push (y:=fl yv) (row:=row.map (nt n)) (N':=.slice ba (i+1) a9) (E':=.slice bh (i+1) bi) cg (by rw[List.length_map]) qO (fun b hb=>by have:=bn b hb;omega) bp (by rw[bj];exact cb) (fun k hk=>by rw[←bm];exact cj k hk) (by rw[ar,List.map_append];exact cn) (fun k hk=>by rw[←bm];exact ce k hk) bt;have aw:=Nat.le_trans ax bp.size;refine A9 (b:=bx) (o:=2) (c':=#[(I6 d.start),(.slice ea i ec),(.slice ba (i+1) a9)]) (v:=(.slice ba (i+1) a9)) rfl rfl rfl A' Bx qP rfl ?_;intro w8 S8;replace a4:=a4.chg S8.chg fun b hb h=>by have:=(a4.lt hb).1;have h':b=bx:=h;omega
      replace aw:=Nat.le_trans aw S8.chg.size;replace Bd:=S8.keep qO Bd;replace Bo:=S8.keep qO Bo;replace hQ:=S8.keep qO hQ;replace E:=S8.step E qQ;replace Bx:=S8.blk;refine qF bx 0 1 rfl underlying48 rfl Ay rfl (A9 (b:=bx) (o:=1) (c':=#[(I6 d.start),(.slice bh (i+1) bi),(.slice ba (i+1) a9)]) (v:=(.slice bh (i+1) bi)) rfl rfl rfl Ay Bx qP rfl ?_);intro w9 S9;replace a4:=a4.chg S9.chg fun b hb h=>by have:=(a4.lt hb).1;have h':b=bx:=h;omega
      replace aw:=Nat.le_trans aw S9.chg.size;replace Bd:=S9.keep qO Bd;replace Bo:=S9.keep qO Bo;replace hQ:=S9.keep qO hQ;replace E:=S9.step E qQ;replace Bx:=S9.blk;refine AA (AN (AB (AJ (qV (Ar (k:=.i64) (a:=(i:Int)) (b:=1) (c:=(i:Int)+1) rfl rfl (A5 qO)) (qM (I6 ((i:Int)+1)) rfl (AA (AB ?_)))))));exact ⟨n - (i+1),qO,i+1,an++[row.map (nt n)],am++[fl yv],vs++[.slice (some ⟨bq,0,none⟩) row.length k9],bh,ba,bi,a9,Ac.out ⟨rfl,rfl,rfl,rfl,rfl,rfl,rfl,trivial⟩,E,Bd,Bo,Bx,qO,(by rw[Eh av,List.map_append,ap];rfl),(by rw[Eh b1,List.map_append,aq];rfl),a4,aw,rfl⟩
  ·have b6:i=n:=qO
   obtain ⟨af,bu,bw,cf,bv,a2,ef⟩:=au 0 qO;obtain ⟨n4,bm⟩:∃n4,n4=(W1).heap.size:=⟨_,rfl⟩;have bj:an.length=n:=by rw[ap,List.length_map,List.length_take];omega
   have ar:am.length=n:=by rw[aq,List.length_map,List.length_take];omega
   rw[b6] at hO Bx;have ah:(W1).ownsRow n1 CF 1 (.slice ea n ec) n (am.map (Value.int .i64)):=by have h9:=hO.e;rwa [ar] at h9
   have ai:(W1).ownsRow n1 CX 1 (.slice ak n aj) n vs:=hO.n.on (by rw[List.length_map];omega);refine Ak (AP (AP (Ae (AB (AI ?_)))));obtain ⟨b0,ae⟩:∃Fs:List Cy,Fs=[(fun _ v _=>v=(P6 bx 2)),(fun _ v _=>v=(.slice ak n aj)),(fun _ v _=>v=(I6 (n:Int))),(fun _=>Ct CF #[.int .i64 (n:Int)] n4),(fun _ v _=>v=(P6 bd 2)),(fun _ v _=>v=(.slice (some ⟨nb,no,none⟩) n nc)),(fun _ v _=>v=(.pointer (some ⟨nb,no+0,none⟩))),(fun _ v _=>v=(.slice bu af.length bw)),(fun _ v _=>v=(I6 (af.length:Int))),(fun _=>CW n4 CF 1 af.length ((List.replicate af.length (n:Int)).map (Value.int .i64)) (.slice none 0 0) n4),(fun s v w=>Ct CX #[s 68] n4 v w),(fun s v w=>CW n1 CX 1 (n+1) (vs++[s 68]) (.slice ak n aj) n4 v w∧∀b,(s 68).ownBlock=some b→v.ownBlock≠some b),(fun _ v _=>v=(P6 bx 1)),(fun _ v _=>v=(.slice ea n ec)),(fun _=>Ct CF #[.int .i64 0] n4),(fun _=>CW n1 CF 1 (n+1) (am.map (Value.int .i64)++[Value.int .i64 0]) (.slice ea n ec) n4),(fun _ v _=>v=(P6 bx 2))]:=⟨_,rfl⟩;refine Hi (two 11 15 (fun b=>(Value.slice ak n aj).ownBlock=some b) (fun b=>(Value.slice ea n ec).ownBlock=some b)) 17 [59,60,61,62,63,64,65,66,67,68,69,70,71,72,73,74,75] [[],[0],[],[2],[],[4],[5],[6],[7],[3,8],[9],[1,9,10],[],[12],[],[11,13,14],[0,1,2,3,4,5,6,7,8,9,10,11,12,13]] [[],[0],[],[2],[],[4],[5,4],[6,5,4],[7,6,5,4],[3,2,8,7,6,5,4],[9,3,2,8,7,6,5,4],[1,0,9,3,2,8,7,6,5,4,10],[],[12],[],[11,1,0,9,3,2,8,7,6,5,4,10,13,12,14],[0,1,2,3,4,5,6,7,8,9,10,11,12,13]] b0 ae qK mixed qK qK qK ?_ ?_
   ·intro wd X0;refine DagStepsX.cons (BE.eq) (fun _ _ _ _ _ h=>h) (fun s' w' X U H=>?_) ?_
    ·exact AR (AT (b:=bx) (o:=0) (o':=2) (U 4 rfl) underlying48 rfl A' rfl) (Chg.refl _ _) rfl
    refine DagStepsX.cons (BE.eq) (fun _ _ _ _ _ h=>h) (fun s' w' X U H=>?_) ?_
    ·have ct:=H 0 rfl 59 _ rfl (by rw[ae];rfl);exact AR (AE (v:=(.slice ak n aj)) ct A4 ((Chg.keep X (fun h=>(fun h=>h.elim (fun h=>by have:=(ai.lt _ h).1;omega) (fun h=>by have:=(ah.lt _ h).1;omega)) (C3.or h)) (X0.keep Bx)).cell rfl)) (Chg.refl _ _) rfl
    refine DagStepsX.cons (BE.eq) (fun _ _ _ _ _ h=>h) (fun s' w' X U H=>?_) ?_
    ·exact AR (AZ (v:=(I6 (n:Int))) (U 3 rfl)) (Chg.refl _ _) rfl
    refine DagStepsX.cons (DB (fun y h=>by have:=(ai.lt y h).2;omega) (fun y h=>by have:=(ah.lt y h).2;omega)) (FS.const) (fun s' w' X U H=>?_) ?_
    ·have d4:=H 2 rfl 61 _ rfl (by rw[ae];rfl);exact Cl (hs:=n4) underlying22 Ad BY d4 qD qD qK (by have:=X0.size;have:=X.size;omega)
    refine DagStepsX.cons (BE.eq) (fun _ _ _ _ _ h=>h) (fun s' w' X U H=>?_) ?_
    ·exact AR (AT (b:=bd) (o:=0) (o':=2) (U 1 rfl) underlying48 rfl A' rfl) (Chg.refl _ _) rfl
    refine DagStepsX.cons (BE.eq) (fun _ _ _ _ _ h=>h) (fun s' w' X U H=>?_) ?_
    ·have c5:=H 4 rfl 63 _ rfl (by rw[ae];rfl);exact AR (AE (v:=(.slice (some ⟨nb,no,none⟩) n nc)) c5 A4 ((Chg.keep X (fun h=>(fun h=>h.elim (fun h=>by have:=(ai.lt _ h).1;omega) (fun h=>by have:=(ah.lt _ h).1;omega)) (C3.or h)) (X0.keep Bd)).cell rfl)) (Chg.refl _ _) rfl
    refine DagStepsX.cons (BE.eq) (fun _ _ _ _ _ h=>h) (fun s' w' X U H=>?_) ?_
    ·have dl:=H 5 rfl 64 _ rfl (by rw[ae];rfl);exact AR (AC (b:=nb) (o:=no) (len:=n) (cap:=nc) (i:=0) (o':=no+0) dl rfl rfl underlying46 Ay qO qO) (Chg.refl _ _) rfl
    refine DagStepsX.cons (BE.eq) (fun _ _ _ _ _ h=>h) (fun s' w' X U H=>?_) ?_
    ·have dx:=H 6 rfl 65 _ rfl (by rw[ae];rfl);exact AR (AE (v:=(.slice bu af.length bw)) dx Ax (Chg.cell X (fun h=>(C3.or h).elim (fun h=>by have:=(ai.lt nb h).1;omega) (fun h=>by have:=(ah.lt nb h).1;omega)) (X0.cell (E.cell (fun f=>f) a2)))) (Chg.refl _ _) rfl
    refine DagStepsX.cons (BE.eq) (fun _ _ _ _ _ h=>h) (fun s' w' X U H=>?_) ?_
    ·have dq:=H 7 rfl 66 _ rfl (by rw[ae];rfl);exact AR (AL (ad:=bu) (n:=af.length) (cap:=bw) underlying22 dq) (Chg.refl _ _) rfl
    refine DagStepsX.cons (Rx (fun y h=>by have:=(ai.lt y h).2;omega) (fun y h=>by have:=(ah.lt y h).2;omega)) (FS.const) (fun s' w' X U H=>?_) ?_
    ·obtain ⟨cm,cu,c7,g62⟩:=(show ((fun _=>Ct CF #[.int .i64 (n:Int)] n4):Cy) s' (s' 62) w' from H 3 rfl 62 ((fun _=>Ct CF #[.int .i64 (n:Int)] n4)) rfl (by rw[ae];rfl));have dj:=H 8 rfl 67 _ rfl (by rw[ae];rfl);exact Dv (AV (vs:=[(.slice (some ⟨cm,0,none⟩) 1 1),(I6 (af.length:Int))]) func125 kQ kQ (JF cu dj)) (Qe _ cm 1 af.length n4 (n:Int) _ c7 qO qO (by have:=X0.size;have:=X.size;omega))
    refine DagStepsX.cons (RA (fun y h=>by have:=(ai.lt y h).2;omega) (fun y h=>by have:=(ah.lt y h).2;omega)) (fun s1 s2 h v w h2=>by have:=h 9 68 rfl rfl;rw[this];exact h2) (fun s' w' X U H=>?_) ?_
    ·obtain ⟨⟨dz,ed,bz⟩,b4,cz⟩:=(show ((fun _=>CW n4 CF 1 af.length ((List.replicate af.length (n:Int)).map (Value.int .i64)) (.slice none 0 0) n4):Cy) s' (s' 68) w' from H 9 rfl 68 ((fun _=>CW n4 CF 1 af.length ((List.replicate af.length (n:Int)).map (Value.int .i64)) (.slice none 0 0) n4)) rfl (by rw[ae];rfl));exact Cl (hs:=n4) underlying46 Ay DY bz qD qD (by rw[bz];kernel_rfl) (by have:=X0.size;have:=X.size;omega)
    refine DagStepsX.cons (Rv (fun k hk hm=>hk.elim (fun h=>hO.en k hm h) (fun h=>by have:=(ah.lt k hm).2;omega))) (fun s1 s2 h v w h2=>by have:=h 9 68 rfl rfl;rw[this];exact h2) (fun s' w' X U H=>?_) ?_
    ·have dc:=H 1 rfl 60 _ rfl (by rw[ae];rfl);obtain ⟨b69,dn,c0,g69⟩:=(show ((fun s v w=>Ct CX #[s 68] n4 v w):Cy) s' (s' 69) w' from H 10 rfl 69 ((fun s v w=>Ct CX #[s 68] n4 v w)) rfl (by rw[ae];rfl));exact He (H 9 rfl 68 _ rfl (by rw[ae];rfl)) (CL (hs:=w'.heap.size) underlying46 Ay IR DY rfl qD dc (Am (Am ai X0) (X.mono (fun y _ h=>C3.none rfl rfl h))) dn rfl (c0.cells rfl) (by have h9:CW n4 CF 1 af.length ((List.replicate af.length (n:Int)).map (Value.int .i64)) (.slice none 0 0) n4 (s' 68) w':=H 9 rfl 68 _ rfl (by rw[ae];rfl);obtain ⟨⟨_,_,e9⟩,_⟩:=h9;intro u hu;rw[List.mem_singleton] at hu;rw[hu,e9];rfl) (by unfold maxLen;omega) qO (by have:=X0.size;have:=X.size;omega) (fun y h=>h) (Nat.le_refl _)) (by have:=X0.size;have:=X.size;omega) (fun k h1 h2=>h1.elim (fun h=>by cases h) (fun h=>by have:=(ai.lt k h2).2;omega))
    refine DagStepsX.cons (BE.eq) (fun _ _ _ _ _ h=>h) (fun s' w' X U H=>?_) ?_
    ·exact AR (AT (b:=bx) (o:=0) (o':=1) (U 4 rfl) underlying48 rfl Ay rfl) (Chg.refl _ _) rfl
    refine DagStepsX.cons (BE.eq) (fun _ _ _ _ _ h=>h) (fun s' w' X U H=>?_) ?_
    ·have dy:=H 12 rfl 71 _ rfl (by rw[ae];rfl);exact AR (AE (v:=(.slice ea n ec)) dy Ax ((Chg.keep X (fun h=>(fun h=>h.elim (fun h=>by have:=(ai.lt _ h).1;omega) (fun h=>by have:=(ah.lt _ h).1;omega)) (C3.or h)) (X0.keep Bx)).cell rfl)) (Chg.refl _ _) rfl
    refine DagStepsX.cons (DB (fun y h=>by have:=(ai.lt y h).2;omega) (fun y h=>by have:=(ah.lt y h).2;omega)) (FS.const) (fun s' w' X U H=>?_) ?_
    ·exact Cl (hs:=n4) underlying22 Ad BY rfl qD qD qK (by have:=X0.size;have:=X.size;omega)
    refine DagStepsX.cons (Rw rfl) (FS.const) (fun s' w' X U H=>?_) ?_
    ·have c2:=H 13 rfl 72 _ rfl (by rw[ae];rfl);obtain ⟨b73,cw,cs,g73⟩:=(show ((fun _=>Ct CF #[.int .i64 0] n4):Cy) s' (s' 73) w' from H 14 rfl 73 ((fun _=>Ct CF #[.int .i64 0] n4)) rfl (by rw[ae];rfl));exact CL (hs:=n4) underlying22 Ad Dj BY rfl qD c2 (Av (Am ah X0) (X.mono (fun y _ h=>C3.fst rfl h)) (fun k hk hm=>hO.en k hk hm)) cw rfl (cs.cells rfl) qS (by unfold maxLen;omega) qO (by have:=X0.size;have:=X.size;omega) (fun y h=>h) (by have:=X0.size;have:=X.size;omega)
    refine DagStepsX.cons (BE.eq) (fun _ _ _ _ _ h=>h) (fun s' w' X U H=>?_) ?_
    ·exact AR (AT (b:=bx) (o:=0) (o':=2) (U 4 rfl) underlying48 rfl A' rfl) (Chg.refl _ _) rfl
    exact DagStepsX.nil
   ·intro s' d1 br X0 a6 U H;replace a6:=a6.mono (M':=fun y=>(fun b=>(Value.slice ak n aj).ownBlock=some b) y∨(fun b=>(Value.slice ea n ec).ownBlock=some b) y) (fun y _ h=>by obtain ⟨j,h⟩:=h;rcases Eg h with h|h;exact .inl h.2;exact .inr h.2);obtain ⟨⟨dz,ed,bz⟩,b4,cz⟩:=(show ((fun _=>CW n4 CF 1 af.length ((List.replicate af.length (n:Int)).map (Value.int .i64)) (.slice none 0 0) n4):Cy) s' (s' 68) br from H 9 68 ((fun _=>CW n4 CF 1 af.length ((List.replicate af.length (n:Int)).map (Value.int .i64)) (.slice none 0 0) n4)) rfl (by rw[ae];rfl));obtain ⟨⟨⟨a0,ay,b8⟩,co,ci⟩,cq⟩:=(show ((fun s v w=>CW n1 CX 1 (n+1) (vs++[s 68]) (.slice ak n aj) n4 v w∧∀b,(s 68).ownBlock=some b→v.ownBlock≠some b):Cy) s' (s' 70) br from H 11 70 ((fun s v w=>CW n1 CX 1 (n+1) (vs++[s 68]) (.slice ak n aj) n4 v w∧∀b,(s 68).ownBlock=some b→v.ownBlock≠some b)) rfl (by rw[ae];rfl));obtain ⟨⟨az,a1,cp⟩,cl,c3⟩:=(show ((fun _=>CW n1 CF 1 (n+1) (am.map (Value.int .i64)++[Value.int .i64 0]) (.slice ea n ec) n4):Cy) s' (s' 74) br from H 15 74 ((fun _=>CW n1 CF 1 (n+1) (am.map (Value.int .i64)++[Value.int .i64 0]) (.slice ea n ec) n4)) rfl (by rw[ae];rfl));have c6:s' 75=(.pointer (some ⟨bx,2,none⟩)):=H 16 75 ((fun _ v _=>v=(.pointer (some ⟨bx,2,none⟩)))) rfl (by rw[ae];rfl);obtain ⟨j10,rfl⟩:=Ac.out (σ:=s') (l:=[(2,(.pointer (some ⟨bo,0,none⟩))),(4,(.pointer (some ⟨bx,0,none⟩))),(70,(.slice a0 (n+1) ay)),(74,(.slice az (n+1) a1)),(75,(.pointer (some ⟨bx,2,none⟩)))]) ⟨U 2 rfl,U 4 rfl,b8,cp,c6,trivial⟩;clear U H;replace Bd:=Chg.keep a6 (fun h=>h.elim (fun h=>by have:=(ai.lt _ h).1;omega) (fun h=>by have:=(ah.lt _ h).1;omega)) (X0.keep Bd);replace Bo:=Chg.keep a6 (fun h=>h.elim (fun h=>by have:=(ai.lt _ h).1;omega) (fun h=>by have:=(ah.lt _ h).1;omega)) (X0.keep Bo);replace Bx:=Chg.keep a6 (fun h=>h.elim (fun h=>by have:=(ai.lt _ h).1;omega) (fun h=>by have:=(ah.lt _ h).1;omega)) (X0.keep Bx);have bp:=Chg.trans (Al.chg X0) a6;replace E:=(E.ext X0).step a6 (fun y hy h=>h.elim (fun h=>by have:=(ai.lt y h).1;omega) (fun h=>by have:=(ah.lt y h).1;omega));rw[b8] at co ci cq;rw[cp] at cl c3;have hL:=hO.last (row:=List.replicate af.length (n:Int)) bm qO bp (by rw[bj];exact co) (by rw[List.length_replicate];exact b4) ci cq;have a5:(br).ownsRow n1 CF 1 (.slice az (n+1) a1) (n+1) ((am++[0]).map (Value.int .i64)):=by rw[List.map_append];exact cl
    have dd:(⟨d.start,am++[0],an++[List.replicate af.length (n:Int)]⟩:Dfa)=Cz n c d:=by rw[ap,aq,b6,bv,List.take_of_length_le qO,List.take_of_length_le qO];rfl
    refine A9 (b:=bx) (o:=2) (c':=#[(I6 d.start),(.slice ea n ec),(.slice a0 (n+1) ay)]) (v:=(.slice a0 (n+1) ay)) rfl rfl rfl A' Bx qP rfl ?_;intro w11 a7;replace hL:=hL.chg a7.chg fun b hb _ h=>by have h':b=bx:=h;omega
    replace a5:=Av a5 a7.chg fun b hb h=>by have:=(a5.lt b hb).1;have h':b=bx:=h;omega
    replace Bd:=a7.keep qO Bd;replace Bo:=a7.keep qO Bo;replace E:=a7.step E qQ;replace Bx:=a7.blk;refine qF bx 0 1 rfl underlying48 rfl Ay rfl (A9 (b:=bx) (o:=1) (c':=#[(I6 d.start),(.slice az (n+1) a1),(.slice a0 (n+1) ay)]) (v:=(.slice az (n+1) a1)) rfl rfl rfl Ay Bx qP rfl ?_);intro du a8;replace hL:=hL.chg a8.chg fun b hb _ h=>by have h':b=bx:=h;omega
    replace a5:=Av a5 a8.chg fun b hb h=>by have:=(a5.lt b hb).1;have h':b=bx:=h;omega
    replace Bd:=a8.keep qO Bd;replace Bo:=a8.keep qO Bo;replace E:=a8.step E qQ;replace Bx:=a8.blk;refine AA (AB (Y (qV (Aa (vs:=[(I6 d.start),(.slice az (n+1) a1),(.slice a0 (n+1) ay)]) rfl BB Aw rfl (Bx.cells rfl)) ?_)));obtain ⟨n9,ds⟩:∃n9,n9=(du).heap.size:=⟨_,rfl⟩;have b2:w0.heap.size≤n9∧bo<n9:=⟨by have:=E.size;omega,by have:=Bo.lt;omega⟩;refine qE rfl (AV (vs:=[(.agg #[(I6 d.start),(.slice az (n+1) a1),(.slice a0 (n+1) ay)])]) func126 kQ kQ rfl) (Jk _ (n+1) c (Cz n c d) [.int .i64 d.start,.slice az (n+1) a1,.slice a0 (n+1) ay] (HO ok) (by rw[←dd];exact F9 ⟨az,a1,by simp[ar]⟩ ⟨a0,ay,by simp[bj]⟩ (by simpa[ar] using a5) hL) qO Q3) ?_;rintro _ w99 ⟨⟨C,ca,cc,ma,mc,hC,de,d9,rfl,bk⟩,bs⟩;replace Bd:=bs.keep Bd;replace Bo:=bs.keep Bo;replace Bx:=bs.keep Bx;replace E:=E.ext bs;rw[←ds] at bk;refine A8 (b:=bo) (o:=0) (c':=#[(I6 C.start),(.slice ca C.accept.length cc),(.slice ma C.next.length mc)]) rfl rfl qS Aw rfl Bo qL rfl ?_;intro w13 be;replace bk:=bk.chg be.chg fun b h=>by have h':b=bo:=h;omega
    replace Bd:=be.keep qO Bd;replace Bx:=be.keep qO Bx;replace E:=be.step E qQ;replace Bo:=be.blk;refine AA (AS (C5 results72 (vs:=[(.int .i64 C.start),(.slice ca C.accept.length cc),(.slice ma C.next.length mc)]) (b:=bo) rfl BB Aw rfl (Bo.cells rfl) ?_));exact ⟨⟨C,ca,cc,ma,mc,hC.congr (fun w hw=>Mk ok hw),de,d9,rfl,bk.low b2.1⟩,E⟩
end Go.Proofs
namespace Go.Proofs
open Go Go.Eng
--BEGIN
def VG (c:Nat):Nat->(List Nat->Int)->Int
  | 0,f=>if 0<=f [] then 1 else 0
  | k+1,f=>((List.range c).map λx=>VG c k λw=>f (x::w)).sum
end Go.Proofs
namespace Go.Proofs
open Go Go.Eng Go.Sort
set_option maxRecDepth 100000
def wt (c:Nat) (d:Dfa) (j:Nat) (i:Nat):Int:=VG c j (beh d ((i:Nat):Int))
end Go.Proofs
namespace Go.Proofs
open Go Go.Eng Go.Sort
--BEGIN
section
variable {α : Type}
def DV (stp:α->Nat->Option α):α->List Nat->Option α
  | a,[]=>some a
  | a,x::w=>(stp a x).bind λb=>DV stp b w
theorem Ed (stp:α->Nat->Option α) (x:Nat):∀(w:List Nat) (a:α),DV stp a (w++[x])=(DV stp a w).bind λb=>stp b x
 | [],a=>by simp only[List.nil_append,DV,Option.bind_some];cases stp a x<;>rfl
 | y::w,a=>by
  simp only[List.cons_append,DV];cases h:stp a y with
  | none=>rfl
  | some b=>simp only[Option.bind_some];exact Ed stp x w b
theorem C0.snoc {c x:Nat} {w:List Nat} (h:C0 c w) (d:x<c):C0 c (w++[x]):=λy b=>by
 rcases List.mem_append.1 b with a|a
 .exact h y a
 .rw[List.mem_singleton] at a;rw[a];exact d
theorem C0.init {c x:Nat} {w:List Nat} (h:C0 c (w++[x])):C0 c w∧x<c:=⟨λy a=>h y (List.mem_append_left _ a),h x (List.mem_append_right _ (List.mem_singleton.2 O))⟩
def HJ (c:Nat) (w:List Nat):Nat:=w.foldl (λa x=>a*c+x+1) 0
theorem EN (c:Nat) (w:List Nat) (x:Nat):HJ c (w++[x])=HJ c w*c+x+1:=by unfold HJ;rw[List.foldl_append];rfl
theorem SX {c:Nat}:∀(n:Nat) {u v:List Nat},u.length=n->C0 c u->C0 c v->HJ c u=HJ c v->u=v:=by
 intro n
 induction n with
 | zero=>
  intro u v b d e h;obtain rfl:=List.eq_nil_of_length_eq_zero b;rcases List.eq_nil_or_concat v with rfl|⟨v',y,rfl⟩
  .rfl
  .rw[List.concat_eq_append,EN] at h;have:HJ c []=0:=rfl;omega
 | succ n ih=>
  intro u v b d e h;rcases List.eq_nil_or_concat u with rfl|⟨i,x,rfl⟩
  .simp at b
  rcases List.eq_nil_or_concat v with rfl|⟨v',y,rfl⟩
  .rw[List.concat_eq_append,EN] at h;have:HJ c []=0:=rfl;omega
  rw[List.concat_eq_append] at d b h⊢;rw[List.concat_eq_append] at e h⊢;obtain ⟨f,hx⟩:=d.init;obtain ⟨g,hy⟩:=e.init;rw[EN,EN] at h;have j:HJ c i=HJ c v':=by
   rcases Nat.lt_trichotomy (HJ c i) (HJ c v') with a|a|a
   .have:=Nat.mul_le_mul_right c a;rw[Nat.succ_mul] at this;omega
   .exact a
   .have:=Nat.mul_le_mul_right c a;rw[Nat.succ_mul] at this;omega
  rw[j] at h;rw[ih (by simpa using b) f g j,show x=y by omega]
structure BfsW (c:Nat) (stp:α->Nat->Option α) (a0:α) (work:List α) (ws:List (List Nat)) (ps:List (Nat×Nat)) (i x:Nat):Prop where
 len:ws.length=work.length
 plen:ps.length=work.length
 fst:work[0]?=some a0
 wf:ws[0]?=some []
 nd:work.Nodup
 run:∀(j:Nat) a w,work[j]?=some a->ws[j]?=some w->DV stp a0 w=some a
 inw:∀w∈ws,C0 c w
 mono:∀(j k:Nat) w v,j<=k->ws[j]?=some w->ws[k]?=some v->w.length<=v.length
 near:∀(j:Nat) w v,ws[i]?=some v->ws[j]?=some w->w.length<=v.length+1
 par:∀(k:Nat) w,0<k->ws[k]?=some w->∃j y v,j<k∧ps[k]?=some (j,y)∧ws[j]?=some v∧w=v++[y]
 done:∀(j:Nat) a y b v,(j<i∨(j=i∧y<x))->y<c->work[j]?=some a->ws[j]?=some v->stp a y=some b->∃(k:Nat) (w:List Nat),work[k]?=some b∧ws[k]?=some w∧w.length<=v.length+1∧HJ c w<=HJ c v*c+y+1
 rmono:∀(j k:Nat) w v,j<k->ws[j]?=some w->ws[k]?=some v->HJ c w<HJ c v
 rnear:∀(j:Nat) w v,ws[i]?=some v->ws[j]?=some w->HJ c w<=HJ c v*c+x
variable {c : Nat} {stp : α → Nat → Option α} {a0 : α} {work : List α} {ws : List (List Nat)} {ps : List (Nat × Nat)} {i x : Nat}
theorem Ci {β:Type} {a b:β} {j:Nat} (h:[a][j]?=some b):j=0∧b=a:=by
 have:=AG h;simp at this;subst this;simp at h;exact ⟨O,h.symm⟩
theorem BfsW.start (c:Nat) (stp:α->Nat->Option α) (a0:α) (p:Nat×Nat):BfsW c stp a0 [a0] [[]] [p] 0 0 where
 len:=rfl
 plen:=rfl
 fst:=rfl
 wf:=rfl
 nd:=qP
 run:=λj a w e d=>by obtain ⟨_,rfl⟩:=Ci e;obtain ⟨_,rfl⟩:=Ci d;rfl
 inw:=λw h=>by rw[List.mem_singleton] at h;subst h;exact C0.nil c
 mono:=λj k w v _ e d=>by obtain ⟨_,rfl⟩:=Ci e;simp
 near:=λj w v _ d=>by obtain ⟨_,rfl⟩:=Ci d;simp
 par:=λk w hk h=>by obtain ⟨rfl,_⟩:=Ci h;omega
 done:=λj a y b v h=>qO
 rmono:=λj k w v hjk e d=>by obtain ⟨_,rfl⟩:=Ci e;have:=(Ci d).1;omega
 rnear:=λj w v e d=>by obtain ⟨_,rfl⟩:=Ci d;exact Nat.zero_le _
theorem BfsW.get (h:BfsW c stp a0 work ws ps i x) {k:Nat} {a:α} (b:work[k]?=some a):∃w,ws[k]?=some w:=AK (by rw[h.len];exact AG b)
theorem BfsW.none (h:BfsW c stp a0 work ws ps i x) {a:α} (n:work[i]?=some a) (k:stp a x=none):BfsW c stp a0 work ws ps i (x+1):=by
 refine {h with done:=λj b y b' v hj m d f hs=>?_,rnear:=λj w v l g=>Nat.le_succ_of_le (h.rnear j w v l g)};by_cases e:j<i∨(j=i∧y<x)
 .exact h.done j b y b' v e m d f hs
 .have o:j=i:=qO
  have p:y=x:=qO
  subst o;subst p;rw[n] at d;cases d;rw[k] at hs;cases hs
theorem BfsW.old (h:BfsW c stp a0 work ws ps i x) {a b:α} (r:work[i]?=some a) (hs:stp a x=some b) (n:b∈work):BfsW c stp a0 work ws ps i (x+1):=by
 refine {h with done:=λj a' y b' v hj q d g e=>?_,rnear:=λj w v p o=>Nat.le_succ_of_le (h.rnear j w v p o)};by_cases l:j<i∨(j=i∧y<x)
 .exact h.done j a' y b' v l q d g e
 .have s:j=i:=qO
  have t:y=x:=qO
  subst s;subst t;rw[r] at d;cases d;rw[hs] at e;cases e;obtain ⟨k,m⟩:=List.getElem?_of_mem n;obtain ⟨w,f⟩:=h.get m;exact ⟨k,w,m,f,h.near k w v g f,Nat.le_succ_of_le (h.rnear k w v g f)⟩
theorem BfsW.new (h:BfsW c stp a0 work ws ps i x) {a b:α} {v:List Nat} (E:work[i]?=some a) (g:ws[i]?=some v) (K:x<c) (hs:stp a x=some b) (M:b∉work):BfsW c stp a0 (work++[b]) (ws++[v++[x]]) (ps++[(i,x)]) i (x+1):=by
 have C:∀(j:Nat) w,ws[j]?=some w->w.length<=v.length+1:=λj w s=>h.near j w v g s;have hil:=AG E;refine ⟨by simp[h.len],by simp[h.plen],by rw[List.getElem?_append_left (AG h.fst)];exact h.fst,by rw[List.getElem?_append_left (AG h.wf)];exact h.wf,?_,?_,?_,?_,?_,?_,?_,?_,?_⟩
 .rw[List.nodup_append];refine ⟨h.nd,qP,λp F q I=>?_⟩;rw[List.mem_singleton] at I;subst I;exact λe=>M (e▸F)
 .intro j p w F s;rcases BI F with f|⟨f,n⟩
  .rcases BI s with d|⟨d,_⟩
   .exact h.run j p w f d
   .have:=AG f;have:=h.len;omega
  .rcases BI s with d|⟨d,l⟩
   .have:=AG d;have:=h.len;omega
   .subst n;subst l;rw[Ed,h.run i a v E g];exact hs
 .intro w s;rcases List.mem_append.1 s with f|f
  .exact h.inw w f
  .rw[List.mem_singleton] at f;subst f;exact (h.inw v (List.mem_of_getElem? g)).snoc K
 .intro j k w u t o B;rcases BI B with f|⟨f,n⟩
  .rcases BI o with d|⟨d,_⟩
   .exact h.mono j k w u t d f
   .have:=AG f;omega
  .subst n;rw[List.length_append];rcases BI o with d|⟨d,l⟩
   .exact C j w d
   .subst l;simp
 .intro j w u m o;have z:u=v:=by
   rw[List.getElem?_append_left (AG g),g] at m;exact (Option.some.inj m).symm
  subst z;rcases BI o with d|⟨d,l⟩
  .exact C j w d
  .subst l;simp
 .intro k w B s;rcases BI s with f|⟨f,n⟩
  .obtain ⟨j,y,u,d,l,H,J⟩:=h.par k w B f;exact ⟨j,y,u,d,by rw[List.getElem?_append_left (AG l)];exact l,by rw[List.getElem?_append_left (AG H)];exact H,J⟩
  .refine ⟨i,x,v,?_,?_,by rw[List.getElem?_append_left (AG g)];exact g,n⟩
   .have:=h.len;omega
   .rw[List.getElem?_append_right (by rw[h.plen,f,h.len];exact Nat.le_refl _),f,h.plen,h.len,Nat.sub_self];rfl
 .intro j a' y b' u o N r m A;have D:j<work.length:=qO
  rw[List.getElem?_append_left D] at r;rw[List.getElem?_append_left (by rw[h.len];exact D)] at m;by_cases G:j<i∨(j=i∧y<x)
  .obtain ⟨k,w,f,n,d⟩:=h.done j a' y b' u G N r m A;exact ⟨k,w,by rw[List.getElem?_append_left (AG f)];exact f,by rw[List.getElem?_append_left (AG n)];exact n,d⟩
  .have L:j=i:=qO
   have P:y=x:=qO
   subst L;subst P;rw[E] at r;cases r;rw[hs] at A;cases A;rw[g] at m;cases m;exact ⟨work.length,v++[y],qP,by rw[<-h.len];simp,qP,by rw[EN];exact Nat.le_refl _⟩
 .intro j k w u t o B;rcases BI B with f|⟨f,n⟩
  .rcases BI o with d|⟨d,_⟩
   .exact h.rmono j k w u t d f
   .have:=AG f;omega
  .subst n;rcases BI o with d|⟨d,l⟩
   .have:=h.rnear j w v g d;rw[EN];omega
   .omega
 .intro j w u m o;have z:u=v:=by
   rw[List.getElem?_append_left (AG g),g] at m;exact (Option.some.inj m).symm
  subst z;rcases BI o with d|⟨d,l⟩
  .exact Nat.le_succ_of_le (h.rnear j w u g d)
  .subst l;rw[EN];exact Nat.le_refl _
theorem BfsW.row (h:BfsW c stp a0 work ws ps i c):BfsW c stp a0 work ws ps (i+1) 0:=by
 refine {h with near:=λj w v d g=>?_,done:=λj a y b v p m o d hs=>?_,rnear:=λj w v d g=>?_}
 .obtain ⟨u,e⟩:=AK (l:=ws) (i:=i) (by have:=AG d;omega);have k:=h.near j w u e g;have f:=h.mono i (i+1) u v qO e d;omega
 .refine h.done j a y b v ?_ m o d hs;rcases p with k|k
  .rcases Nat.lt_or_ge j i with f|f
   .exact .inl f
   .exact .inr ⟨qO,m⟩
  .omega
 .obtain ⟨u,e⟩:=AK (l:=ws) (i:=i) (by have:=AG d;omega);have k:=h.rnear j w u e g;have f:=h.rmono i (i+1) u v qO e d;have n:=Nat.mul_le_mul_right c f;rw[Nat.succ_mul] at n;omega
theorem BfsW.rkreach (h:BfsW c stp a0 work ws ps i 0) {o:List Nat} (m:ws[i]?=some o) (u:List Nat) (q:C0 c u) (f:HJ c u<HJ c o):∀a,DV stp a0 u=some a->∃(j:Nat) (v:List Nat),j<i∧work[j]?=some a∧ws[j]?=some v∧HJ c v<=HJ c u:=by
 have d:∀(j:Nat) (v:List Nat),ws[j]?=some v->HJ c v<HJ c o->j<i:=λj v s hv=>by
  rcases Nat.lt_trichotomy j i with g|g|g
  .exact g
  .subst g;rw[m] at s;cases s;omega
  .have:=h.rmono i j o v g m s;omega
 obtain ⟨n,p⟩:∃n,n=u.length:=⟨_,O⟩
 induction n generalizing u with
 | zero=>
  intro a e;have:u=[]:=List.eq_nil_of_length_eq_zero p.symm;subst this;simp only[DV,Option.some.injEq] at e;subst e;exact ⟨0,[],d 0 [] h.wf f,h.fst,h.wf,Nat.le_refl _⟩
 | succ n ih=>
  intro a e;rcases List.eq_nil_or_concat u with rfl|⟨l,y,rfl⟩
  .simp at p
  rw[List.concat_eq_append] at q p e f⊢;rw[Ed] at e;rw[EN] at f⊢;have r:n=l.length:=by simpa using p
  have z:=q.init.2;have hmul:HJ c l<=HJ c l*c:=Nat.le_mul_of_pos_right _ qO;cases hr:DV stp a0 l with
  | none=>rw[hr] at e;cases e
  | some b=>
   rw[hr] at e;simp only[Option.bind_some] at e;obtain ⟨j,v,g,x,C,B⟩:=ih l q.init.1 qO r b hr;obtain ⟨k,w,A,t,_,h7⟩:=h.done j b y a v (.inl g) z x C e;have h8:=Nat.mul_le_mul_right c B;exact ⟨k,w,d k w t qO,A,t,qO⟩
theorem BfsW.reach (h:BfsW c stp a0 work ws ps i 0) (u:List Nat) (g:C0 c u):∀a,DV stp a0 u=some a->(∃(j:Nat) (v:List Nat),work[j]?=some a∧ws[j]?=some v∧v.length<=u.length)∨∃(j:Nat) (v:List Nat),i<=j∧ws[j]?=some v∧v.length<=u.length:=by
 obtain ⟨n,f⟩:∃n,n=u.length:=⟨_,O⟩
 induction n generalizing u with
 | zero=>
  intro a d;have:u=[]:=List.eq_nil_of_length_eq_zero f.symm;subst this;simp only[DV,Option.some.injEq] at d;subst d;exact .inl ⟨0,[],h.fst,h.wf,Nat.le_refl _⟩
 | succ n ih=>
  intro a d;rcases List.eq_nil_or_concat u with rfl|⟨l,y,rfl⟩
  .simp at f
  rw[List.concat_eq_append] at g f d⊢;rw[Ed] at d;have m:n=l.length:=by simpa using f
  cases hr:DV stp a0 l with
  | none=>rw[hr] at d;cases d
  | some b=>
   rw[hr] at d;simp only[Option.bind_some] at d;rcases ih l g.init.1 m b hr with ⟨j,v,o,e,r⟩|⟨j,v,o,e,r⟩
   .rcases Nat.lt_or_ge j i with p|p
    .obtain ⟨k,w,s,q,h7,_⟩:=h.done j b y a v (.inl p) g.init.2 o e d;exact .inl ⟨k,w,s,q,by simp;omega⟩
    .exact .inr ⟨j,v,p,e,by simp;omega⟩
   .exact .inr ⟨j,v,o,e,by simp;omega⟩
theorem BfsW.before (h:BfsW c stp a0 work ws ps i 0) {v:List Nat} (e:ws[i]?=some v) {u:List Nat} (f:C0 c u) (hl:u.length<v.length) {a:α} (g:DV stp a0 u=some a):∃j:Nat,j<i∧work[j]?=some a:=by
 rcases h.reach u f a g with ⟨j,w,b,d,k⟩|⟨j,w,b,d,k⟩
 .refine ⟨j,?_,b⟩;apply Classical.byContradiction;intro hj;have:=h.mono i j v w qO e d;omega
 .have:=h.mono i j v w b e d;omega
theorem BfsW.all (h:BfsW c stp a0 work ws ps i 0) (hi:i=work.length) {u:List Nat} (e:C0 c u) {a:α} (f:DV stp a0 u=some a):∃j:Nat,j<i∧work[j]?=some a:=by
 rcases h.reach u e a f with ⟨j,w,b,d,g⟩|⟨j,w,b,d,g⟩
 .exact ⟨j,by have:=AG b;omega,b⟩
 .have:=AG d;have:=h.len;omega
theorem BfsW.wlen (h:BfsW c stp a0 work ws ps i x):∀(k:Nat) w,ws[k]?=some w->w.length<=k:=by
  intro k
  induction k using Nat.strongRecOn with
  | ind k ih=>
    intro w hw;rcases Nat.eq_zero_or_pos k with rfl|hk
    · rw[h.wf] at hw;cases hw;simp
    · obtain ⟨j,y,v,h1,h2,h3,rfl⟩:=h.par k w hk hw;have:=ih j h1 v h3;simp;omega
end
def GK (d:Dfa) (s:Int) (x:Nat):Option Int:=if 0<=Bu d s x then some (Bu d s x) else none
theorem Gb (d:Dfa):∀(u:List Nat) (s:Int),beh d s u=match DV (GK d) s u with|some t=>Co d t|none=>-1
 | [],s=>rfl
 | x::u,s=>by
  simp only[beh,DV,GK];by_cases h:0<=Bu d s x
  .rw[if_pos h];simp only[Option.bind_some];exact Gb d u _
  .rw[if_neg h];simp only[Option.bind_none];exact C6 qO
structure LeastOf (c:Nat) (f:List Nat->Int) (w:List Nat):Prop where
 inw:C0 c w
 acc:0<=f w
 min:∀u,C0 c u->u.length<w.length->f u<0
 lex:∀u,C0 c u->HJ c u<HJ c w->f u<0
theorem LeastOf.uniq {c:Nat} {f g:List Nat->Int} {u v:List Nat} (h:LeastOf c f u) (k:LeastOf c g v) (e:∀w,C0 c w->f w=g w):u=v:=by
 rcases Nat.lt_trichotomy (HJ c u) (HJ c v) with a|a|a
 .have d:=k.lex u h.inw a;have b:=h.acc;rw[e u h.inw] at b;omega
 .exact SX _ O h.inw k.inw a
 .have d:=h.lex v k.inw a;have b:=k.acc;rw[<-e v k.inw] at b;omega
theorem BfsW.least {c:Nat} {d:Dfa} {work:List Int} {ws:List (List Nat)} {ps:List (Nat×Nat)} {i:Nat} (h:BfsW c (GK d) d.start work ws ps i 0) (a:∀(j:Nat) t,j<i->work[j]?=some t->Co d t<0) {s:Int} {w:List Nat} (hs:work[i]?=some s) (b:ws[i]?=some w) (l:0<=Co d s):LeastOf c (beh d d.start) w:=by
 refine ⟨h.inw w (List.mem_of_getElem? b),?_,λu e g=>?_,λu e g=>?_⟩
 .rw[Gb,h.run i s w hs b];exact l
 .rw[Gb];cases hr:DV (GK d) d.start u with
  | none=>show (-1:Int)<0;decide
  | some t=>
   obtain ⟨j,k,f⟩:=h.before b e g hr;exact a j t k f
 .rw[Gb];cases hr:DV (GK d) d.start u with
  | none=>show (-1:Int)<0;decide
  | some t=>
   obtain ⟨j,v,k,f,_⟩:=h.rkreach b u e g t hr;exact a j t k f
theorem BfsW.never {c:Nat} {d:Dfa} {work:List Int} {ws:List (List Nat)} {ps:List (Nat×Nat)} {i:Nat} (h:BfsW c (GK d) d.start work ws ps i 0) (hi:i=work.length) (a:∀(j:Nat) t,j<i->work[j]?=some t->Co d t<0):∀u,C0 c u->beh d d.start u<0:=λu e=>by
 rw[Gb];cases hr:DV (GK d) d.start u with
 | none=>show (-1:Int)<0;decide
 | some t=>
  obtain ⟨j,b,f⟩:=h.all hi e hr;exact a j t b f
structure ByOf (work:List Int) (ps:List (Nat×Nat)) (es:List (Int×(Int×Int))):Prop where
 keys:es.map (·.1)=work
 first:∃t,es[0]?=some (t,(-1,-1))
 link:∀(k j y:Nat) s,0<k->j<k->ps[k]?=some (j,y)->work[j]?=some s->∃t,es[k]?=some (t,(s,((y:Nat):Int)))
theorem ByOf.len {work:List Int} {ps:List (Nat×Nat)} {es:List (Int×(Int×Int))} (h:ByOf work ps es):es.length=work.length:=by rw[<-h.keys,List.length_map]
theorem ByOf.start (s:Int) (p:Nat×Nat):ByOf [s] [p] [(s,(-1,-1))] where
 keys:=rfl
 first:=⟨s,O⟩
 link:=λk j y t hk _ h=>by obtain ⟨rfl,_⟩:=Ci h;omega
theorem ByOf.put {work:List Int} {ps:List (Nat×Nat)} {es:List (Int×(Int×Int))} (h:ByOf work ps es) (c:ps.length=work.length) {i x:Nat} {s t:Int} (hs:work[i]?=some s) (r:t∉work):D8 es t (s,((x:Nat):Int))=es++[(t,(s,((x:Nat):Int)))]∧ByOf (work++[t]) (ps++[(i,x)]) (es++[(t,(s,((x:Nat):Int)))]):=by
 have e:A3 es t=none:=by
  cases e:A3 es t with
  | none=>rfl
  | some v=>exact absurd (by have:=Cm.1 (show (A3 es t).isSome=true by rw[e];rfl);rwa [h.keys] at this) r
 refine ⟨Dm _ e,⟨by rw[List.map_append,h.keys];rfl,?_,λk j y n q d p a=>?_⟩⟩
 .obtain ⟨m,g⟩:=h.first;exact ⟨m,by rw[List.getElem?_append_left (AG g)];exact g⟩
 .rcases BI p with b|⟨b,f⟩
  .rw[List.getElem?_append_left (by have:=AG b;omega)] at a;obtain ⟨o,l⟩:=h.link k j y n q d b a;exact ⟨o,by rw[List.getElem?_append_left (AG l)];exact l⟩
  .simp only[Prod.mk.injEq] at f;obtain ⟨rfl,rfl⟩:=f;rw[List.getElem?_append_left (AG hs),hs] at a;cases a;exact ⟨t,by rw[b,c,<-h.len];simp⟩
theorem ByOf.get {work:List Int} {ps:List (Nat×Nat)} {es:List (Int×(Int×Int))} (h:ByOf work ps es) (m:work.Nodup) {k:Nat} {t:Int} {q:Int×Int} {t':Int} (c:work[k]?=some t) (f:es[k]?=some (t',q)):A3 es t=some q:=by
 have e:work[k]?=some t':=by rw[<-h.keys,List.getElem?_map,f];rfl
 rw[c] at e;cases e;have l:(A3 es t).isSome=true:=Cm.2 (by rw[h.keys];exact List.mem_of_getElem? c);obtain ⟨v,d⟩:=Option.isSome_iff_exists.1 l;obtain ⟨j,_,a,_⟩:=Ep (eV:=λ_=>undef) (i:=0) d;have n:work[j]?=some t:=by rw[<-h.keys,List.getElem?_map,a];rfl
 have b:j=k:=by
  have g:=List.getElem?_eq_some_iff.1 n;have o:=List.getElem?_eq_some_iff.1 c;obtain ⟨p1,p⟩:=g;obtain ⟨q1,r⟩:=o;exact (List.getElem_inj m).1 (p.trans r.symm)
 rw[b,f] at a;cases a;exact d
--END
end Go.Proofs
namespace Go.Proofs
open Go Go.Eng Go.Sort
set_option maxRecDepth 100000
theorem T' (e:World) (base c:Nat) (a:Option Addr) (l:List Int) (n:Nat) (s:n=l.length) (h:e.ownsRow base CF 1 (.slice a n c) n (l.map (Value.int .i64))) (r:l.length<=1000000000) :
 CB prog 73 #[.slice a n c] e λ_ w=>w.ownsRow base CF 1 (.slice a n c) n (l.reverse.map (Value.int .i64))∧Chg (λx=>(Value.slice a n c).ownBlock=some x) e w:=by
 subst s;rcases h.2 with ⟨h1,q⟩|⟨g,cap,b,m,p,u,k,i,hcs,d⟩
 .have j:l=[]:=by simpa using q
  subst j;exact (SY e a c).mono λv w f=>⟨Am h f,Al.chg f⟩
 .simp only[Value.slice.injEq] at m;obtain ⟨rfl,_,rfl⟩:=m;have o:(l.map (Value.int .i64)++b.toList.drop (l.length*1)).toArray=b:=by rw[<-d,List.take_append_drop]
  refine (T_ e g c CF l (b.toList.drop (l.length*1)) (by rw[o];exact u) r).mono λv w f=>⟨⟨qP,.inr ⟨g,c,_,O,p,f.1,k,i,?_,?_⟩⟩,f.2.mono λy _ t=>by subst t;rfl⟩
  .have:=congrArg Array.size o;simp at this⊢;omega
  .simp[List.take_append_of_le_length]
end Go.Proofs
namespace Go.Eng
open Go
def Om (p:Int×Int):Value:=.agg #[.int .i64 p.1,.int .i64 p.2]
end Go.Eng
namespace Go.Proofs
open Go Go.Eng
set_option maxRecDepth 100000
end Go.Proofs
namespace Go.Eng
open Go
theorem LC {P:Program} {σ:B0} {w:World} {dst:Option Tmp} {ty:TypeId} {pos:String} {af:Array Edge} {g:Option (Nat×Bool)} {t:TypeId} {x:Operand} {f:Nat} {v v':Value} (b:ev σ x=v) (a:(Instr.field t v f).run P w=.ok v' w) :
 (execOp (ev σ) ⟨dst,.field t x f,ty,pos,af,g⟩).run P w=.ok (.value v') w:=by simp[execOp,b,a]
end Go.Eng
namespace Go.Proofs
open Go Go.Eng Go.Sort
set_option maxRecDepth 100000
def Gu (w:List Nat):List Int:=w.map λx=>((x:Nat):Int)
theorem SC {work:List Int} {i:Nat} {s:Int} (hs:work[i]?=some s) (t:Int):(work++[t])[i]?=some s:=by rw[List.getElem?_append_left (AG hs)];exact hs
def Um (n c:Nat) (f:List Nat->Int) (r:Value) (w:World):Prop:=
 (∃l a cc,r=.tuple #[.slice a l.length cc,.bool true,.int .i64 0]∧A2 w (.slice a l.length cc) (Gu l)∧LeastOf c f l∧l.length<n)∨(r=.tuple #[.slice none 0 0,.bool false,.int .i64 0]∧∀u,C0 c u->f u<0)
theorem BfsW.wlen_n {c n i x:Nat} {d:Dfa} {work:List Int} {wd:List (List Nat)} {ps:List (Nat×Nat)} (h:BfsW c (GK d) d.start work wd ps i x) (e:∀t∈work,0<=t∧t<n):work.length<=n:=by
 have hd:(work.map Int.toNat).Nodup:=by
  rw[List.nodup_iff_pairwise_ne,List.pairwise_map];refine List.Pairwise.imp_of_mem (fun {a b} k g f=>?_) (List.nodup_iff_pairwise_ne.1 h.nd);have:=e a k;have:=e b g;intro he;exact f qO
 have:=Do (m:=List.range n) hd λx j=>by
  obtain ⟨s,hs,rfl⟩:=List.mem_map.1 j;have:=e s hs;exact List.mem_range.2 qO
 simpa using this
theorem ByOf.cases {c n i x:Nat} {d:Dfa} {work:List Int} {wd:List (List Nat)} {ps:List (Nat×Nat)} {es:List (Int×(Int×Int))} (h:ByOf work ps es) (m:BfsW c (GK d) d.start work wd ps i x) (r:∀t∈work,0<=t∧t<n) {j:Nat} {s:Int} {v:List Nat} (z:work[j]?=some s) (q:wd[j]?=some v) :
 (((A3 es s).getD (0,0)).1<0∧v=[])∨(0<=((A3 es s).getD (0,0)).1∧∃(e y:Nat) (p:List Nat) (f:Int),e<j∧work[e]?=some f∧wd[e]?=some p∧v=p++[y]∧A3 es s=some (f,((y:Nat):Int))):=by
 rcases Nat.eq_zero_or_pos j with o|o
 .subst o;obtain ⟨A,a⟩:=h.first;rw[h.get m.nd z a];refine .inl ⟨qD,?_⟩;rw[m.wf] at q;exact (Option.some.inj q).symm
 .obtain ⟨e,y,p,k,u,g,O⟩:=m.par j v o q;obtain ⟨f,b⟩:=AK (l:=work) (i:=e) (by rw[<-m.len];exact AG g);obtain ⟨A,a⟩:=h.link j e y f o k u b;have w:=h.get m.nd z a;refine .inr ⟨?_,e,y,p,f,k,b,g,O,w⟩;rw[w];exact (r f (List.mem_of_getElem? b)).1
theorem Px (w0:World) (n c:Nat) (d:Dfa) (dv:List Value) (ok:OkD n c d) (h:BC w0 d dv) (hn:1≤n∧n≤200) (hc:1≤c∧c≤16) :
  CB prog 21 #[.agg dv.toArray] w0 fun r w=>Um n c (beh d d.start) r w∧Al w0 w:=by
 have a2:=h;obtain ⟨aa,ac,na,nc,rfl,a6,a5⟩:=h;have bo:=ok.nl;have bn:=ok.al;have hst:=ok.st;rw[bn,bo] at a2⊢;rw[bn] at a6;rw[bo] at a5;obtain ⟨nb,no,rfl,cn⟩:=BL (n:=n) a5 qO;obtain ⟨ab,ao,rfl,ck⟩:=Ao (n:=n) a6 qO;have a3:∀(s:Nat),s<n→∃row ra rc,d.next[s]?=some row∧row.length=c∧w0.cell? ⟨nb,no+s,none⟩=some (.slice ra c rc)∧A2 w0 (.slice ra c rc) row:=fun s hs=>by
  obtain ⟨row,ap⟩:=AK (l:=d.next) (i:=s) qO;have be:=(ok.row row (List.mem_of_getElem? ap)).1;obtain ⟨ra,rc,h1,h2⟩:=cn s row ap;rw[be] at h1 h2;exact ⟨row,ra,rc,ap,be,h1,h2⟩
 refine qR func21 rfl ntmps21 rfl (fun E=>(Y (BP (v:=(.agg #[(I6 d.start),(.slice (some ⟨ab,ao,none⟩) n ac),(.slice (some ⟨nb,no,none⟩) n nc)])) (c:=#[(I6 d.start),(.slice (some ⟨ab,ao,none⟩) n ac),(.slice (some ⟨nb,no,none⟩) n nc)]) qD rfl rfl ?_)));intro bq wq Nq;have Fq:=Nq.ge E;replace E:=E.ext Nq.ext;have Bq:=Nq.blk;refine qA (.slice none 0 0) rfl (qA (.bool false) rfl (qA (I6 0) rfl (AA (AI (Y (qV (Aa (vs:=[(I6 d.start),(.slice (some ⟨ab,ao,none⟩) n ac),(.slice (some ⟨nb,no,none⟩) n nc)]) rfl BB Aw rfl (Bq.cells rfl)) (qE rfl (AV (vs:=[(.agg #[(I6 d.start),(.slice (some ⟨ab,ao,none⟩) n ac),(.slice (some ⟨nb,no,none⟩) n nc)])]) func24 kQ kQ rfl) (Cw _ d _ (a2.ext E)) ?_)))))));rintro _ w9 ⟨rfl,X9⟩;replace Bq:=X9.keep Bq;replace E:=E.ext X9;refine qA (I6 (Af d)) rfl (AA (Y (qM (I6 (Af d)) rfl (qV (CE (k:=.i64) (a:=Af d) (b:=0) rfl rfl) (AA ?_)))));have cd:(decide ((Af d:Int)≠0))=false:=decide_eq_false (by rw[ED ok hn hc];decide);refine AW (BH cd) (AM (AB (Y (EB Cd Om qD ?_))));intro bm wm Nm;have Fm:=Nm.ge E;have Om_bq:=Nm.lt Bq;replace Bq:=Nm.keep Bq;replace E:=E.ext Nm.ext;intro Mm;refine qF bq 0 0 rfl underlying48 rfl Ad rfl (qV (AE (v:=(I6 d.start)) rfl Ai (Bq.cell rfl)) (qV (B' (ps:=[(0,(I6 (-1))),(1,(I6 (-1)))]) (v:=(.agg #[(I6 (-1)),(I6 (-1))])) rfl qK) (HH (k:=d.start) (v:=((-1),(-1))) underlying112 (Dz underlying3) Mm rfl rfl rfl ?_)));intro w2 S2 H2;replace Bq:=S2.keep qO Bq;replace E:=S2.step E qQ;replace Mm:=H2;refine qM (.map (some bm)) rfl (qA (.map (some bm)) rfl (AA (Y (qF bq 0 0 rfl underlying48 rfl Ad rfl (qV (AE (v:=(I6 d.start)) rfl Ai (Bq.cell rfl)) (Ah (ps:=[(0,(I6 d.start))]) (c:=#[(I6 d.start)]) qD rfl underlying22 Ad BY qD qD qK ?_))))));intro bs ws Ns;have Fs:=Ns.ge E;have Os_bq:=Ns.lt Bq;have Os_bm:=Ns.ltM Mm;replace Bq:=Ns.keep Bq;replace Mm:=Ns.keepM Mm;replace E:=E.ext Ns.ext;have Bs:=Ns.blk;refine qA (.slice (some ⟨bs,0,none⟩) 1 1) rfl (AA (AI (Y (qA (I6 0) rfl (AA (AO ?_))))));obtain ⟨n1,cf⟩:∃n1,n1=bs:=⟨_,rfl⟩;have ce:bs<ws.heap.size:=Bs.lt;have bv:=FL (base:=n1) Bs qO;refine Ap (fun nn_ σ W3=>∃(i:Nat) (ae:List Int) (wd:List (List Nat)) (ps:List (Nat×Nat)) (es:List (Int×(Int×Int))) (sa:Option Addr) (aj sn:Nat),(∃jj_,σ=BK jj_ [(1,(P6 bq 0)),(6,(.map (some bm))),(8,(I6 (i:Int))),(7,(.slice sa sn aj))])∧Chg Ab w0 W3∧Az W3 bq #[(I6 d.start),(.slice (some ⟨ab,ao,none⟩) n ac),(.slice (some ⟨nb,no,none⟩) n nc)] 48∧BZ W3 bm Cd Om es∧(BfsW c (GK d) d.start ae wd ps i 0)∧(ByOf ae ps es)∧(∀(j:Nat) t,j<i→ae[j]?=some t→Co d t<0)∧(∀t∈ae,0≤t∧t<n)∧(sn=ae.length)∧(i≤sn)∧(W3.ownsRow n1 CF 1 (.slice sa sn aj) sn (ae.map (Value.int .i64)))∧(n1≤W3.heap.size)∧nn_=n - i) (n:=n - 0) ?_ ?_
 ·exact ⟨0,[d.start],[[]],[(0,0)],[(d.start,(-1,-1))],some ⟨bs,0,none⟩,1,1,Ac.out ⟨rfl,rfl,rfl,rfl,trivial⟩,E,Bq,Mm,BfsW.start _ _ _ _,ByOf.start _ _,(fun j t h=>qO),(fun t h=>by rw[List.mem_singleton] at h;omega),rfl,qO,bv,qO,rfl⟩
 ·clear E Bq Mm;rintro _ _ W3 ⟨i,ae,wd,ps,es,sa,aj,sn,⟨j3,rfl⟩,E,Bq,Mm,hB,ar,ax,an,ay,hin,hS,ak,rfl⟩;refine AI (Y (qM (I6 (i:Int)) rfl (qM (.slice sa sn aj) rfl (qV (AL (ad:=sa) (n:=sn) (cap:=aj) underlying22 rfl) (qV (A0 (k:=.i64) (a:=(i:Int)) (b:=(sn:Int)) rfl rfl) (AA (qC rfl (fun b1=>?_) (fun b1=>?_))))))))
  ·obtain ⟨s,ai⟩:=AK (l:=ae) (i:=i) qO;obtain ⟨v,au⟩:=hB.get ai;obtain ⟨cc,b9⟩:=an s (List.mem_of_getElem? ai);obtain ⟨sN,bk⟩:=Int.eq_ofNat_of_zero_le cc;obtain ⟨row,ra,rc,ap,be,az,bx⟩:=a3 sN qO;have hwl:=hB.wlen_n an;obtain ⟨sb,rfl,ci,cb⟩:=BS hS qO;have br:=Ew ok (show sN<n by omega);obtain ⟨yv,b0⟩:∃y,y=Co d s:=⟨_,rfl⟩;rw[←bk,←b0] at br;refine AM (AB (AI (AO (Y (qM (.slice (some ⟨sb,0,none⟩) sn aj) rfl (qM (I6 (i:Int)) rfl (qV (AC (b:=sb) (o:=0) (len:=sn) (cap:=aj) (i:=i) (o':=0+i) rfl rfl rfl underlying22 Ad qO qO) (qV (AE (v:=(I6 s)) rfl Ai (cb i _ (by rw[List.getElem?_map,ai];rfl))) ?_))))))));refine qA (I6 s) rfl (AA (AI (Y (qF bq 0 1 rfl underlying48 rfl Ay rfl (qV (AE (v:=(.slice (some ⟨ab,ao,none⟩) n ac)) rfl Ax (Bq.cell rfl)) (qM (I6 s) rfl (qV (AC (b:=ab) (o:=ao) (len:=n) (cap:=ac) (i:=sN) (o':=ao+sN) rfl rfl qO underlying22 Ad qO qO) (qV (AE (v:=(I6 yv)) rfl Ai (E.cell (fun f=>f) (ck sN _ br))) (qV (CT (k:=.i64) (a:=yv) (b:=0) rfl rfl) (AA (qC rfl (fun bg=>?_) (fun bg=>?_))))))))))))
   ·have hL:=hB.least ax ai au qO;have bj:=hB.wlen i v au;obtain ⟨n2,bu⟩:∃n2,n2=(W3).heap.size:=⟨_,rfl⟩;have hq2:bq<n2∧bm<n2:=⟨by rw[bu];exact Bq.lt,by rw[bu];exact Mm.lt⟩;refine Y (qA (.slice none 0 0) rfl (AA (AI (AO (Ap (fun nn_ σ W6=>∃(j:Nat) (s1:Int) (v1 u:List Nat) (oa:Option Addr) (oc on:Nat),(∃jj_,σ=BK jj_ [(6,(.map (some bm))),(9,(I6 s1)),(10,(.slice oa on oc))])∧Chg Ab w0 W6∧Az W6 bq #[(I6 d.start),(.slice (some ⟨ab,ao,none⟩) n ac),(.slice (some ⟨nb,no,none⟩) n nc)] 48∧BZ W6 bm Cd Om es∧(ae[j]?=some s1)∧(wd[j]?=some v1)∧(v=v1++u)∧(on=u.length)∧(W6.ownsRow n2 CF 1 (.slice oa on oc) on ((Gu u.reverse).map (Value.int .i64)))∧(n2≤W6.heap.size)∧nn_=j+1) (n:=i+1) ?_ ?_)))))
    ·exact ⟨i,s,v,[],none,0,0,Ac.out ⟨rfl,rfl,rfl,trivial⟩,E,Bq,Mm,ai,au,qP,rfl,World.ownsRow_nil _ _ _ _,qO,rfl⟩
    ·clear E Bq Mm;rintro _ _ W6 ⟨j,s1,v1,u,oa,oc,on,⟨j6,rfl⟩,E,Bq,Mm,hj,bt,bb,a9,hO,av,rfl⟩;refine AI (Y (qM (.map (some bm)) rfl (qM (I6 s1) rfl (BV (v:=(.agg #[(I6 (((A3 es s1).getD (0,0)).1)),(I6 (((A3 es s1).getD (0,0)).2))])) rfl rfl qD (Ek (k:=s1) (z:=(0,0)) underlying112 (Dz underlying3) Io Mm rfl rfl) (qV (LC (v:=(.agg #[(I6 (((A3 es s1).getD (0,0)).1)),(I6 (((A3 es s1).getD (0,0)).2))])) (v':=(I6 (((A3 es s1).getD (0,0)).1))) rfl qK) (qV (CT (k:=.i64) (a:=((A3 es s1).getD (0,0)).1) (b:=0) rfl rfl) (AA (qC rfl (fun bp=>?_) (fun bp=>?_)))))))))
     ·obtain ⟨_,j2,y,v2,s2,hj2,b5,cj,rfl,bf⟩:=(ar.cases hB an hj bt).resolve_left fun h9=>by have:=h9.1;omega
      have hul:u.length≤i:=by rw[bb] at bj;simp at bj;omega
      rw[bf] at bp;refine AM (AB (AO (Y (qM (.slice oa on oc) rfl (qM (.map (some bm)) rfl (qM (I6 s1) rfl (BV (v:=(.agg #[(I6 (((A3 es s1).getD (0,0)).1)),(I6 (((A3 es s1).getD (0,0)).2))])) rfl rfl qD (Ek (k:=s1) (z:=(0,0)) underlying112 (Dz underlying3) Io Mm rfl rfl) (qV (LC (v:=(.agg #[(I6 (((A3 es s1).getD (0,0)).1)),(I6 (((A3 es s1).getD (0,0)).2))])) (v':=(I6 (((A3 es s1).getD (0,0)).2))) rfl qK) (Ah (ps:=[(0,(I6 (((A3 es s1).getD (0,0)).2)))]) (c:=#[(I6 (((A3 es s1).getD (0,0)).2))]) qD rfl underlying22 Ad BY qD qD qK ?_)))))))));intro b8 w8 N8;have F8:=N8.ge E;have O8_bq:=N8.lt Bq;have O8_bm:=N8.ltM Mm;replace Bq:=N8.keep Bq;replace Mm:=N8.keepM Mm;replace hO:=Am hO N8.ext;replace av:=Nat.le_trans av N8.ext.size;replace E:=E.ext N8.ext;have B8:=N8.blk;refine BU (base:=n2) (n:=on) (m:=1) (xs:=((Gu u.reverse).map (Value.int .i64))) (news:=[(I6 (((A3 es s1).getD (0,0)).2))]) (size:=1) (bytes:=8) (v:=(.slice oa on oc)) qD underlying22 Ad Dj BY rfl qD rfl hO rfl (rfl) (B8.cells rfl) qS (by unfold maxLen;omega) qO (av) ?_;intro v7 cl a8 aw b3;replace Bq:=aw.keep (fun h=>by have:=(hO.lt _ h).1;omega) Bq;replace Mm:=aw.keepM (fun h=>by have:=(hO.lt _ h).1;omega) Mm;replace E:=E.step aw (fun x hx h=>absurd (hO.lt x h).1 qO);obtain ⟨a4,a7,rfl⟩:=BD a8;refine qA (.slice a4 (on+1) a7) rfl (AA (AJ (qM (.map (some bm)) rfl (qM (I6 s1) rfl (BV (v:=(.agg #[(I6 (((A3 es s1).getD (0,0)).1)),(I6 (((A3 es s1).getD (0,0)).2))])) rfl rfl qD (Ek (k:=s1) (z:=(0,0)) underlying112 (Dz underlying3) Io Mm rfl rfl) (qV (LC (v:=(.agg #[(I6 (((A3 es s1).getD (0,0)).1)),(I6 (((A3 es s1).getD (0,0)).2))])) (v':=(I6 (((A3 es s1).getD (0,0)).1))) rfl qK) (qA (I6 (((A3 es s1).getD (0,0)).1)) rfl (AA (AN (AB ?_))))))))));rw[bf];exact ⟨j2+1,qO,j2,s2,v2,y::u,a4,a7,(on+1),Ac.out ⟨rfl,rfl,rfl,trivial⟩,E,Bq,Mm,b5,cj,(by rw[bb];simp),(by simp[a9]),(by simpa[Gu,bf] using a8),Nat.le_trans av aw.size,rfl⟩
     ·obtain ⟨_,rfl⟩:=(ar.cases hB an hj bt).resolve_right fun h9=>by have:=h9.1;omega
      rw[List.nil_append] at bb;subst bb;refine Ak (AP (AP (Ae (AB (Y (qM (.slice oa on oc) rfl (qE rfl (AV (vs:=[(.slice oa on oc)]) func73 kQ kQ rfl) (T' _ n2 oc oa (Gu v.reverse) on (by simp[a9,Gu]) hO (by simp[Gu];omega)) ?_)))))));rintro _ w69 ⟨co,bh⟩;replace Bq:=bh.keep (fun h=>by have:=(hO.lt _ h).1;omega) Bq;replace Mm:=bh.keepM (fun h=>by have:=(hO.lt _ h).1;omega) Mm;replace E:=E.step bh (fun x hx h=>absurd (hO.lt x h).1 qO);refine AA (Y (qM (.slice oa on oc) rfl (qA (.slice oa on oc) rfl (qA (.bool true) rfl (qA (I6 0) rfl (AA (AS (AU (A1 (AU (AU (A1 (AU (Ja results21 (v:=(.slice oa on oc)) (v':=(.bool true)) (v'':=(.int .i64 0)) rfl rfl rfl ?_))))))))))))));exact ⟨.inl ⟨v,oa,oc,by rw[a9],by rw[←a9];exact DR (n:=on) (by simpa[Gu,List.map_reverse] using co) (by simp[a9,Gu]),hL,qO⟩,E⟩
   ·refine AM (AB (Y (qF bq 0 2 rfl underlying48 rfl A' rfl (qV (AE (v:=(.slice (some ⟨nb,no,none⟩) n nc)) rfl A4 (Bq.cell rfl)) (qM (I6 s) rfl (qV (AC (b:=nb) (o:=no) (len:=n) (cap:=nc) (i:=sN) (o':=no+sN) rfl rfl qO underlying46 Ay qO qO) (qV (AE (v:=(.slice ra c rc)) rfl Ax (E.cell (fun f=>f) az)) (qV (AL (ad:=ra) (n:=c) (cap:=rc) underlying22 rfl) (qM (I6 0) rfl (AA (AO (Ap (fun nn_ σ W9=>∃(x:Nat) (ae:List Int) (wd:List (List Nat)) (ps:List (Nat×Nat)) (es:List (Int×(Int×Int))) (sa:Option Addr) (aj sn:Nat),(∃jj_,σ=BK jj_ [(1,(P6 bq 0)),(6,(.map (some bm))),(8,(I6 (i:Int))),(9,(I6 s)),(67,(.slice ra c rc)),(68,(I6 (c:Int))),(69,(I6 (x:Int))),(7,(.slice sa sn aj))])∧Chg Ab w0 W9∧Az W9 bq #[(I6 d.start),(.slice (some ⟨ab,ao,none⟩) n ac),(.slice (some ⟨nb,no,none⟩) n nc)] 48∧BZ W9 bm Cd Om es∧(x≤c)∧(BfsW c (GK d) d.start ae wd ps i x)∧(ByOf ae ps es)∧(∀(j:Nat) t,j<i+1→ae[j]?=some t→Co d t<0)∧(∀t∈ae,0≤t∧t<n)∧(ae[i]?=some s)∧(wd[i]?=some v)∧(sn=ae.length)∧(W9.ownsRow n1 CF 1 (.slice sa sn aj) sn (ae.map (Value.int .i64)))∧(n1≤W9.heap.size)∧nn_=c - x) (n:=c - 0) ?_ ?_))))))))))))
    ·exact ⟨0,ae,wd,ps,es,some ⟨sb,0,none⟩,aj,sn,Ac.out ⟨rfl,rfl,rfl,rfl,rfl,rfl,rfl,rfl,trivial⟩,E,Bq,Mm,Nat.zero_le _,hB,ar,(fun j t hj ht=>by rcases Nat.lt_or_ge j i with h1|h1;exact ax j t h1 ht;(have h2:j=i:=qO);rw[h2,ai] at ht;cases ht;omega),an,ai,au,ay,hS,ak,rfl⟩
    ·clear E Bq Mm;rintro _ _ W9 ⟨x,ae,wd,ps,es,sa,aj,sn,⟨j9,rfl⟩,E,Bq,Mm,hx,hB,ar,ax,an,ai,au,ay,hS,ak,rfl⟩;refine Y (qV (A0 (k:=.i64) (a:=(x:Int)) (b:=(c:Int)) rfl rfl) (AA (AI (qC rfl (fun bd=>?_) (fun bd=>?_)))))
     ·obtain ⟨t,ht⟩:=AK (l:=row) (i:=x) qO;obtain ⟨rb,ro,rfl,b4⟩:=Ao (n:=c) bx qO;obtain ⟨ba,_,_,hxl,hxh⟩:=FT ok ap ht;rw[←bk] at ba;refine AM (AB (AI (AO (Y (qM (I6 (x:Int)) rfl (qV (AC (b:=rb) (o:=ro) (len:=c) (cap:=rc) (i:=x) (o':=ro+x) rfl rfl rfl underlying22 Ad qO qO) (qV (AE (v:=(I6 t)) rfl Ai (E.cell (fun f=>f) (b4 x t ht))) (qA (I6 (x:Int)) rfl (qA (I6 t) rfl (AA (Y (qM (.map (some bm)) rfl (qM (I6 t) rfl (BV (v:=(.tuple #[(.agg #[(I6 (((A3 es t).getD (0,0)).1)),(I6 (((A3 es t).getD (0,0)).2))]),(.bool ((A3 es t).isSome))])) rfl rfl qD (FK (k:=t) (z:=(0,0)) underlying112 (Dz underlying3) Io Mm rfl rfl) (qM (.tuple #[(.agg #[(I6 (((A3 es t).getD (0,0)).1)),(I6 (((A3 es t).getD (0,0)).2))]),(.bool ((A3 es t).isSome))]) rfl (qV (Aj (vs:=#[(.agg #[(I6 (((A3 es t).getD (0,0)).1)),(I6 (((A3 es t).getD (0,0)).2))]),(.bool ((A3 es t).isSome))]) (v:=(.agg #[(I6 (((A3 es t).getD (0,0)).1)),(I6 (((A3 es t).getD (0,0)).2))])) rfl rfl) (qV (Aj (vs:=#[(.agg #[(I6 (((A3 es t).getD (0,0)).1)),(I6 (((A3 es t).getD (0,0)).2))]),(.bool ((A3 es t).isSome))]) (v:=(.bool ((A3 es t).isSome))) rfl rfl) (A6 (v:=(.agg #[(I6 (((A3 es t).getD (0,0)).1)),(I6 (((A3 es t).getD (0,0)).2))])) (c:=#[(I6 (((A3 es t).getD (0,0)).1)),(I6 (((A3 es t).getD (0,0)).2))]) (n:=2) qD Io rfl T6 rfl rfl rfl qS ?_))))))))))))))))));intro bz wz Nz;have Fz:=Nz.ge E;have Oz_bq:=Nz.lt Bq;have Oz_bm:=Nz.ltM Mm;replace Bq:=Nz.keep Bq;replace Mm:=Nz.keepM Mm;replace hS:=Am hS Nz.ext;replace ak:=Nat.le_trans ak Nz.ext.size;replace E:=E.ext Nz.ext;have Bz:=Nz.blk;refine qA (.bool ((A3 es t).isSome)) rfl (AA (Y (qM (I6 t) rfl (qV (CT (k:=.i64) (a:=t) (b:=0) rfl rfl) (qM (.bool (decide ((0:Int)≤t))) rfl ?_)))));rcases Bool.eq_false_or_eq_true (decide ((0:Int)≤t)) with ag|ag
      ·have af:=ag;replace af:=of_decide_eq_true af;refine AD (oj:=_) rfl rfl qD (BH ag) (qM (.bool ((A3 es t).isSome)) rfl (AD (oj:=_) rfl rfl qD (BH ag) (qV (CM (b:=(A3 es t).isSome) rfl) (qV (Ag (b:=decide ((0:Int)≤t)) (v:=(.bool (!((A3 es t).isSome)))) rfl (by rw[ag];rfl)) (AA (As (b:=!((A3 es t).isSome)) rfl (fun ah=>?_) (fun ah=>?_)))))))
       ·have a1:=ah;replace ah:=by simpa using ah
        have bi:t∉ae:=fun h9=>by rw[←ar.keys] at h9;have h8:=Cm.2 h9;rw[ah] at h8;cases h8
        have aq:GK d s x=some t:=by unfold GK;rw[ba,if_pos af]
        have b6:=hB.new ai au (show x<c by omega) aq bi;obtain ⟨bw,bc⟩:=ar.put hB.plen ai (x:=x) bi;have ca:=hB.wlen_n an;refine Y (qM (.map (some bm)) rfl (qM (I6 t) rfl (qM (I6 s) rfl (qM (I6 (x:Int)) rfl (qV (B' (ps:=[(0,(I6 s)),(1,(I6 (x:Int)))]) (v:=(.agg #[(I6 s),(I6 (x:Int))])) rfl qK) (Dk (k:=t) (v:=(s,(x:Int))) underlying112 (Dz underlying3) Mm rfl rfl rfl ?_))))));intro w13 a0 b7;replace hS:=Av hS a0.chg fun b hb h=>by have:=(hS.lt b hb).1;have h':b=bm:=h;omega
        replace ak:=Nat.le_trans ak a0.chg.size;replace Bq:=a0.keep qO Bq;replace Bz:=a0.keep qO Bz;replace E:=a0.step E qQ;replace Mm:=b7;refine AA (AJ (qM (.slice sa sn aj) rfl (qM (I6 t) rfl (Ah (ps:=[(0,(I6 t))]) (c:=#[(I6 t)]) qD rfl underlying22 Ad BY qD qD qK ?_))));intro b14 w14 am;have F14:=am.ge E;have O14_bq:=am.lt Bq;have O14_bm:=am.ltM Mm;have O14_bz:=am.lt Bz;replace Bq:=am.keep Bq;replace Mm:=am.keepM Mm;replace Bz:=am.keep Bz;replace hS:=Am hS am.ext;replace ak:=Nat.le_trans ak am.ext.size;replace E:=E.ext am.ext;have b2:=am.blk;refine BU (base:=n1) (n:=sn) (m:=1) (xs:=(ae.map (Value.int .i64))) (news:=[(I6 t)]) (size:=1) (bytes:=8) (v:=(.slice sa sn aj)) qD underlying22 Ad Dj BY rfl qD rfl hS rfl (rfl) (b2.cells rfl) qS (by unfold maxLen;omega) qO (ak) ?_;intro v7 cl a8 aw b3;replace Bq:=aw.keep (fun h=>by have:=(hS.lt _ h).1;omega) Bq;replace Mm:=aw.keepM (fun h=>by have:=(hS.lt _ h).1;omega) Mm;replace E:=E.step aw (fun x hx h=>absurd (hS.lt x h).1 qO);obtain ⟨a4,a7,rfl⟩:=BD a8;rw[bw] at Mm;refine qA (.slice a4 (sn+1) a7) rfl (AA (AN (AB (AJ (qV (Ar (k:=.i64) (a:=(x:Int)) (b:=1) (c:=(x:Int)+1) rfl rfl (A5 qO)) (qM (I6 ((x:Int)+1)) rfl (AA (AB ?_))))))));exact ⟨c - (x+1),qO,x+1,ae++[t],wd++[v++[x]],ps++[(i,x)],es++[(t,(s,((x:Nat):Int)))],a4,a7,(sn+1),Ac.out ⟨rfl,rfl,rfl,rfl,rfl,rfl,rfl,rfl,trivial⟩,E,Bq,Mm,qO,b6,bc,(fun j t9 hj ch=>ax j t9 hj (by rwa [List.getElem?_append_left (by have:=AG ai;omega)] at ch)),(fun t9 h9=>by rcases List.mem_append.1 h9 with h8|h8;exact an t9 h8;rw[List.mem_singleton] at h8;omega),SC ai t,(by rw[List.getElem?_append_left (AG au)];exact au),(by simp[ay]),(by rw[List.map_append];exact a8),Nat.le_trans ak aw.size,rfl⟩
       ·have a1:=ah;replace ah:=by simpa using ah
        have cg:t∈ae:=by have h9:(A3 es t).isSome=true:=(by simpa using ah);rw[←ar.keys];exact Cm.1 h9
        have aq:GK d s x=some t:=by unfold GK;rw[ba,if_pos af]
        refine AM (AN (AB (AJ (qV (Ar (k:=.i64) (a:=(x:Int)) (b:=1) (c:=(x:Int)+1) rfl rfl (A5 qO)) (qM (I6 ((x:Int)+1)) rfl (AA (AB ?_)))))));exact ⟨c - (x+1),qO,x+1,ae,wd,ps,es,sa,aj,sn,Ac.out ⟨rfl,rfl,rfl,rfl,rfl,rfl,rfl,rfl,trivial⟩,E,Bq,Mm,qO,hB.old ai aq cg,ar,ax,an,ai,au,ay,hS,ak,rfl⟩
      ·have af:=ag;replace af:=of_decide_eq_false af;have aq:GK d s x=none:=by unfold GK;rw[ba,if_neg af]
       refine AF (oj:=_) rfl rfl qD (v:=.bool false) (BH ag) (Or.inl rfl) (AF (oj:=_) rfl rfl qD (v:=.bool false) (BH ag) (Or.inl rfl) (qV (Ag (b:=decide ((0:Int)≤t)) (v:=(.bool false)) rfl (by rw[ag];rfl)) (AA (AW rfl (AM (AN (AB (AJ (qV (Ar (k:=.i64) (a:=(x:Int)) (b:=1) (c:=(x:Int)+1) rfl rfl (A5 qO)) (qM (I6 ((x:Int)+1)) rfl (AA (AB ?_))))))))))));exact ⟨c - (x+1),qO,x+1,ae,wd,ps,es,sa,aj,sn,Ac.out ⟨rfl,rfl,rfl,rfl,rfl,rfl,rfl,rfl,trivial⟩,E,Bq,Mm,qO,hB.none ai aq,ar,ax,an,ai,au,ay,hS,ak,rfl⟩
     ·have cm:x=c:=qO
      rw[cm] at hB;have hil:=AG ai;refine Ak (AP (AP (Ae (AN (AB (AJ (qM (I6 (i:Int)) rfl (qV (Ar (k:=.i64) (a:=(i:Int)) (b:=1) (c:=(i:Int)+1) rfl rfl (A5 qO)) (qA (I6 ((i:Int)+1)) rfl (AA (AB ?_)))))))))));exact ⟨n - (i+1),qO,i+1,ae,wd,ps,es,sa,aj,sn,Ac.out ⟨rfl,rfl,rfl,rfl,trivial⟩,E,Bq,Mm,hB.row,ar,ax,an,ay,qO,hS,ak,rfl⟩
  ·refine Ak (AP (AP (Ae (AB (Y (qA (.slice none 0 0) rfl (qA (.bool false) rfl (qA (I6 0) rfl (AA (AS (Ja results21 (v:=(.slice none 0 0)) (v':=(.bool false)) (v'':=(.int .i64 0)) rfl rfl rfl ?_)))))))))));exact ⟨.inr ⟨rfl,hB.never qO ax⟩,E⟩
end Go.Proofs
namespace Go.Eng
open Go
def CS (S:Nat->Prop) (w:World) (k:Nat) (v:Value) (rows:List (List Value)):Prop:=
 ∃a cap,v=.slice a rows.length cap∧rows.length<=9223372036854775807∧rows.length<=cap∧(rows=[]∨∃b o,S b∧a=some ⟨b,o,none⟩∧∀i r,rows[i]?=some r->BA w b (o+i*k) r)
theorem CS.at {S:Nat->Prop} {w:World} {k:Nat} {v:Value} {rows:List (List Value)} (h:CS S w k v rows):BO w k v rows:=by
 obtain ⟨a,cap,c,g,i,f⟩:=h;refine ⟨a,cap,c,g,i,?_⟩;rcases f with h|⟨b,o,_,e,d⟩
 .exact .inl h
 .exact .inr ⟨b,o,e,d⟩
theorem CS.chg {S M:Nat->Prop} {w w':World} {k:Nat} {v:Value} {rows:List (List Value)} (h:CS S w k v rows) (c:Chg M w w') (p:∀b,S b->¬M b):CS S w' k v rows:=by
 obtain ⟨a,cap,l,g,j,n⟩:=h;refine ⟨a,cap,l,g,j,?_⟩;rcases n with h|⟨b,o,d,m,e⟩
 .exact .inl h
 .exact .inr ⟨b,o,d,m,λi r f=>(e i r f).chg c (p b d)⟩
theorem CS.mono {S S':Nat->Prop} {w:World} {k:Nat} {v:Value} {rows:List (List Value)} (h:CS S w k v rows) (hs:∀b,S b->S' b):CS S' w k v rows:=by
 obtain ⟨a,cap,e,d,i,g⟩:=h;refine ⟨a,cap,e,d,i,?_⟩;rcases g with h|⟨b,o,c,f⟩
 .exact .inl h
 .exact .inr ⟨b,o,hs b c,f⟩
theorem CS.nil (S:Nat->Prop) (w:World) (k:Nat) (a:Option Addr) (cap:Nat):CS S w k (.slice a 0 cap) []:=⟨a,cap,O,qP,qP,.inl O⟩
theorem CS.mk {S:Nat->Prop} {w:World} {k:Nat} {b o n c:Nat} {rows:List (List Value)} (h:BO w k (.slice (some ⟨b,o,none⟩) n c) rows) (hs:S b):CS S w k (.slice (some ⟨b,o,none⟩) n c) rows:=by
 obtain ⟨a,cap,e,g,j,i⟩:=h;refine ⟨a,cap,e,g,j,?_⟩;rcases i with h|⟨b',o',d,f⟩
 .exact .inl h
 .simp only[Value.slice.injEq] at e;have:b'=b:=by rw[<-e.1] at d;simp at d;exact d.1.symm
  exact .inr ⟨b',o',this▸hs,d,f⟩
mutual
def OG (S:Nat->Prop) (w:World):Re->List Value->Prop
  | .mk k set args mn mx ng,vs=>∃sa sc aa ac,vs=[.int .i64 k,.slice sa set.length sc,.slice aa args.length ac,.int .i64 mn,.int .i64 mx,.bool ng]∧CS S w 2 (.slice sa set.length sc) (set.map CD)∧(args.length<=ac∧ac<=9223372036854775807)∧
      (args=[]∨∃b o,S b∧aa=some ⟨b,o,none⟩∧R5 S w b o args)
def R5 (S:Nat->Prop) (w:World) (b:Nat):Nat->List Re->Prop
  | _,[]=>True
  | o,t::ts=>(∃vs,BA w b o vs∧OG S w t vs)∧R5 S w b (o+6) ts
end
theorem OG.of {S:Nat->Prop} {w:World} {k:Int} {set:List (Int×Int)} {args:List Re} {mn mx:Int} {f:Bool} {d c:Option Addr} {e a:Nat} (hs:CS S w 2 (.slice d set.length e) (set.map CD)) (g:(args.length<=a∧a<=9223372036854775807)) (h:args=[]∨∃b o,S b∧c=some ⟨b,o,none⟩∧R5 S w b o args) :
 OG S w (.mk k set args mn mx f) [.int .i64 k,.slice d set.length e,.slice c args.length a,.int .i64 mn,.int .i64 mx,.bool f]:=by
 simp only[OG];exact ⟨d,e,c,a,O,hs,g,h⟩
end Go.Eng
namespace Go.Proofs
open Go Go.Eng Go.Sort
set_option maxRecDepth 100000
def Jd:Dfa:=⟨0,[0,-1],[[1],[0]]⟩
theorem RT:OkD 2 1 Jd:=⟨O,O,qD,qD,qD⟩
def VS (n c:Nat) (f:List Nat->Int) (l:List Nat) (s:Bool):Prop:=(s=true->LeastOf c f l∧l.length<n)∧(s=false->l=[]∧∀u,C0 c u->f u<0)
theorem Pw (b:World) (n c:Nat) (d:Dfa) (g:List Value) (ok:OkD n c d) (h:BC b d g) (k:1<=n∧n<=200) (j:1<=c∧c<=16) :
 CB prog 21 #[.agg g.toArray] b λr w=>(∃l a e s,r=.tuple #[.slice a l.length e,.bool s,.int .i64 0]∧A2 w (.slice a l.length e) (Gu l)∧VS n c (beh d d.start) l s)∧Al b w:=
 (Px b n c d g ok h k j).mono λr w h=>by
  obtain ⟨m,i⟩:=h;refine ⟨?_,i⟩;rcases m with ⟨l,a,e,rfl,f,p,o⟩|⟨rfl,f⟩
  .exact ⟨l,a,e,true,O,f,λ_=>⟨p,o⟩,λh=>by cases h⟩
  .exact ⟨[],none,0,false,O,BO.nil _ _ _ _,(λh=>by cases h),λ_=>⟨O,f⟩⟩
end Go.Proofs
namespace Go.Eng
open Go
theorem Mw {M:Nat->Prop} {P:Program} {N:Nat} {σ:B0} {w:World} {dst:Option Tmp} {z:Operand} {args:List Operand} {tys:Array TypeId} {ty:TypeId} {pos:String} {af:Array Edge} {g:Option (Nat×Bool)} {fv:Value} {vs:List Value} {R:EK}
 (i:ev σ z=fv) (e:args.map (ev σ)=vs) (c:CQ P fv vs.toArray w λv w'=>R v w'∧Chg M w w'):CP M P N ⟨dst,.call ⟨.value z,args.toArray,tys⟩,ty,pos,af,g⟩ R σ w:=by
 obtain ⟨f,fn,first,cap,rfl,h,d,a,b⟩:=c;exact Dv (EH i h d a e O) b
end Go.Eng
namespace Go.Proofs
open Go Go.Eng Go.Sort
set_option maxRecDepth 100000
--BEGIN
section
variable {α : Type}
def Cb:List α->Nat->List (α×Int)
  | [],_=>[]
  | m::ks,n=>(m,((n:Nat):Int))::Cb ks (n+1)
theorem JL:∀(a:List α) (m:α) (n:Nat),Cb (a++[m]) n=Cb a n++[(m,(((n+a.length:Nat):Nat):Int))]
 | [],m,n=>rfl
 | x::a,m,n=>by
  show (x,_)::Cb (a++[m]) (n+1)=(x,_)::(Cb a (n+1)++_);rw[JL a m (n+1),List.length_cons,show n+1+a.length=n+(a.length+1) by omega]
theorem Ka:∀{a:List α} {n:Nat} {q:α×Int},q∈Cb a n->∃(j:Nat) (m:α),a[j]?=some m∧q=(m,(((n+j:Nat):Nat):Int))
 | [],_,_,h=>by cases h
 | x::a,n,q,h=>by
  rcases List.mem_cons.1 h with h|h
  .exact ⟨0,x,O,h⟩
  .obtain ⟨j,m,b,c⟩:=Ka h;exact ⟨j+1,m,b,by rw[c];congr 2;omega⟩
theorem Kb:∀{a:List α} {n:Nat} {m:α},m∈a->m∈(Cb a n).map (·.1)
 | x::a,n,m,h=>by
  rcases List.mem_cons.1 h with rfl|h
  .exact List.mem_cons_self
  .exact List.mem_cons_of_mem _ (Kb (n:=n+1) h)
variable [DecidableEq α]
theorem Pf {b:List α} {m:α} {v:Int} (h:A3 (Cb b 0) m=some v):∃j:Nat,v=((j:Nat):Int)∧b[j]?=some m:=by
 obtain ⟨j,m',c,a⟩:=Ka (EI h);simp only[Prod.mk.injEq,Nat.zero_add] at a;exact ⟨j,a.2,by rw[c,a.1]⟩
theorem NP {a:List α} {m:α} (h:A3 (Cb a 0) m=none):m∉a∧D8 (Cb a 0) m ((a.length:Nat):Int)=Cb (a++[m]) 0:=by
 refine ⟨λb=>?_,?_⟩
 .have:=Cm.2 (Kb (n:=0) b);rw[h] at this;cases this
 .rw[Dm _ h,JL,Nat.zero_add]
end
section
variable {α : Type}
def HC (stp:α->Nat->Option α) (keys:List α) (k:α) (x:Nat) (y:Int):Prop:=match stp k x with|none=>y = -1|some b=>∃j:Nat,y=((j:Nat):Int)∧keys[j]?=some b
theorem HC.mono {stp:α->Nat->Option α} {keys:List α} {k:α} {x:Nat} {y:Int} (h:HC stp keys k x y) (u:List α):HC stp (keys++u) k x y:=by
 unfold HC at h⊢;cases hs:stp k x with
 | none=>rw[hs] at h;exact h
 | some b=>rw[hs] at h;obtain ⟨j,c,a⟩:=h;exact ⟨j,c,by rw[List.getElem?_append_left (AG a)];exact a⟩
structure ExpP (c:Nat) (stp:α->Nat->Option α) (a0:α) (keys:List α) (rows:List (List Int)) (row:List Int):Prop where
 k0:keys[0]?=some a0
 nd:keys.Nodup
 rch:∀k∈keys,∃w,C0 c w∧DV stp a0 w=some k
 len:∀r∈rows,r.length=c
 ent:∀(i x:Nat) r y k,rows[i]?=some r->r[x]?=some y->keys[i]?=some k->HC stp keys k x y
 cur:∀(x:Nat) y k,row[x]?=some y->keys[rows.length]?=some k->HC stp keys k x y
variable {c : Nat} {stp : α → Nat → Option α} {a0 : α} {keys : List α} {rows : List (List Int)} {row : List Int}
theorem ExpP.start (c:Nat) (stp:α->Nat->Option α) (a0:α):ExpP c stp a0 [a0] [] []:=by
 refine ⟨O,qP,λk a=>?_,λr h=>(by cases h),λi x r y k h=>by simp at h,λx y k h=>by simp at h⟩;rw[List.mem_singleton] at a;subst a;exact ⟨[],C0.nil c,O⟩
theorem ExpP.add {k:α} {y:Int} (h:ExpP c stp a0 keys rows row) (f:keys[rows.length]?=some k) (d:HC stp keys k row.length y):ExpP c stp a0 keys rows (row++[y]):=by
 refine {h with cur:=λx z q g a=>?_};rcases BI g with b|⟨b,e⟩
 .exact h.cur x z q b a
 .rw[f] at a;cases a;rw[b,e];exact d
theorem ExpP.new {k b:α} (h:ExpP c stp a0 keys rows row) (f:keys[rows.length]?=some k) (s:row.length<c) (hs:stp k row.length=some b) (n:b∉keys):ExpP c stp a0 (keys++[b]) rows (row++[((keys.length:Nat):Int)]):=by
 have j:=AG f;have u:HC stp (keys++[b]) k row.length ((keys.length:Nat):Int):=by
  unfold HC;rw[hs];exact ⟨keys.length,O,qP⟩
 refine ⟨by rw[List.getElem?_append_left (AG h.k0)];exact h.k0,?_,λq d=>?_,h.len,λi x r y q m t d=>?_,λx z q v d=>?_⟩
 .rw[List.nodup_append];refine ⟨h.nd,qP,λp o q d=>?_⟩;rw[List.mem_singleton] at d;subst d;exact λe=>n (e▸o)
 .rcases List.mem_append.1 d with a|a
  .exact h.rch q a
  .rw[List.mem_singleton] at a;subst a;obtain ⟨w,g,A⟩:=h.rch k (List.mem_of_getElem? f);exact ⟨w++[row.length],g.snoc s,by rw[Ed,A];exact hs⟩
 .rcases BI d with a|⟨a,_⟩
  .exact (h.ent i x r y q m t a).mono _
  .have:=AG m;omega
 .have l:q=k:=by
   rw[List.getElem?_append_left j,f] at d;exact (Option.some.inj d).symm
  subst l;rcases BI v with a|⟨a,g⟩
  .exact (h.cur x z q a f).mono _
  .rw[a,g];exact u
theorem ExpP.rowed (h:ExpP c stp a0 keys rows row) (j:row.length=c):ExpP c stp a0 keys (rows++[row]) []:=by
 refine ⟨h.k0,h.nd,h.rch,λr g=>?_,λi x r y s a e d=>?_,λx y s a=>by simp at a⟩
 .rcases List.mem_append.1 g with a|a
  .exact h.len r a
  .rw[List.mem_singleton] at a;rw[a];exact j
 .rcases BI a with b|⟨b,f⟩
  .exact h.ent i x r y s b e d
  .subst f;rw[b] at d;exact h.cur x y s e d
def Ge (c:Nat) (stp:α->Nat->Option α) (a0:α) (m:Nat):Prop:=∀l:List α,l.Nodup->(∀k∈l,∃w,C0 c w∧DV stp a0 w=some k)->l.length<=m
theorem Hu {β:Type}:∀{l m:List β},l.Nodup->(∀x∈l,x∈m)->l.length<=m.length
 | [],_,_,_=>Nat.zero_le _
 | x::l,m,hd,h=>by
  have a:=List.nodup_cons.1 hd;obtain ⟨s,t,rfl⟩:=List.append_of_mem (h x List.mem_cons_self);have:=Hu (l:=l) (m:=s++t) a.2 λy c=>by
   have d:=h y (List.mem_cons_of_mem _ c);rcases List.mem_append.1 d with b|b
   .exact List.mem_append_left _ b
   .rcases List.mem_cons.1 b with rfl|e
    .exact absurd c a.1
    .exact List.mem_append_right _ e
  simp only[List.length_append,List.length_cons] at this⊢;omega
theorem ExpP.closed (h:ExpP c stp a0 keys rows []) (g:rows.length=keys.length):∀(w:List Nat) (k q:α),C0 c w->k∈keys->DV stp k w=some q->q∈keys
 | [],k,q,_,hk,hr=>by simp only[DV,Option.some.injEq] at hr;exact hr▸hk
 | x::w,k,q,hw,hk,hr=>by
  simp only[DV] at hr;obtain ⟨i,hi⟩:=List.getElem?_of_mem hk;obtain ⟨r,a⟩:=AK (l:=rows) (i:=i) (by have:=AG hi;omega);obtain ⟨y,e⟩:=AK (l:=r) (i:=x) (by have:=h.len r (List.mem_of_getElem? a);have:=hw.head;omega);have d:=h.ent i x r y k a e hi;unfold HC at d;cases hs:stp k x with
  | none=>rw[hs] at hr;cases hr
  | some b=>
   rw[hs] at d hr;obtain ⟨j,_,f⟩:=d;simp only[Option.bind_some] at hr;exact h.closed g w b q hw.tail (List.mem_of_getElem? f) hr
theorem ExpP.all (h:ExpP c stp a0 keys rows []) (f:rows.length=keys.length):Ge c stp a0 keys.length:=λl hd d=>Hu hd λk e=>by
 obtain ⟨w,b,a⟩:=d k e;exact h.closed f w a0 k b (List.mem_of_getElem? h.k0) a
theorem Ge.mono {m m':Nat} (h:Ge c stp a0 m) (a:m<=m'):Ge c stp a0 m':=λl hd b=>Nat.le_trans (h l hd b) a
def OD (stp:α->Nat->Option α) (acc:α->Int) (k:α) (w:List Nat):Int:=match DV stp k w with|some b=>acc b|none=>-1
theorem ExpP.done {acc:α->Int} (h:ExpP c stp a0 keys rows []) (q:rows.length=keys.length) (s:∀k∈keys,-1<=acc k):OkD keys.length c ⟨0,keys.map acc,rows⟩∧∀w,C0 c w->beh ⟨0,keys.map acc,rows⟩ 0 w=OD stp acc a0 w:=by
 have hk0:=AG h.k0;have ok:OkD keys.length c ⟨0,keys.map acc,rows⟩:=⟨q,qP,⟨Int.le_refl _,by show (0:Int)<_;omega⟩,λx p=>by
  obtain ⟨k,f,rfl⟩:=List.mem_map.1 p;exact s k f,λr e=>by
  have e:r∈rows:=e;refine ⟨h.len r e,λy m=>?_⟩;obtain ⟨i,hi⟩:=List.getElem?_of_mem e;obtain ⟨x,p⟩:=List.getElem?_of_mem m;obtain ⟨k,f⟩:=AK (l:=keys) (i:=i) (by have:=AG hi;omega);have a:=h.ent i x r y k hi p f;unfold HC at a;cases hs:stp k x with
  | none=>rw[hs] at a;simp only at a;omega
  | some b=>rw[hs] at a;obtain ⟨j,h1,n⟩:=a;have:=AG n;omega⟩
 refine ⟨ok,?_⟩;have o:∀(w:List Nat) (i:Nat) (k:α),C0 c w->keys[i]?=some k->beh ⟨0,keys.map acc,rows⟩ ((i:Nat):Int) w=OD stp acc k w:=by
  intro w
  induction w with
  | nil=>
   intro i k _ f;simp only[beh,OD,DV];exact Cn (by simp[f])
  | cons x w ih=>
   intro i k g f;obtain ⟨r,e⟩:=AK (l:=rows) (i:=i) (by have:=AG f;omega);obtain ⟨y,m⟩:=AK (l:=r) (i:=x) (by have:=h.len r (List.mem_of_getElem? e);have:=g.head;omega);have a:=h.ent i x r y k e m f;simp only[beh,OD,DV];rw[DQ (d:=⟨0,keys.map acc,rows⟩) e m];unfold HC at a;cases hs:stp k x with
   | none=>rw[hs] at a;simp only at a;simp only[Option.bind_none];exact C6 qO
   | some b=>
    rw[hs] at a;obtain ⟨j,rfl,n⟩:=a;simp only[Option.bind_some];exact ih j b g.tail n
 intro w g;exact o w 0 a0 g h.k0
end
--END
end Go.Proofs
