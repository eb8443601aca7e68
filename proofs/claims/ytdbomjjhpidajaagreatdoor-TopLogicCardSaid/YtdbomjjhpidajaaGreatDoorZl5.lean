/- Contracts and plain lemmas, part 5. -/
import Derived.Test.YtdbomjjhpidajaaGreatDoorZl4
open Go.Proofs.Tryz
set_option maxHeartbeats 16000000
set_option linter.unusedVariables false
namespace Go.Proofs
open Go Go.Eng Go.Sort
set_option maxRecDepth 100000
def dfV (d:Dfa) (ea:Option Addr) (ec:Nat) (na:Option Addr) (nc:Nat):List Value:=[.int .i64 d.start,.slice ea d.accept.length ec,.slice na d.next.length nc]
def zDe (T:Nat→Prop) (w:World) (ds:List Dfa) (rows:List (List Value)):Prop:=rows.length=ds.length∧(∀r∈rows,r.length=3)∧∀(i:Nat) (d:Dfa),ds[i]?=some d→∃ea ec na nc,rows[i]?=some (dfV d ea ec na nc)∧zBW T w d (dfV d ea ec na nc)
theorem zDe.nil {T:Nat→Prop} {w:World}:zDe T w [] []:=⟨rfl,(fun r h=>by cases h),(fun i d h=>by simp at h)⟩
theorem zEm {T A:Nat→Prop} {w w':World} (h:∀y,T y→A y∧y<w.heap.size) (x:Ext w w'):∀y,T y→A y∧y<w'.heap.size:=fun y hy=>⟨(h y hy).1,Nat.lt_of_lt_of_le (h y hy).2 x.size⟩
theorem zDe.chg {T M:Nat→Prop} {w w':World} {ds:List Dfa} {rows:List (List Value)} (h:zDe T w ds rows) (c:Chg M w w') (hM:∀b,T b→¬M b):zDe T w' ds rows:=⟨h.1,h.2.1,fun i d hd=>by
 obtain ⟨ea,ec,na,nc,h1,h2⟩:=h.2.2 i d hd;exact ⟨ea,ec,na,nc,h1,h2.put c hM⟩⟩
theorem zDe.ext {T:Nat→Prop} {w w':World} {ds:List Dfa} {rows:List (List Value)} (h:zDe T w ds rows) (c:Ext w w'):zDe T w' ds rows:=h.chg c fun _ _ f=>f
theorem zDe.mono {T T':Nat→Prop} {w:World} {ds:List Dfa} {rows:List (List Value)} (hs:∀b,T b→T' b) (h:zDe T w ds rows):zDe T' w ds rows:=⟨h.1,h.2.1,fun i d hd=>by
 obtain ⟨ea,ec,na,nc,h1,h2⟩:=h.2.2 i d hd;exact ⟨ea,ec,na,nc,h1,h2.mono hs⟩⟩
theorem zDe.snoc {T:Nat→Prop} {w:World} {ds:List Dfa} {rows:List (List Value)} {d:Dfa} {ea na:Option Addr} {ec nc:Nat} (h:zDe T w ds rows) (hd:zBW T w d (dfV d ea ec na nc)):zDe T w (ds++[d]) (rows++[dfV d ea ec na nc]):=by
 refine ⟨by simp[h.1],fun r hr=>?_,fun i e he=>?_⟩
 ·rcases List.mem_append.1 hr with hr|hr
  ·exact h.2.1 r hr
  ·rw[List.mem_singleton.1 hr];rfl
 ·rcases Nat.lt_trichotomy i ds.length with hi|hi|hi
  ·rw[List.getElem?_append_left hi] at he;obtain ⟨a1,a2,a3,a4,h1,h2⟩:=h.2.2 i e he;exact ⟨a1,a2,a3,a4,by rw[List.getElem?_append_left (by rw[h.1];exact hi)];exact h1,h2⟩
  ·subst hi;rw[List.getElem?_append_right (Nat.le_refl _),Nat.sub_self] at he;simp only[List.getElem?_cons_zero,Option.some.injEq] at he;subst he;exact ⟨ea,ec,na,nc,by rw[←h.1,List.getElem?_append_right (Nat.le_refl _),Nat.sub_self];rfl,hd⟩
  ·rw[List.getElem?_eq_none (by simp;omega)] at he;cases he
section
variable {c : Nat} {cs : List (List Sp)} {t : Re} {k : Int} {d D e : Dfa} {ds : List Dfa} {j : Nat}
theorem zRK (hk:t.kind=3∨t.kind=4∨t.kind=7) {ds:List Dfa} (h:trL c cs t.args=some (d::ds)):trN c cs t=foldK c t.kind d ds:=by
 rw[zFv,nodeO,if_neg qO,if_neg qO,if_pos hk,h];rfl
theorem zIv (hk:t.kind=3∨t.kind=4∨t.kind=7) (h:trL c cs t.args=none):trN c cs t=none:=by
 rw[zFv,nodeO,if_neg qO,if_neg qO,if_pos hk,h];rfl
theorem zVv (hk:k=3):opK c k D e=catO c D e:=if_pos hk
theorem zRi (hk:¬k=3):opK c k D e=prsO c (decide (k=7)) D e:=if_neg hk
theorem zFU (hj:ds[j]?=some e) (hf:foldK c k d (ds.take j)=some D):foldK c k d (ds.take (j+1))=opK c k D e:=by
 rw[List.take_add_one,hj,Option.toList_some,zJO,hf];rfl
theorem zGk (hj:ds[j]?=some e) (hf:foldK c k d (ds.take j)=some D) (ho:opK c k D e=none):foldK c k d ds=none:=by
 have h:=zFU (k:=k) (c:=c) hj hf;rw[ho] at h;have:=zJP (es:=ds.drop (j+1)) h
 rwa [List.take_append_drop] at this
end
theorem zTk (cs:List (List Sp)) (x:Re) (hc:1≤cs.length∧cs.length≤16) (hN:NodeI x) (hk:x.kind=3) (hla:x.args.length≤1000000) (hof:∀y∈x.args,zIm cs.length cs y):zIX cs.length cs x:=by
 intro w0 bt ca cc vs ad hC ht;have ht0:=ht;obtain ⟨sa,sc,aa,ac,rfl,cq,cb,ar⟩:=ht.form;have hcl:cs.length≤16:=hc.2;have h2:=hN.two qO;obtain ⟨y,hy⟩:=zAN (l:=x.args) (i:=0) qO;obtain ⟨ab,ao,rfl,ap⟩:=zFo ar qO;obtain ⟨us,cn,bx⟩:=ap.get hy;have bo:=bx;obtain ⟨bw,b3,b4,b1,rfl,_,_,_⟩:=bx.form;have cj:x.args.take 1=[]++[y]:=by rw[List.take_add_one,hy];rfl
 have a4:x.kind=3∨x.kind=4∨x.kind=7:=qO
 refine zDj func105 rfl ntmps105 (leT rfl) ?_;have E:Chg zAh w0 w0:=Chg.refl _ _;refine zAA (zBQ (v:=(.agg (R6 x sa sc (some ⟨ab,ao,none⟩) ac))) (c:=(R6 x sa sc (some ⟨ab,ao,none⟩) ac)) qD rfl rfl ?_);intro bb wb Nb;have Fb:=Nb.ge E;have Ob_bt:=Nb.lt ad;replace ad:=Nb.keep ad;replace E:=E.ext Nb.ext;have Bb:=Nb.blk;refine zBH (c:=#[(I6 0),(.slice none 0 0),(.slice none 0 0)]) qD zBf rfl ?_;intro br wr Nr;have Fr:=Nr.ge E;have Or_bt:=Nr.lt ad;have Or_bb:=Nr.lt Bb;replace ad:=Nr.keep ad;replace Bb:=Nr.keep Bb;replace E:=E.ext Nr.ext;have Br:=Nr.blk;refine zAB (zAA (qM _ rfl (qV (zBh rfl) (qF bt 0 0 rfl underlying108 rfl zHK rfl (qV (zAI rfl zDY (ad.cell rfl)) (qV (zAJ underlying35 rfl) (qA _ rfl (zAB (zAH (zAA (qF bb 0 0 rfl underlying26 rfl zAy rfl (qV (zAI rfl zAo (Bb.cell rfl)) (zAB (zAS (zAA (qV (zAs rfl rfl) (qA _ rfl (zAB ?_))))))))))))))))));have cf:(decide ((x.kind:Int)=1))=false:=decide_eq_false qO;refine zAP (cbk cf) (zAA (qV (zAs rfl rfl) (qA _ rfl (zAB ?_))));have cl:(decide ((x.kind:Int)=2))=false:=decide_eq_false qO;refine zAP (cbk cl) (zAH (zAA (qV (zAs rfl rfl) (qA _ rfl (zAB ?_)))));have bk:(decide ((x.kind:Int)=3))=true:=decide_eq_true hk;refine zAk (cbk bk) (zAO (zAC (zAk (cbk bk) (zAA (qM _ rfl (qF bb 0 2 rfl underlying26 rfl zFw rfl (qV (zAI (v:=(.slice (some ⟨ab,ao,none⟩) x.args.length ac)) rfl zEQ (Bb.cell rfl)) (qV (zAD (b:=ab) (o:=ao) (len:=x.args.length) (cap:=ac) (i:=0) (o':=ao+0*6) rfl rfl rfl underlying24 zAw qO qO) (qV (zAK (vs:=[(I6 y.kind),(.slice bw y.set.length b3),(.slice b4 y.args.length b1),(I6 y.mn),(I6 y.mx),(.bool y.neg)]) rfl zBc zAw rfl (cn.ext E)) ?_)))))))));obtain ⟨n9,bc⟩:∃n9,n9=(wr).heap.size:=⟨_,rfl⟩;have cg:br<n9∧w0.heap.size≤n9:=⟨by rw[bc];exact Br.lt,by rw[bc];exact E.size⟩;refine zBd rfl rfl qD (zAQ (vs:=[(P6 bt 0),(.agg (R6 y bw b3 b4 b1))]) func70 kQ kQ rfl) (((hof y (List.mem_of_getElem? hy) _ bt ca cc _ ad (hC.ext E) (zBB.ext E y bo)).mono (R':=fun r w'=>(∃d,trO cs.length cs y=some d∧GoodD cs.length d∧d.next.length≤200∧zJb (fun b=>n9≤b) d r w')∧Ext _ w') (fun r w' h=>⟨by obtain ⟨d,h1,h2,h3,h4⟩:=h.1;exact ⟨d,h1,h2,h3,h4.mono fun b hb=>by rw[bc];exact hb.1⟩,h.2⟩) (fun _ h=>h))) (fun w' h=>And.intro rfl ⟨zIv a4 (zEj hy h.1),E.ext h.2⟩) ?_;rintro _ w9 ⟨⟨d,hd,gd,hd2,ea,ec,na,nc,rfl,hD⟩,X9⟩;replace ad:=X9.keep ad;replace Bb:=X9.keep Bb;replace Br:=X9.keep Br;replace E:=E.ext X9;have b6:∃m9,m9=w9.heap.size:=⟨_,rfl⟩;obtain ⟨m9,cu⟩:=b6;replace hD:=zBW.chg hD (Chg.refl zAh _) (fun _ _ _ f=>f);rw[←cu] at hD;refine zAd (v:=(.agg #[(I6 d.start),(.slice ea d.accept.length ec),(.slice na d.next.length nc)])) (c:=#[(I6 d.start),(.slice ea d.accept.length ec),(.slice na d.next.length nc)]) (n:=3) qD zBf rfl zAe rfl rfl rfl qS ?_;intro ba wa Na;have Fa:=Na.ge E;have Oa_bt:=Na.lt ad;have Oa_bb:=Na.lt Bb;have Oa_br:=Na.lt Br;replace ad:=Na.keep ad;replace Bb:=Na.keep Bb;replace Br:=Na.keep Br;replace hD:=hD.ext Na.ext;replace E:=E.ext Na.ext;have Ba:=Na.blk;refine zAB (zAA (qA (.slice none 0 0) rfl (zAB (zAH (zAA (qF bb 0 2 rfl underlying26 rfl zFw rfl (qV (zAI (v:=(.slice (some ⟨ab,ao,none⟩) x.args.length ac)) rfl zEQ (Bb.cell rfl)) ?_)))))));obtain ⟨sl,aw⟩:∃a':Option Addr,(if ac=1 then (some ⟨ab,ao,none⟩) else Option.map (fun q:Addr=>q.add (1*6)) (some ⟨ab,ao,none⟩))=a':=⟨_,rfl⟩;refine qV (zFC (a:=(some ⟨ab,ao,none⟩)) (len:=x.args.length) (cap:=ac) (lo:=1) (l:=1) (n':=(x.args.length - 1)) (c':=(ac - 1)) underlying24 zAw rfl rfl qO qO aw qO qO) ?_;rw[if_neg qO] at aw;simp only[Option.map_some,Addr.add_lit] at aw;subst aw;obtain ⟨n1,am⟩:∃n1,n1=(wa).heap.size:=⟨_,rfl⟩;have hob:br<n1∧ba<n1∧w0.heap.size≤n1∧br<n9∧m9≤ba∧w0.heap.size≤ba∧w0.heap.size≤br∧br<ba∧bb<n1∧bt<n1:=⟨by rw[am];exact Br.lt,by rw[am];exact Ba.lt,by rw[am];exact E.size,cg.1,by have:=Na.eq;omega,qO,qO,by have:=Na.eq;have:=X9.size;omega,by rw[am];exact Bb.lt,by rw[am];exact ad.lt⟩;have co:zBW (fun b=>w0.heap.size≤b∧b≠ba∧b≠br∧b<n1) (wa) d [.int .i64 d.start,.slice ea d.accept.length ec,.slice na d.next.length nc]:=hD.mono fun b hb=>⟨by have:=hb.1;omega,by have:=hb.2;omega,by have:=hb.1;omega,by have:=hb.2;omega⟩;refine qV (zAJ underlying24 rfl) (qM _ rfl (zAB (zAS (zAp (fun nn_ σ W4=>∃(i:Nat) (la:Option Addr) (lc:Nat) (ae:List (List Value)) (ds:List Dfa) (T:Nat→Prop),(∃jj_,σ=zCT jj_ [(0,(P6 bt 0)),(3,(P6 bb 0)),(4,(P6 br 0)),(9,(P6 ba 0)),(84,(.slice (some ⟨ab,ao+1*6,none⟩) (x.args.length - 1) (ac - 1))),(85,(I6 ((x.args.length - 1:Nat):Int))),(86,(I6 (i:Int))),(10,(.slice la i lc))])∧Chg zAh w0 W4∧Blk W4 bt #[(.slice ca cs.length cc)] 108∧Blk W4 bb (R6 x sa sc (some ⟨ab,ao,none⟩) ac) 26∧Blk W4 br #[(I6 0),(.slice none 0 0),(.slice none 0 0)] 34∧Blk W4 ba #[(I6 d.start),(.slice ea d.accept.length ec),(.slice na d.next.length nc)] 34∧(i≤x.args.length - 1)∧(W4.ownsRow n1 34 3 (.slice la i lc) i ae.flatten)∧(zDe T W4 ds ae)∧(ds.length=i)∧(∀e∈ds,GoodD cs.length e)∧(trL cs.length cs (x.args.take (i+1))=some (d::ds))∧(zBW (fun b=>w0.heap.size≤b∧b≠ba∧b≠br∧b<n1) W4 d [.int .i64 d.start,.slice ea d.accept.length ec,.slice na d.next.length nc])∧(n1≤W4.heap.size)∧(∀y,T y→n1≤y∧y<W4.heap.size)∧(∀b,(Value.slice la i lc).ownBlock=some b→¬T b)∧nn_=x.args.length - 1 - i) (n:=x.args.length - 1 - 0) ?_ ?_))))
 ·exact ⟨0,none,0,[],[],(fun _=>False),zAz.out ⟨rfl,rfl,rfl,rfl,rfl,rfl,rfl,rfl,trivial⟩,E,ad,Bb,Br,Ba,Nat.zero_le _,World.ownsRow_nil _ _ _ _,zDe.nil,rfl,(fun e h=>by cases h),(by rw[cj];exact zEi (ts:=[]) (ds:=[]) hd (by simp[trL])),co,(by rw[am];exact Nat.le_refl _),(fun y h=>h.elim),(fun b _ h=>h),rfl⟩
 ·clear E ad Bb Br Ba;rintro _ _ W4 ⟨i,la,lc,ae,ds,T,⟨j4,rfl⟩,E,ad,Bb,Br,Ba,hi,hO,hR,a5,hG,bp,hD,ak,hT,bm,rfl⟩;refine zAA (qV (zBF rfl rfl) (zAB (zAH (qC rfl (fun a3=>?_) (fun a3=>?_)))))
  ·obtain ⟨z,hz⟩:=zAN (l:=x.args) (i:=i+1) qO;obtain ⟨uz,b8,bs⟩:=ap.get hz;have bj:=bs;obtain ⟨ay,a0,a1,az,rfl,_,_,_⟩:=bs.form;refine zAO (zAC (zAH (zAS (zAA (qV (zAD (b:=ab) (o:=ao+1*6) (len:=x.args.length - 1) (cap:=ac - 1) (i:=i) (o':=ao+1*6+i*6) rfl rfl rfl underlying24 zAw qO qO) (qV (zAK (vs:=[(I6 z.kind),(.slice ay z.set.length a0),(.slice a1 z.args.length az),(I6 z.mn),(I6 z.mx),(.bool z.neg)]) rfl zBc zAw rfl ((by have h9:=b8.ext E;rwa [show ao+(i+1)*6=ao+1*6+i*6 by omega] at h9))) (zAd (v:=(.agg (R6 z ay a0 a1 az))) (c:=(R6 z ay a0 a1 az)) (n:=6) qD zEH rfl zAw rfl rfl rfl qS ?_)))))));intro bu wu Nu;have Fu:=Nu.ge E;have Ou_bt:=Nu.lt ad;have Ou_bb:=Nu.lt Bb;have Ou_br:=Nu.lt Br;have Ou_ba:=Nu.lt Ba;replace ad:=Nu.keep ad;replace Bb:=Nu.keep Bb;replace Br:=Nu.keep Br;replace Ba:=Nu.keep Ba;replace hO:=zAj hO Nu.ext;replace hR:=hR.ext Nu.ext;replace ak:=Nat.le_trans ak Nu.ext.size;replace hD:=hD.ext Nu.ext;replace hT:=zEm hT Nu.ext;replace E:=E.ext Nu.ext;have Bu:=Nu.blk;refine zAB (zAF (qM _ rfl (qM _ rfl (qV (zAK (vs:=[(I6 z.kind),(.slice ay z.set.length a0),(.slice a1 z.args.length az),(I6 z.mn),(I6 z.mx),(.bool z.neg)]) rfl zBc zAw rfl (Bu.cells rfl)) ?_))));obtain ⟨n2,bq⟩:∃n2,n2=(wu).heap.size:=⟨_,rfl⟩;have ct:n1≤n2:=by rw[bq];exact ak
   have b5:∀b,(Value.slice la i lc).ownBlock=some b→n1≤b∧b<n2:=fun b hb=>⟨(hO.lt b hb).1,by rw[bq];exact (hO.lt b hb).2⟩;refine zBd rfl rfl qD (zAQ func70 kQ kQ rfl) (((hof z (List.mem_of_getElem? hz) _ bt ca cc _ ad (hC.ext E) (zBB.ext E z bj)).mono (R':=fun r w'=>(∃d,trO cs.length cs z=some d∧GoodD cs.length d∧d.next.length≤200∧zJb (fun b=>n2≤b) d r w')∧Ext _ w') (fun r w' h=>⟨by obtain ⟨d,h1,h2,h3,h4⟩:=h.1;exact ⟨d,h1,h2,h3,h4.mono fun b hb=>by rw[bq];exact hb.1⟩,h.2⟩) (fun _ h=>h))) (fun w' h=>And.intro rfl ⟨zIv a4 (zEj hz h.1),E.ext h.2⟩) ?_;rintro _ a2 ⟨⟨e,he,ge,he2,fa,fc,ga,gc,rfl,aq⟩,af⟩;replace ad:=af.keep ad;replace Bb:=af.keep Bb;replace Br:=af.keep Br;replace Ba:=af.keep Ba;replace Bu:=af.keep Bu;replace hO:=zAj hO af;replace hR:=hR.ext af;replace ak:=Nat.le_trans ak af.size;replace hD:=hD.ext af;replace hT:=zEm hT af;replace E:=E.ext af;replace aq:=zBW.chg aq (Chg.refl zAh _) (fun _ _ _ f=>f);refine zAc (ps:=[(0,(.agg #[(I6 e.start),(.slice fa e.accept.length fc),(.slice ga e.next.length gc)]))]) (c:=#[(I6 e.start),(.slice fa e.accept.length fc),(.slice ga e.next.length gc)]) qD rfl underlying177 zAe zBf qD qD qK ?_;intro bz wz Nz;have Fz:=Nz.ge E;have Oz_bt:=Nz.lt ad;have Oz_bb:=Nz.lt Bb;have Oz_br:=Nz.lt Br;have Oz_ba:=Nz.lt Ba;have Oz_bu:=Nz.lt Bu;replace ad:=Nz.keep ad;replace Bb:=Nz.keep Bb;replace Br:=Nz.keep Br;replace Ba:=Nz.keep Ba;replace Bu:=Nz.keep Bu;replace hO:=zAj hO Nz.ext;replace hR:=hR.ext Nz.ext;replace ak:=Nat.le_trans ak Nz.ext.size;replace hD:=hD.ext Nz.ext;replace hT:=zEm hT Nz.ext;replace aq:=aq.ext Nz.ext;replace E:=E.ext Nz.ext;have Bz:=Nz.blk;have hQ9:True:=trivial;refine zBp (base:=n1) (n:=i) (m:=1) (xs:=ae.flatten) (news:=[(I6 e.start),(.slice fa e.accept.length fc),(.slice ga e.next.length gc)]) (size:=3) (bytes:=56) (v:=(.slice la i lc)) qD underlying177 zAe zUw zBf rfl qD rfl hO rfl (rfl) (Bz.cells rfl) qS (by unfold maxLen;omega) qO (ak) ?_;intro v9 a6 b2 ai b9;replace ad:=ai.keep (fun h=>by have:=(hO.lt _ h).1;omega) ad;replace Bb:=ai.keep (fun h=>by have:=(hO.lt _ h).1;omega) Bb;replace Br:=ai.keep (fun h=>by have:=(hO.lt _ h).1;omega) Br;replace Ba:=ai.keep (fun h=>by have:=(hO.lt _ h).1;omega) Ba;replace E:=E.step ai (fun x hx h=>absurd (hO.lt x h).1 qO);obtain ⟨cp,ck,rfl⟩:=zBO b2;have hz1:=Nz.ext.size;have hz2:=ai.size;have hz3:=af.size;have ax:∀y,(T y∨(n2≤y∧y<a2.heap.size))→n1≤y∧y<(a6).heap.size∧(Value.slice la i lc).ownBlock≠some y:=by
    intro y hy;rcases hy with hy|⟨hy,hy2⟩
    ·exact ⟨(hT y hy).1,by have:=(hT y hy).2;omega,fun hb=>bm y hb hy⟩
    ·exact ⟨qO,qO,fun hb=>by have:=b5 y hb;omega⟩
   have ch:zDe (fun y=>T y∨(n2≤y∧y<a2.heap.size)) (a6) (ds++[e]) (ae++[dfV e fa fc ga gc]):=((hR.chg ai fun y hy hm=>bm y hm hy).mono fun y hy=>.inl hy).snoc ((aq.put ai fun y hy hm=>(ax y (.inr hy)).2.2 hm).mono fun y hy=>.inr hy);refine qA _ rfl (zAB (zAR (zAC (zAF (qV (zAv rfl rfl (zBb qO)) (qM _ rfl (zAB (zAC ?_))))))));exact ⟨x.args.length - 1 - (i+1),qO,i+1,cp,ck,ae++[dfV e fa fc ga gc],ds++[e],(fun y=>T y∨(n2≤y∧y<a2.heap.size)),zAz.out ⟨rfl,rfl,rfl,rfl,rfl,rfl,rfl,rfl,trivial⟩,E,ad,Bb,Br,Ba,qO,(by simpa[dfV] using b2),ch,(by simp[a5]),(fun d9 h9=>by rcases List.mem_append.1 h9 with h8|h8;exact hG d9 h8;rw[List.mem_singleton.1 h8];exact ge),(by rw[List.take_add_one,hz,Option.toList_some];exact zEi he bp),hD.put ai (fun y hy hm=>by have:=(b5 y hm).1;have:=hy.2.2.2;omega),Nat.le_trans ak ai.size,(fun y hy=>⟨(ax y hy).1,(ax y hy).2.1⟩),(fun b hb hy=>by rcases b9 b hb with h|h;exact (ax b hy).2.2 h;rcases hy with hy|hy;have:=(hT b hy).2;omega;have:=hy.2;omega),rfl⟩
  ·have b0:i=x.args.length - 1:=qO
   rw[b0] at hO a5 bp bm;rw[b0];have be:trL cs.length cs x.args=some (d::ds):=by rw[←bp,List.take_of_length_le qO]
   have au:=zRK (cs:=cs) (c:=cs.length) a4 be;refine zAn (zAT (zAT (zAg (zAC (zAH (zAA (qM _ rfl (qV (zAJ underlying177 rfl) (qM _ rfl (zAB (zAS (zAp (fun nn_ σ W6=>∃(j:Nat) (D:Dfa) (pa qa:Option Addr) (pc qc:Nat),(∃jj_,σ=zCT jj_ [(3,(P6 bb 0)),(4,(P6 br 0)),(9,(P6 ba 0)),(97,(.slice la (x.args.length - 1) lc)),(98,(I6 ((x.args.length - 1:Nat):Int))),(99,(I6 (j:Int)))])∧Chg zAh w0 W6∧Blk W6 bt #[(.slice ca cs.length cc)] 108∧Blk W6 bb (R6 x sa sc (some ⟨ab,ao,none⟩) ac) 26∧Blk W6 br #[(I6 0),(.slice none 0 0),(.slice none 0 0)] 34∧Blk W6 ba (#[.int .i64 D.start,.slice pa D.accept.length pc,.slice qa D.next.length qc]) 34∧(j≤x.args.length - 1)∧(foldK cs.length x.kind d (ds.take j)=some D)∧(GoodD cs.length D)∧(zBW (fun b=>w0.heap.size≤b∧b≠ba∧b≠br) W6 D [.int .i64 D.start,.slice pa D.accept.length pc,.slice qa D.next.length qc])∧(zDe T W6 ds ae)∧(W6.ownsRow n1 34 3 (.slice la (x.args.length - 1) lc) (x.args.length - 1) ae.flatten)∧nn_=x.args.length - 1 - j) (n:=x.args.length - 1 - 0) ?_ ?_))))))))))))
   ·exact ⟨0,d,ea,na,ec,nc,zAz.out ⟨rfl,rfl,rfl,rfl,rfl,rfl,trivial⟩,E,ad,Bb,Br,Ba,Nat.zero_le _,rfl,gd,(hD.mono fun b hb=>⟨hb.1,hb.2.1,hb.2.2.1⟩),hR,hO,rfl⟩
   ·clear E ad Bb Br Ba;rintro _ _ W6 ⟨j,D,pa,qa,pc,qc,⟨j6,rfl⟩,E,ad,Bb,Br,Ba,hj,hf,gD,ah,hR,hO,rfl⟩;refine zAA (qV (zBF rfl rfl) (zAB (zAH (qC rfl (fun bd=>?_) (fun bd=>?_)))))
    ·obtain ⟨e,he⟩:=zAN (l:=ds) (i:=j) qO;obtain ⟨fa,fc,ga,gc,av,al⟩:=hR.2.2 j e he;unfold dfV at av al;obtain ⟨ob,oo,rfl,an⟩:=zCI.at (zDS hO hR.2.1 (by rw[hR.1,a5]) qD) qO;refine zAO (zAC (zAH (zAS (zAA (qV (zAD (b:=ob) (o:=oo) (len:=x.args.length - 1) (cap:=lc) (i:=j) (o':=oo+j*3) rfl rfl rfl underlying177 zAe qO qO) (qV (zAK rfl zAx zAe rfl (an j _ av)) (zAd (v:=(.agg #[(I6 e.start),(.slice fa e.accept.length fc),(.slice ga e.next.length gc)])) (c:=#[(I6 e.start),(.slice fa e.accept.length fc),(.slice ga e.next.length gc)]) (n:=3) qD zBf rfl zAe rfl rfl rfl qS ?_)))))));intro bv wv Nv;have Fv:=Nv.ge E;have Ov_bt:=Nv.lt ad;have Ov_bb:=Nv.lt Bb;have Ov_br:=Nv.lt Br;have Ov_ba:=Nv.lt Ba;replace ad:=Nv.keep ad;replace Bb:=Nv.keep Bb;replace Br:=Nv.keep Br;replace Ba:=Nv.keep Ba;replace hO:=zAj hO Nv.ext;replace hR:=hR.ext Nv.ext;replace ah:=ah.ext Nv.ext;replace al:=al.ext Nv.ext;replace E:=E.ext Nv.ext;have Bv:=Nv.blk;refine zAB (zAA (qF bb 0 0 rfl underlying26 rfl zAy rfl (qV (zAI rfl zAo (Bb.cell rfl)) (zAB (zAS (zAA (qV (zAs rfl rfl) (qA _ rfl (zAB (zAk (cbk bk) (zAF (qV (zAK (vs:=[(I6 D.start),(.slice pa D.accept.length pc),(.slice qa D.next.length qc)]) rfl zAx zAe rfl (Ba.cells rfl)) (qV (zAK (vs:=[(I6 e.start),(.slice fa e.accept.length fc),(.slice ga e.next.length gc)]) rfl zAx zAe rfl (Bv.cells rfl)) ?_)))))))))))));obtain ⟨n8,a7⟩:∃n8,n8=(wv).heap.size:=⟨_,rfl⟩;have ci:ba<n8∧br<n8∧w0.heap.size≤n8:=⟨by rw[a7];exact Ba.lt,by rw[a7];exact Br.lt,by rw[a7];exact E.size⟩;obtain ⟨o9,bn⟩:∃o9,o9=catO cs.length D e:=⟨_,rfl⟩;refine qE rfl (zAQ func154 kQ kQ rfl) ((zQt _ cs.length D e _ _ gD (hG e (List.mem_of_getElem? he)) ah.at' al.at' hc).mono (R':=fun r w'=>opG cs.length (fun b=>w0.heap.size≤b∧b≠ba∧b≠br) o9 r w'∧Ext _ w') (fun r w' h=>⟨by rw[bn];exact h.1.mono fun b hb=>⟨by have:=hb.1;omega,by have:=hb.1;omega,by have:=hb.1;omega⟩,h.2⟩)) ?_;rintro _ w29 ⟨⟨s9,bg,bf,bh,a8,rfl,cm⟩,aj⟩;replace ad:=aj.keep ad;replace Bb:=aj.keep Bb;replace Br:=aj.keep Br;replace Ba:=aj.keep Ba;replace Bv:=aj.keep Bv;replace hO:=zAj hO aj;replace hR:=hR.ext aj;replace ah:=ah.ext aj;replace al:=al.ext aj;replace E:=E.ext aj;refine qV (zAa rfl rfl) (qV (zAa rfl rfl) (zBd rfl rfl qD (zAQ func153 kQ kQ rfl) (zHq _ o9.isSome s9.start bg bf s9.accept.length bh s9.next.length a8) (fun w' h=>And.intro rfl ⟨by rw[au];exact zGk he hf ((zVv hk).trans (bn.symm.trans (Option.not_isSome_iff_eq_none.1 (by rw[h.1];decide)))),E.ext h.2⟩) ?_));rintro _ a6 ⟨⟨b7,rfl⟩,ag⟩;replace ad:=ag.keep ad;replace Bb:=ag.keep Bb;replace Br:=ag.keep Br;replace Ba:=ag.keep Ba;replace Bv:=ag.keep Bv;replace hO:=zAj hO ag;replace hR:=hR.ext ag;replace ah:=ah.ext ag;replace al:=al.ext ag;replace E:=E.ext ag;obtain ⟨D9,bi⟩:=Option.isSome_iff_exists.1 b7;obtain ⟨ce,cd,cv⟩:=cm D9 bi;rw[ce] at bi;have a9:=cv.ext ag;refine zAb (b:=ba) (o:=0) (c':=#[(I6 s9.start),(.slice bg s9.accept.length bh),(.slice bf s9.next.length a8)]) rfl rfl qS zAe rfl Ba qL rfl ?_;intro w8 S8;replace hO:=zAq hO S8.chg (fun y hy h=>by have h':y=ba:=h;have:=(hO.lt y hy).1;omega);replace hR:=hR.chg S8.chg (fun y hy h=>by have h':y=ba:=h;have:=hT y hy;omega);replace a9:=a9.put S8.chg (fun y hy h=>hy.2.1 h);replace ad:=S8.keep qO ad;replace Bb:=S8.keep qO Bb;replace Br:=S8.keep qO Br;replace Bv:=S8.keep qO Bv;replace E:=S8.step E qQ;replace Ba:=S8.blk;refine zAB (zAR (zAR (zAC (zAF (qV (zAv rfl rfl (zBb qO)) (qM _ rfl (zAB (zAC ?_))))))));exact ⟨x.args.length - 1 - (j+1),qO,j+1,s9,bg,bf,bh,a8,zAz.out ⟨rfl,rfl,rfl,rfl,rfl,rfl,trivial⟩,E,ad,Bb,Br,Ba,qO,(by rw[zFU he hf];exact (zVv hk).trans (bn.symm.trans bi)),cd,a9,hR,hO,rfl⟩
    ·have cr:j=ds.length:=qO
     rw[cr,List.take_length] at hf;refine zAn (zAT (zAT (zAg (zAC (zAA (qV (zAK (vs:=[(I6 D.start),(.slice pa D.accept.length pc),(.slice qa D.next.length qc)]) rfl zAx zAe rfl (Ba.cells rfl)) (zAb (b:=br) (o:=0) (c':=#[(I6 D.start),(.slice pa D.accept.length pc),(.slice qa D.next.length qc)]) rfl rfl qS zAe rfl Br qL rfl ?_)))))));intro w9 S9;replace ah:=ah.put S9.chg (fun y hy h=>hy.2.2 h);replace ad:=S9.keep qO ad;replace Bb:=S9.keep qO Bb;replace Ba:=S9.keep qO Ba;replace E:=S9.step E qQ;replace Br:=S9.blk;refine zAB (zAV (zAi (zAU (zCo (zBm results105 (vs:=[(.int .i64 D.start),(.slice pa D.accept.length pc),(.slice qa D.next.length qc)]) (b:=br) rfl zAx zAe rfl (Br.cells rfl) ?_)))));exact ⟨⟨D,au.trans hf,gD,_,_,_,_,rfl,(zBW.chg ah (Chg.refl zAh _) fun _ _ _ f=>f).mono fun b hb=>⟨hb.1.1,hb.2⟩⟩,E⟩
theorem zTj (cs:List (List Sp)) (x:Re) (hc:1≤cs.length∧cs.length≤16) (hN:NodeI x) (hk:x.kind=4) (hla:x.args.length≤1000000) (hof:∀y∈x.args,zIm cs.length cs y):zIX cs.length cs x:=by
 intro w0 bt ca cc vs ad hC ht;have ht0:=ht;obtain ⟨sa,sc,aa,ac,rfl,ct,ce,au⟩:=ht.form;have hcl:cs.length≤16:=hc.2;have h2:=hN.two qO;obtain ⟨y,hy⟩:=zAN (l:=x.args) (i:=0) qO;obtain ⟨ab,ao,rfl,aq⟩:=zFo au qO;obtain ⟨us,cp,bx⟩:=aq.get hy;have bo:=bx;obtain ⟨bw,b4,b6,b1,rfl,_,_,_⟩:=bx.form;have cl:x.args.take 1=[]++[y]:=by rw[List.take_add_one,hy];rfl
 have a5:x.kind=3∨x.kind=4∨x.kind=7:=qO
 refine zDj func105 rfl ntmps105 (leT rfl) ?_;have E:Chg zAh w0 w0:=Chg.refl _ _;refine zAA (zBQ (v:=(.agg (R6 x sa sc (some ⟨ab,ao,none⟩) ac))) (c:=(R6 x sa sc (some ⟨ab,ao,none⟩) ac)) qD rfl rfl ?_);intro bb wb Nb;have Fb:=Nb.ge E;have Ob_bt:=Nb.lt ad;replace ad:=Nb.keep ad;replace E:=E.ext Nb.ext;have Bb:=Nb.blk;refine zBH (c:=#[(I6 0),(.slice none 0 0),(.slice none 0 0)]) qD zBf rfl ?_;intro br wr Nr;have Fr:=Nr.ge E;have Or_bt:=Nr.lt ad;have Or_bb:=Nr.lt Bb;replace ad:=Nr.keep ad;replace Bb:=Nr.keep Bb;replace E:=E.ext Nr.ext;have Br:=Nr.blk;refine zAB (zAA (qM _ rfl (qV (zBh rfl) (qF bt 0 0 rfl underlying108 rfl zHK rfl (qV (zAI rfl zDY (ad.cell rfl)) (qV (zAJ underlying35 rfl) (qA _ rfl (zAB (zAH (zAA (qF bb 0 0 rfl underlying26 rfl zAy rfl (qV (zAI rfl zAo (Bb.cell rfl)) (zAB (zAS (zAA (qV (zAs rfl rfl) (qA _ rfl (zAB ?_))))))))))))))))));have ch:(decide ((x.kind:Int)=1))=false:=decide_eq_false qO;refine zAP (cbk ch) (zAA (qV (zAs rfl rfl) (qA _ rfl (zAB ?_))));have cn:(decide ((x.kind:Int)=2))=false:=decide_eq_false qO;refine zAP (cbk cn) (zAH (zAA (qV (zAs rfl rfl) (qA _ rfl (zAB ?_)))));have b3:(decide ((x.kind:Int)=3))=false:=decide_eq_false qO;refine zAP (cbk b3) (zAA (qV (zAs rfl rfl) (qA _ rfl (zAB ?_))));have b5:(decide ((x.kind:Int)=4))=true:=decide_eq_true hk;refine zAk (cbk b5) (zAO (zAC (zAk (cbk b5) (zAA (qM _ rfl (qF bb 0 2 rfl underlying26 rfl zFw rfl (qV (zAI (v:=(.slice (some ⟨ab,ao,none⟩) x.args.length ac)) rfl zEQ (Bb.cell rfl)) (qV (zAD (b:=ab) (o:=ao) (len:=x.args.length) (cap:=ac) (i:=0) (o':=ao+0*6) rfl rfl rfl underlying24 zAw qO qO) (qV (zAK (vs:=[(I6 y.kind),(.slice bw y.set.length b4),(.slice b6 y.args.length b1),(I6 y.mn),(I6 y.mx),(.bool y.neg)]) rfl zBc zAw rfl (cp.ext E)) ?_)))))))));obtain ⟨n9,bd⟩:∃n9,n9=(wr).heap.size:=⟨_,rfl⟩;have ci:br<n9∧w0.heap.size≤n9:=⟨by rw[bd];exact Br.lt,by rw[bd];exact E.size⟩;refine zBd rfl rfl qD (zAQ (vs:=[(P6 bt 0),(.agg (R6 y bw b4 b6 b1))]) func70 kQ kQ rfl) (((hof y (List.mem_of_getElem? hy) _ bt ca cc _ ad (hC.ext E) (zBB.ext E y bo)).mono (R':=fun r w'=>(∃d,trO cs.length cs y=some d∧GoodD cs.length d∧d.next.length≤200∧zJb (fun b=>n9≤b) d r w')∧Ext _ w') (fun r w' h=>⟨by obtain ⟨d,h1,h2,h3,h4⟩:=h.1;exact ⟨d,h1,h2,h3,h4.mono fun b hb=>by rw[bd];exact hb.1⟩,h.2⟩) (fun _ h=>h))) (fun w' h=>And.intro rfl ⟨zIv a5 (zEj hy h.1),E.ext h.2⟩) ?_;rintro _ w9 ⟨⟨d,hd,gd,hd2,ea,ec,na,nc,rfl,hD⟩,X9⟩;replace ad:=X9.keep ad;replace Bb:=X9.keep Bb;replace Br:=X9.keep Br;replace E:=E.ext X9;have b8:∃m9,m9=w9.heap.size:=⟨_,rfl⟩;obtain ⟨m9,cw⟩:=b8;replace hD:=zBW.chg hD (Chg.refl zAh _) (fun _ _ _ f=>f);rw[←cw] at hD;refine zAd (v:=(.agg #[(I6 d.start),(.slice ea d.accept.length ec),(.slice na d.next.length nc)])) (c:=#[(I6 d.start),(.slice ea d.accept.length ec),(.slice na d.next.length nc)]) (n:=3) qD zBf rfl zAe rfl rfl rfl qS ?_;intro ba wa Na;have Fa:=Na.ge E;have Oa_bt:=Na.lt ad;have Oa_bb:=Na.lt Bb;have Oa_br:=Na.lt Br;replace ad:=Na.keep ad;replace Bb:=Na.keep Bb;replace Br:=Na.keep Br;replace hD:=hD.ext Na.ext;replace E:=E.ext Na.ext;have Ba:=Na.blk;refine zAB (zAA (qA (.slice none 0 0) rfl (zAB (zAH (zAA (qF bb 0 2 rfl underlying26 rfl zFw rfl (qV (zAI (v:=(.slice (some ⟨ab,ao,none⟩) x.args.length ac)) rfl zEQ (Bb.cell rfl)) ?_)))))));obtain ⟨sl,ax⟩:∃a':Option Addr,(if ac=1 then (some ⟨ab,ao,none⟩) else Option.map (fun q:Addr=>q.add (1*6)) (some ⟨ab,ao,none⟩))=a':=⟨_,rfl⟩;refine qV (zFC (a:=(some ⟨ab,ao,none⟩)) (len:=x.args.length) (cap:=ac) (lo:=1) (l:=1) (n':=(x.args.length - 1)) (c':=(ac - 1)) underlying24 zAw rfl rfl qO qO ax qO qO) ?_;rw[if_neg qO] at ax;simp only[Option.map_some,Addr.add_lit] at ax;subst ax;obtain ⟨n1,am⟩:∃n1,n1=(wa).heap.size:=⟨_,rfl⟩;have hob:br<n1∧ba<n1∧w0.heap.size≤n1∧br<n9∧m9≤ba∧w0.heap.size≤ba∧w0.heap.size≤br∧br<ba∧bb<n1∧bt<n1:=⟨by rw[am];exact Br.lt,by rw[am];exact Ba.lt,by rw[am];exact E.size,ci.1,by have:=Na.eq;omega,qO,qO,by have:=Na.eq;have:=X9.size;omega,by rw[am];exact Bb.lt,by rw[am];exact ad.lt⟩;have cq:zBW (fun b=>w0.heap.size≤b∧b≠ba∧b≠br∧b<n1) (wa) d [.int .i64 d.start,.slice ea d.accept.length ec,.slice na d.next.length nc]:=hD.mono fun b hb=>⟨by have:=hb.1;omega,by have:=hb.2;omega,by have:=hb.1;omega,by have:=hb.2;omega⟩;refine qV (zAJ underlying24 rfl) (qM _ rfl (zAB (zAS (zAp (fun nn_ σ W5=>∃(i:Nat) (la:Option Addr) (lc:Nat) (ae:List (List Value)) (ds:List Dfa) (T:Nat→Prop),(∃jj_,σ=zCT jj_ [(0,(P6 bt 0)),(3,(P6 bb 0)),(4,(P6 br 0)),(9,(P6 ba 0)),(84,(.slice (some ⟨ab,ao+1*6,none⟩) (x.args.length - 1) (ac - 1))),(85,(I6 ((x.args.length - 1:Nat):Int))),(86,(I6 (i:Int))),(10,(.slice la i lc))])∧Chg zAh w0 W5∧Blk W5 bt #[(.slice ca cs.length cc)] 108∧Blk W5 bb (R6 x sa sc (some ⟨ab,ao,none⟩) ac) 26∧Blk W5 br #[(I6 0),(.slice none 0 0),(.slice none 0 0)] 34∧Blk W5 ba #[(I6 d.start),(.slice ea d.accept.length ec),(.slice na d.next.length nc)] 34∧(i≤x.args.length - 1)∧(W5.ownsRow n1 34 3 (.slice la i lc) i ae.flatten)∧(zDe T W5 ds ae)∧(ds.length=i)∧(∀e∈ds,GoodD cs.length e)∧(trL cs.length cs (x.args.take (i+1))=some (d::ds))∧(zBW (fun b=>w0.heap.size≤b∧b≠ba∧b≠br∧b<n1) W5 d [.int .i64 d.start,.slice ea d.accept.length ec,.slice na d.next.length nc])∧(n1≤W5.heap.size)∧(∀y,T y→n1≤y∧y<W5.heap.size)∧(∀b,(Value.slice la i lc).ownBlock=some b→¬T b)∧nn_=x.args.length - 1 - i) (n:=x.args.length - 1 - 0) ?_ ?_))))
 ·exact ⟨0,none,0,[],[],(fun _=>False),zAz.out ⟨rfl,rfl,rfl,rfl,rfl,rfl,rfl,rfl,trivial⟩,E,ad,Bb,Br,Ba,Nat.zero_le _,World.ownsRow_nil _ _ _ _,zDe.nil,rfl,(fun e h=>by cases h),(by rw[cl];exact zEi (ts:=[]) (ds:=[]) hd (by simp[trL])),cq,(by rw[am];exact Nat.le_refl _),(fun y h=>h.elim),(fun b _ h=>h),rfl⟩
 ·clear E ad Bb Br Ba;rintro _ _ W5 ⟨i,la,lc,ae,ds,T,⟨j5,rfl⟩,E,ad,Bb,Br,Ba,hi,hO,hR,a6,hG,bp,hD,ak,hT,bm,rfl⟩;refine zAA (qV (zBF rfl rfl) (zAB (zAH (qC rfl (fun a4=>?_) (fun a4=>?_)))))
  ·obtain ⟨z,hz⟩:=zAN (l:=x.args) (i:=i+1) qO;obtain ⟨uz,cb,bs⟩:=aq.get hz;have bk:=bs;obtain ⟨az,a1,a2,a0,rfl,_,_,_⟩:=bs.form;refine zAO (zAC (zAH (zAS (zAA (qV (zAD (b:=ab) (o:=ao+1*6) (len:=x.args.length - 1) (cap:=ac - 1) (i:=i) (o':=ao+1*6+i*6) rfl rfl rfl underlying24 zAw qO qO) (qV (zAK (vs:=[(I6 z.kind),(.slice az z.set.length a1),(.slice a2 z.args.length a0),(I6 z.mn),(I6 z.mx),(.bool z.neg)]) rfl zBc zAw rfl ((by have h9:=cb.ext E;rwa [show ao+(i+1)*6=ao+1*6+i*6 by omega] at h9))) (zAd (v:=(.agg (R6 z az a1 a2 a0))) (c:=(R6 z az a1 a2 a0)) (n:=6) qD zEH rfl zAw rfl rfl rfl qS ?_)))))));intro bu wu Nu;have Fu:=Nu.ge E;have Ou_bt:=Nu.lt ad;have Ou_bb:=Nu.lt Bb;have Ou_br:=Nu.lt Br;have Ou_ba:=Nu.lt Ba;replace ad:=Nu.keep ad;replace Bb:=Nu.keep Bb;replace Br:=Nu.keep Br;replace Ba:=Nu.keep Ba;replace hO:=zAj hO Nu.ext;replace hR:=hR.ext Nu.ext;replace ak:=Nat.le_trans ak Nu.ext.size;replace hD:=hD.ext Nu.ext;replace hT:=zEm hT Nu.ext;replace E:=E.ext Nu.ext;have Bu:=Nu.blk;refine zAB (zAF (qM _ rfl (qM _ rfl (qV (zAK (vs:=[(I6 z.kind),(.slice az z.set.length a1),(.slice a2 z.args.length a0),(I6 z.mn),(I6 z.mx),(.bool z.neg)]) rfl zBc zAw rfl (Bu.cells rfl)) ?_))));obtain ⟨n2,bq⟩:∃n2,n2=(wu).heap.size:=⟨_,rfl⟩;have cv:n1≤n2:=by rw[bq];exact ak
   have b7:∀b,(Value.slice la i lc).ownBlock=some b→n1≤b∧b<n2:=fun b hb=>⟨(hO.lt b hb).1,by rw[bq];exact (hO.lt b hb).2⟩;refine zBd rfl rfl qD (zAQ func70 kQ kQ rfl) (((hof z (List.mem_of_getElem? hz) _ bt ca cc _ ad (hC.ext E) (zBB.ext E z bk)).mono (R':=fun r w'=>(∃d,trO cs.length cs z=some d∧GoodD cs.length d∧d.next.length≤200∧zJb (fun b=>n2≤b) d r w')∧Ext _ w') (fun r w' h=>⟨by obtain ⟨d,h1,h2,h3,h4⟩:=h.1;exact ⟨d,h1,h2,h3,h4.mono fun b hb=>by rw[bq];exact hb.1⟩,h.2⟩) (fun _ h=>h))) (fun w' h=>And.intro rfl ⟨zIv a5 (zEj hz h.1),E.ext h.2⟩) ?_;rintro _ a3 ⟨⟨e,he,ge,he2,fa,fc,ga,gc,rfl,ar⟩,af⟩;replace ad:=af.keep ad;replace Bb:=af.keep Bb;replace Br:=af.keep Br;replace Ba:=af.keep Ba;replace Bu:=af.keep Bu;replace hO:=zAj hO af;replace hR:=hR.ext af;replace ak:=Nat.le_trans ak af.size;replace hD:=hD.ext af;replace hT:=zEm hT af;replace E:=E.ext af;replace ar:=zBW.chg ar (Chg.refl zAh _) (fun _ _ _ f=>f);refine zAc (ps:=[(0,(.agg #[(I6 e.start),(.slice fa e.accept.length fc),(.slice ga e.next.length gc)]))]) (c:=#[(I6 e.start),(.slice fa e.accept.length fc),(.slice ga e.next.length gc)]) qD rfl underlying177 zAe zBf qD qD qK ?_;intro bz wz Nz;have Fz:=Nz.ge E;have Oz_bt:=Nz.lt ad;have Oz_bb:=Nz.lt Bb;have Oz_br:=Nz.lt Br;have Oz_ba:=Nz.lt Ba;have Oz_bu:=Nz.lt Bu;replace ad:=Nz.keep ad;replace Bb:=Nz.keep Bb;replace Br:=Nz.keep Br;replace Ba:=Nz.keep Ba;replace Bu:=Nz.keep Bu;replace hO:=zAj hO Nz.ext;replace hR:=hR.ext Nz.ext;replace ak:=Nat.le_trans ak Nz.ext.size;replace hD:=hD.ext Nz.ext;replace hT:=zEm hT Nz.ext;replace ar:=ar.ext Nz.ext;replace E:=E.ext Nz.ext;have Bz:=Nz.blk;have hQ9:True:=trivial;refine zBp (base:=n1) (n:=i) (m:=1) (xs:=ae.flatten) (news:=[(I6 e.start),(.slice fa e.accept.length fc),(.slice ga e.next.length gc)]) (size:=3) (bytes:=56) (v:=(.slice la i lc)) qD underlying177 zAe zUw zBf rfl qD rfl hO rfl (rfl) (Bz.cells rfl) qS (by unfold maxLen;omega) qO (ak) ?_;intro v9 a7 b2 ai cd;replace ad:=ai.keep (fun h=>by have:=(hO.lt _ h).1;omega) ad;replace Bb:=ai.keep (fun h=>by have:=(hO.lt _ h).1;omega) Bb;replace Br:=ai.keep (fun h=>by have:=(hO.lt _ h).1;omega) Br;replace Ba:=ai.keep (fun h=>by have:=(hO.lt _ h).1;omega) Ba;replace E:=E.step ai (fun x hx h=>absurd (hO.lt x h).1 qO);obtain ⟨cr,cm,rfl⟩:=zBO b2;have hz1:=Nz.ext.size;have hz2:=ai.size;have hz3:=af.size;have ay:∀y,(T y∨(n2≤y∧y<a3.heap.size))→n1≤y∧y<(a7).heap.size∧(Value.slice la i lc).ownBlock≠some y:=by
    intro y hy;rcases hy with hy|⟨hy,hy2⟩
    ·exact ⟨(hT y hy).1,by have:=(hT y hy).2;omega,fun hb=>bm y hb hy⟩
    ·exact ⟨qO,qO,fun hb=>by have:=b7 y hb;omega⟩
   have cj:zDe (fun y=>T y∨(n2≤y∧y<a3.heap.size)) (a7) (ds++[e]) (ae++[dfV e fa fc ga gc]):=((hR.chg ai fun y hy hm=>bm y hm hy).mono fun y hy=>.inl hy).snoc ((ar.put ai fun y hy hm=>(ay y (.inr hy)).2.2 hm).mono fun y hy=>.inr hy);refine qA _ rfl (zAB (zAR (zAC (zAF (qV (zAv rfl rfl (zBb qO)) (qM _ rfl (zAB (zAC ?_))))))));exact ⟨x.args.length - 1 - (i+1),qO,i+1,cr,cm,ae++[dfV e fa fc ga gc],ds++[e],(fun y=>T y∨(n2≤y∧y<a3.heap.size)),zAz.out ⟨rfl,rfl,rfl,rfl,rfl,rfl,rfl,rfl,trivial⟩,E,ad,Bb,Br,Ba,qO,(by simpa[dfV] using b2),cj,(by simp[a6]),(fun d9 h9=>by rcases List.mem_append.1 h9 with h8|h8;exact hG d9 h8;rw[List.mem_singleton.1 h8];exact ge),(by rw[List.take_add_one,hz,Option.toList_some];exact zEi he bp),hD.put ai (fun y hy hm=>by have:=(b7 y hm).1;have:=hy.2.2.2;omega),Nat.le_trans ak ai.size,(fun y hy=>⟨(ay y hy).1,(ay y hy).2.1⟩),(fun b hb hy=>by rcases cd b hb with h|h;exact (ay b hy).2.2 h;rcases hy with hy|hy;have:=(hT b hy).2;omega;have:=hy.2;omega),rfl⟩
  ·have b0:i=x.args.length - 1:=qO
   rw[b0] at hO a6 bp bm;rw[b0];have bf:trL cs.length cs x.args=some (d::ds):=by rw[←bp,List.take_of_length_le qO]
   have av:=zRK (cs:=cs) (c:=cs.length) a5 bf;refine zAn (zAT (zAT (zAg (zAC (zAH (zAA (qM _ rfl (qV (zAJ underlying177 rfl) (qM _ rfl (zAB (zAS (zAp (fun nn_ σ W7=>∃(j:Nat) (D:Dfa) (pa qa:Option Addr) (pc qc:Nat),(∃jj_,σ=zCT jj_ [(3,(P6 bb 0)),(4,(P6 br 0)),(9,(P6 ba 0)),(97,(.slice la (x.args.length - 1) lc)),(98,(I6 ((x.args.length - 1:Nat):Int))),(99,(I6 (j:Int)))])∧Chg zAh w0 W7∧Blk W7 bt #[(.slice ca cs.length cc)] 108∧Blk W7 bb (R6 x sa sc (some ⟨ab,ao,none⟩) ac) 26∧Blk W7 br #[(I6 0),(.slice none 0 0),(.slice none 0 0)] 34∧Blk W7 ba (#[.int .i64 D.start,.slice pa D.accept.length pc,.slice qa D.next.length qc]) 34∧(j≤x.args.length - 1)∧(foldK cs.length x.kind d (ds.take j)=some D)∧(GoodD cs.length D)∧(zBW (fun b=>w0.heap.size≤b∧b≠ba∧b≠br) W7 D [.int .i64 D.start,.slice pa D.accept.length pc,.slice qa D.next.length qc])∧(zDe T W7 ds ae)∧(W7.ownsRow n1 34 3 (.slice la (x.args.length - 1) lc) (x.args.length - 1) ae.flatten)∧nn_=x.args.length - 1 - j) (n:=x.args.length - 1 - 0) ?_ ?_))))))))))))
   ·exact ⟨0,d,ea,na,ec,nc,zAz.out ⟨rfl,rfl,rfl,rfl,rfl,rfl,trivial⟩,E,ad,Bb,Br,Ba,Nat.zero_le _,rfl,gd,(hD.mono fun b hb=>⟨hb.1,hb.2.1,hb.2.2.1⟩),hR,hO,rfl⟩
   ·clear E ad Bb Br Ba;rintro _ _ W7 ⟨j,D,pa,qa,pc,qc,⟨j7,rfl⟩,E,ad,Bb,Br,Ba,hj,hf,gD,ah,hR,hO,rfl⟩;refine zAA (qV (zBF rfl rfl) (zAB (zAH (qC rfl (fun be=>?_) (fun be=>?_)))))
    ·obtain ⟨e,he⟩:=zAN (l:=ds) (i:=j) qO;obtain ⟨fa,fc,ga,gc,aw,al⟩:=hR.2.2 j e he;unfold dfV at aw al;obtain ⟨ob,oo,rfl,ap⟩:=zCI.at (zDS hO hR.2.1 (by rw[hR.1,a6]) qD) qO;refine zAO (zAC (zAH (zAS (zAA (qV (zAD (b:=ob) (o:=oo) (len:=x.args.length - 1) (cap:=lc) (i:=j) (o':=oo+j*3) rfl rfl rfl underlying177 zAe qO qO) (qV (zAK rfl zAx zAe rfl (ap j _ aw)) (zAd (v:=(.agg #[(I6 e.start),(.slice fa e.accept.length fc),(.slice ga e.next.length gc)])) (c:=#[(I6 e.start),(.slice fa e.accept.length fc),(.slice ga e.next.length gc)]) (n:=3) qD zBf rfl zAe rfl rfl rfl qS ?_)))))));intro bv wv Nv;have Fv:=Nv.ge E;have Ov_bt:=Nv.lt ad;have Ov_bb:=Nv.lt Bb;have Ov_br:=Nv.lt Br;have Ov_ba:=Nv.lt Ba;replace ad:=Nv.keep ad;replace Bb:=Nv.keep Bb;replace Br:=Nv.keep Br;replace Ba:=Nv.keep Ba;replace hO:=zAj hO Nv.ext;replace hR:=hR.ext Nv.ext;replace ah:=ah.ext Nv.ext;replace al:=al.ext Nv.ext;replace E:=E.ext Nv.ext;have Bv:=Nv.blk;refine zAB (zAA (qF bb 0 0 rfl underlying26 rfl zAy rfl (qV (zAI rfl zAo (Bb.cell rfl)) (zAB (zAS (zAA (qV (zAs rfl rfl) (qA _ rfl (zAB (zAP (cbk b3) (zAF (qV (zAK (vs:=[(I6 D.start),(.slice pa D.accept.length pc),(.slice qa D.next.length qc)]) rfl zAx zAe rfl (Ba.cells rfl)) (qV (zAK (vs:=[(I6 e.start),(.slice fa e.accept.length fc),(.slice ga e.next.length gc)]) rfl zAx zAe rfl (Bv.cells rfl)) (qF bb 0 0 rfl underlying26 rfl zAy rfl (qV (zAI rfl zAo (Bb.cell rfl)) (qV (zAs rfl rfl) ?_))))))))))))))));obtain ⟨n8,a8⟩:∃n8,n8=(wv).heap.size:=⟨_,rfl⟩;have ck:ba<n8∧br<n8∧w0.heap.size≤n8:=⟨by rw[a8];exact Ba.lt,by rw[a8];exact Br.lt,by rw[a8];exact E.size⟩;obtain ⟨o9,bn⟩:∃o9,o9=prsO cs.length (decide (x.kind=7)) D e:=⟨_,rfl⟩;refine qE rfl (zAQ func86 kQ kQ rfl) ((zTG _ cs.length D e _ _ (decide (x.kind=7)) gD (hG e (List.mem_of_getElem? he)) ah.at' al.at' hc).mono (R':=fun r w'=>opG cs.length (fun b=>w0.heap.size≤b∧b≠ba∧b≠br) o9 r w'∧Ext _ w') (fun r w' h=>⟨by rw[bn];exact h.1.mono fun b hb=>⟨by have:=hb.1;omega,by have:=hb.1;omega,by have:=hb.1;omega⟩,h.2⟩)) ?_;rintro _ w29 ⟨⟨s9,bh,bg,bi,a9,rfl,co⟩,aj⟩;replace ad:=aj.keep ad;replace Bb:=aj.keep Bb;replace Br:=aj.keep Br;replace Ba:=aj.keep Ba;replace Bv:=aj.keep Bv;replace hO:=zAj hO aj;replace hR:=hR.ext aj;replace ah:=ah.ext aj;replace al:=al.ext aj;replace E:=E.ext aj;refine qV (zAa rfl rfl) (qV (zAa rfl rfl) (zBd rfl rfl qD (zAQ func153 kQ kQ rfl) (zHq _ o9.isSome s9.start bh bg s9.accept.length bi s9.next.length a9) (fun w' h=>And.intro rfl ⟨by rw[av];exact zGk he hf ((zRi qO).trans (bn.symm.trans (Option.not_isSome_iff_eq_none.1 (by rw[h.1];decide)))),E.ext h.2⟩) ?_));rintro _ a7 ⟨⟨b9,rfl⟩,ag⟩;replace ad:=ag.keep ad;replace Bb:=ag.keep Bb;replace Br:=ag.keep Br;replace Ba:=ag.keep Ba;replace Bv:=ag.keep Bv;replace hO:=zAj hO ag;replace hR:=hR.ext ag;replace ah:=ah.ext ag;replace al:=al.ext ag;replace E:=E.ext ag;obtain ⟨D9,bj⟩:=Option.isSome_iff_exists.1 b9;obtain ⟨cg,cf,cx⟩:=co D9 bj;rw[cg] at bj;have bc:=cx.ext ag;refine zAb (b:=ba) (o:=0) (c':=#[(I6 s9.start),(.slice bh s9.accept.length bi),(.slice bg s9.next.length a9)]) rfl rfl qS zAe rfl Ba qL rfl ?_;intro w9 S9;replace hO:=zAq hO S9.chg (fun y hy h=>by have h':y=ba:=h;have:=(hO.lt y hy).1;omega);replace hR:=hR.chg S9.chg (fun y hy h=>by have h':y=ba:=h;have:=hT y hy;omega);replace bc:=bc.put S9.chg (fun y hy h=>hy.2.1 h);replace ad:=S9.keep qO ad;replace Bb:=S9.keep qO Bb;replace Br:=S9.keep qO Br;replace Bv:=S9.keep qO Bv;replace E:=S9.step E qQ;replace Ba:=S9.blk;refine zAB (zAR (zAR (zAC (zAF (qV (zAv rfl rfl (zBb qO)) (qM _ rfl (zAB (zAC ?_))))))));exact ⟨x.args.length - 1 - (j+1),qO,j+1,s9,bh,bg,bi,a9,zAz.out ⟨rfl,rfl,rfl,rfl,rfl,rfl,trivial⟩,E,ad,Bb,Br,Ba,qO,(by rw[zFU he hf];exact (zRi qO).trans (bn.symm.trans bj)),cf,bc,hR,hO,rfl⟩
    ·have cu:j=ds.length:=qO
     rw[cu,List.take_length] at hf;refine zAn (zAT (zAT (zAg (zAC (zAA (qV (zAK (vs:=[(I6 D.start),(.slice pa D.accept.length pc),(.slice qa D.next.length qc)]) rfl zAx zAe rfl (Ba.cells rfl)) (zAb (b:=br) (o:=0) (c':=#[(I6 D.start),(.slice pa D.accept.length pc),(.slice qa D.next.length qc)]) rfl rfl qS zAe rfl Br qL rfl ?_)))))));intro w10 an;replace ah:=ah.put an.chg (fun y hy h=>hy.2.2 h);replace ad:=an.keep qO ad;replace Bb:=an.keep qO Bb;replace Ba:=an.keep qO Ba;replace E:=an.step E qQ;replace Br:=an.blk;refine zAB (zAV (zAi (zAU (zCo (zBm results105 (vs:=[(.int .i64 D.start),(.slice pa D.accept.length pc),(.slice qa D.next.length qc)]) (b:=br) rfl zAx zAe rfl (Br.cells rfl) ?_)))));exact ⟨⟨D,av.trans hf,gD,_,_,_,_,rfl,(zBW.chg ah (Chg.refl zAh _) fun _ _ _ f=>f).mono fun b hb=>⟨hb.1.1,hb.2⟩⟩,E⟩
theorem zTg (cs:List (List Sp)) (x:Re) (hc:1≤cs.length∧cs.length≤16) (hN:NodeI x) (hk:x.kind=7) (hla:x.args.length≤1000000) (hof:∀y∈x.args,zIm cs.length cs y):zIX cs.length cs x:=by
 intro w0 bt ca cc vs ad hC ht;have ht0:=ht;obtain ⟨sa,sc,aa,ac,rfl,ct,ce,av⟩:=ht.form;have hcl:cs.length≤16:=hc.2;have h2:=hN.two qO;obtain ⟨y,hy⟩:=zAN (l:=x.args) (i:=0) qO;obtain ⟨ab,ao,rfl,ar⟩:=zFo av qO;obtain ⟨us,cp,b0⟩:=ar.get hy;have bp:=b0;obtain ⟨bx,b5,b6,b2,rfl,_,_,_⟩:=b0.form;have cl:x.args.take 1=[]++[y]:=by rw[List.take_add_one,hy];rfl
 have a6:x.kind=3∨x.kind=4∨x.kind=7:=qO
 refine zDj func105 rfl ntmps105 (leT rfl) ?_;have E:Chg zAh w0 w0:=Chg.refl _ _;refine zAA (zBQ (v:=(.agg (R6 x sa sc (some ⟨ab,ao,none⟩) ac))) (c:=(R6 x sa sc (some ⟨ab,ao,none⟩) ac)) qD rfl rfl ?_);intro bb wb Nb;have Fb:=Nb.ge E;have Ob_bt:=Nb.lt ad;replace ad:=Nb.keep ad;replace E:=E.ext Nb.ext;have Bb:=Nb.blk;refine zBH (c:=#[(I6 0),(.slice none 0 0),(.slice none 0 0)]) qD zBf rfl ?_;intro br wr Nr;have Fr:=Nr.ge E;have Or_bt:=Nr.lt ad;have Or_bb:=Nr.lt Bb;replace ad:=Nr.keep ad;replace Bb:=Nr.keep Bb;replace E:=E.ext Nr.ext;have Br:=Nr.blk;refine zAB (zAA (qM _ rfl (qV (zBh rfl) (qF bt 0 0 rfl underlying108 rfl zHK rfl (qV (zAI rfl zDY (ad.cell rfl)) (qV (zAJ underlying35 rfl) (qA _ rfl (zAB (zAH (zAA (qF bb 0 0 rfl underlying26 rfl zAy rfl (qV (zAI rfl zAo (Bb.cell rfl)) (zAB (zAS (zAA (qV (zAs rfl rfl) (qA _ rfl (zAB ?_))))))))))))))))));have ch:(decide ((x.kind:Int)=1))=false:=decide_eq_false qO;refine zAP (cbk ch) (zAA (qV (zAs rfl rfl) (qA _ rfl (zAB ?_))));have cn:(decide ((x.kind:Int)=2))=false:=decide_eq_false qO;refine zAP (cbk cn) (zAH (zAA (qV (zAs rfl rfl) (qA _ rfl (zAB ?_)))));have b4:(decide ((x.kind:Int)=3))=false:=decide_eq_false qO;refine zAP (cbk b4) (zAA (qV (zAs rfl rfl) (qA _ rfl (zAB ?_))));have cw:(decide ((x.kind:Int)=4))=false:=decide_eq_false qO;refine zAP (cbk cw) (zAF (qV (zAs rfl rfl) (qA _ rfl (zAB (zAC ?_)))));have cv:(decide ((x.kind:Int)=7))=true:=decide_eq_true hk;refine zAk (cbk cv) (zAA (qM _ rfl (qF bb 0 2 rfl underlying26 rfl zFw rfl (qV (zAI (v:=(.slice (some ⟨ab,ao,none⟩) x.args.length ac)) rfl zEQ (Bb.cell rfl)) (qV (zAD (b:=ab) (o:=ao) (len:=x.args.length) (cap:=ac) (i:=0) (o':=ao+0*6) rfl rfl rfl underlying24 zAw qO qO) (qV (zAK (vs:=[(I6 y.kind),(.slice bx y.set.length b5),(.slice b6 y.args.length b2),(I6 y.mn),(I6 y.mx),(.bool y.neg)]) rfl zBc zAw rfl (cp.ext E)) ?_))))));obtain ⟨n9,be⟩:∃n9,n9=(wr).heap.size:=⟨_,rfl⟩;have ci:br<n9∧w0.heap.size≤n9:=⟨by rw[be];exact Br.lt,by rw[be];exact E.size⟩;refine zBd rfl rfl qD (zAQ (vs:=[(P6 bt 0),(.agg (R6 y bx b5 b6 b2))]) func70 kQ kQ rfl) (((hof y (List.mem_of_getElem? hy) _ bt ca cc _ ad (hC.ext E) (zBB.ext E y bp)).mono (R':=fun r w'=>(∃d,trO cs.length cs y=some d∧GoodD cs.length d∧d.next.length≤200∧zJb (fun b=>n9≤b) d r w')∧Ext _ w') (fun r w' h=>⟨by obtain ⟨d,h1,h2,h3,h4⟩:=h.1;exact ⟨d,h1,h2,h3,h4.mono fun b hb=>by rw[be];exact hb.1⟩,h.2⟩) (fun _ h=>h))) (fun w' h=>And.intro rfl ⟨zIv a6 (zEj hy h.1),E.ext h.2⟩) ?_;rintro _ w9 ⟨⟨d,hd,gd,hd2,ea,ec,na,nc,rfl,hD⟩,X9⟩;replace ad:=X9.keep ad;replace Bb:=X9.keep Bb;replace Br:=X9.keep Br;replace E:=E.ext X9;have b8:∃m9,m9=w9.heap.size:=⟨_,rfl⟩;obtain ⟨m9,cy⟩:=b8;replace hD:=zBW.chg hD (Chg.refl zAh _) (fun _ _ _ f=>f);rw[←cy] at hD;refine zAd (v:=(.agg #[(I6 d.start),(.slice ea d.accept.length ec),(.slice na d.next.length nc)])) (c:=#[(I6 d.start),(.slice ea d.accept.length ec),(.slice na d.next.length nc)]) (n:=3) qD zBf rfl zAe rfl rfl rfl qS ?_;intro ba wa Na;have Fa:=Na.ge E;have Oa_bt:=Na.lt ad;have Oa_bb:=Na.lt Bb;have Oa_br:=Na.lt Br;replace ad:=Na.keep ad;replace Bb:=Na.keep Bb;replace Br:=Na.keep Br;replace hD:=hD.ext Na.ext;replace E:=E.ext Na.ext;have Ba:=Na.blk;refine zAB (zAA (qA (.slice none 0 0) rfl (zAB (zAH (zAA (qF bb 0 2 rfl underlying26 rfl zFw rfl (qV (zAI (v:=(.slice (some ⟨ab,ao,none⟩) x.args.length ac)) rfl zEQ (Bb.cell rfl)) ?_)))))));obtain ⟨sl,ay⟩:∃a':Option Addr,(if ac=1 then (some ⟨ab,ao,none⟩) else Option.map (fun q:Addr=>q.add (1*6)) (some ⟨ab,ao,none⟩))=a':=⟨_,rfl⟩;refine qV (zFC (a:=(some ⟨ab,ao,none⟩)) (len:=x.args.length) (cap:=ac) (lo:=1) (l:=1) (n':=(x.args.length - 1)) (c':=(ac - 1)) underlying24 zAw rfl rfl qO qO ay qO qO) ?_;rw[if_neg qO] at ay;simp only[Option.map_some,Addr.add_lit] at ay;subst ay;obtain ⟨n1,an⟩:∃n1,n1=(wa).heap.size:=⟨_,rfl⟩;have hob:br<n1∧ba<n1∧w0.heap.size≤n1∧br<n9∧m9≤ba∧w0.heap.size≤ba∧w0.heap.size≤br∧br<ba∧bb<n1∧bt<n1:=⟨by rw[an];exact Br.lt,by rw[an];exact Ba.lt,by rw[an];exact E.size,ci.1,by have:=Na.eq;omega,qO,qO,by have:=Na.eq;have:=X9.size;omega,by rw[an];exact Bb.lt,by rw[an];exact ad.lt⟩;have cq:zBW (fun b=>w0.heap.size≤b∧b≠ba∧b≠br∧b<n1) (wa) d [.int .i64 d.start,.slice ea d.accept.length ec,.slice na d.next.length nc]:=hD.mono fun b hb=>⟨by have:=hb.1;omega,by have:=hb.2;omega,by have:=hb.1;omega,by have:=hb.2;omega⟩;refine qV (zAJ underlying24 rfl) (qM _ rfl (zAB (zAS (zAp (fun nn_ σ W6=>∃(i:Nat) (la:Option Addr) (lc:Nat) (ae:List (List Value)) (ds:List Dfa) (T:Nat→Prop),(∃jj_,σ=zCT jj_ [(0,(P6 bt 0)),(3,(P6 bb 0)),(4,(P6 br 0)),(9,(P6 ba 0)),(84,(.slice (some ⟨ab,ao+1*6,none⟩) (x.args.length - 1) (ac - 1))),(85,(I6 ((x.args.length - 1:Nat):Int))),(86,(I6 (i:Int))),(10,(.slice la i lc))])∧Chg zAh w0 W6∧Blk W6 bt #[(.slice ca cs.length cc)] 108∧Blk W6 bb (R6 x sa sc (some ⟨ab,ao,none⟩) ac) 26∧Blk W6 br #[(I6 0),(.slice none 0 0),(.slice none 0 0)] 34∧Blk W6 ba #[(I6 d.start),(.slice ea d.accept.length ec),(.slice na d.next.length nc)] 34∧(i≤x.args.length - 1)∧(W6.ownsRow n1 34 3 (.slice la i lc) i ae.flatten)∧(zDe T W6 ds ae)∧(ds.length=i)∧(∀e∈ds,GoodD cs.length e)∧(trL cs.length cs (x.args.take (i+1))=some (d::ds))∧(zBW (fun b=>w0.heap.size≤b∧b≠ba∧b≠br∧b<n1) W6 d [.int .i64 d.start,.slice ea d.accept.length ec,.slice na d.next.length nc])∧(n1≤W6.heap.size)∧(∀y,T y→n1≤y∧y<W6.heap.size)∧(∀b,(Value.slice la i lc).ownBlock=some b→¬T b)∧nn_=x.args.length - 1 - i) (n:=x.args.length - 1 - 0) ?_ ?_))))
 ·exact ⟨0,none,0,[],[],(fun _=>False),zAz.out ⟨rfl,rfl,rfl,rfl,rfl,rfl,rfl,rfl,trivial⟩,E,ad,Bb,Br,Ba,Nat.zero_le _,World.ownsRow_nil _ _ _ _,zDe.nil,rfl,(fun e h=>by cases h),(by rw[cl];exact zEi (ts:=[]) (ds:=[]) hd (by simp[trL])),cq,(by rw[an];exact Nat.le_refl _),(fun y h=>h.elim),(fun b _ h=>h),rfl⟩
 ·clear E ad Bb Br Ba;rintro _ _ W6 ⟨i,la,lc,ae,ds,T,⟨j6,rfl⟩,E,ad,Bb,Br,Ba,hi,hO,hR,a7,hG,bq,hD,al,hT,bn,rfl⟩;refine zAA (qV (zBF rfl rfl) (zAB (zAH (qC rfl (fun a5=>?_) (fun a5=>?_)))))
  ·obtain ⟨z,hz⟩:=zAN (l:=x.args) (i:=i+1) qO;obtain ⟨uz,cb,bw⟩:=ar.get hz;have bm:=bw;obtain ⟨a0,a2,a3,a1,rfl,_,_,_⟩:=bw.form;refine zAO (zAC (zAH (zAS (zAA (qV (zAD (b:=ab) (o:=ao+1*6) (len:=x.args.length - 1) (cap:=ac - 1) (i:=i) (o':=ao+1*6+i*6) rfl rfl rfl underlying24 zAw qO qO) (qV (zAK (vs:=[(I6 z.kind),(.slice a0 z.set.length a2),(.slice a3 z.args.length a1),(I6 z.mn),(I6 z.mx),(.bool z.neg)]) rfl zBc zAw rfl ((by have h9:=cb.ext E;rwa [show ao+(i+1)*6=ao+1*6+i*6 by omega] at h9))) (zAd (v:=(.agg (R6 z a0 a2 a3 a1))) (c:=(R6 z a0 a2 a3 a1)) (n:=6) qD zEH rfl zAw rfl rfl rfl qS ?_)))))));intro bu wu Nu;have Fu:=Nu.ge E;have Ou_bt:=Nu.lt ad;have Ou_bb:=Nu.lt Bb;have Ou_br:=Nu.lt Br;have Ou_ba:=Nu.lt Ba;replace ad:=Nu.keep ad;replace Bb:=Nu.keep Bb;replace Br:=Nu.keep Br;replace Ba:=Nu.keep Ba;replace hO:=zAj hO Nu.ext;replace hR:=hR.ext Nu.ext;replace al:=Nat.le_trans al Nu.ext.size;replace hD:=hD.ext Nu.ext;replace hT:=zEm hT Nu.ext;replace E:=E.ext Nu.ext;have Bu:=Nu.blk;refine zAB (zAF (qM _ rfl (qM _ rfl (qV (zAK (vs:=[(I6 z.kind),(.slice a0 z.set.length a2),(.slice a3 z.args.length a1),(I6 z.mn),(I6 z.mx),(.bool z.neg)]) rfl zBc zAw rfl (Bu.cells rfl)) ?_))));obtain ⟨n2,bs⟩:∃n2,n2=(wu).heap.size:=⟨_,rfl⟩;have cx:n1≤n2:=by rw[bs];exact al
   have b7:∀b,(Value.slice la i lc).ownBlock=some b→n1≤b∧b<n2:=fun b hb=>⟨(hO.lt b hb).1,by rw[bs];exact (hO.lt b hb).2⟩;refine zBd rfl rfl qD (zAQ func70 kQ kQ rfl) (((hof z (List.mem_of_getElem? hz) _ bt ca cc _ ad (hC.ext E) (zBB.ext E z bm)).mono (R':=fun r w'=>(∃d,trO cs.length cs z=some d∧GoodD cs.length d∧d.next.length≤200∧zJb (fun b=>n2≤b) d r w')∧Ext _ w') (fun r w' h=>⟨by obtain ⟨d,h1,h2,h3,h4⟩:=h.1;exact ⟨d,h1,h2,h3,h4.mono fun b hb=>by rw[bs];exact hb.1⟩,h.2⟩) (fun _ h=>h))) (fun w' h=>And.intro rfl ⟨zIv a6 (zEj hz h.1),E.ext h.2⟩) ?_;rintro _ a4 ⟨⟨e,he,ge,he2,fa,fc,ga,gc,rfl,au⟩,af⟩;replace ad:=af.keep ad;replace Bb:=af.keep Bb;replace Br:=af.keep Br;replace Ba:=af.keep Ba;replace Bu:=af.keep Bu;replace hO:=zAj hO af;replace hR:=hR.ext af;replace al:=Nat.le_trans al af.size;replace hD:=hD.ext af;replace hT:=zEm hT af;replace E:=E.ext af;replace au:=zBW.chg au (Chg.refl zAh _) (fun _ _ _ f=>f);refine zAc (ps:=[(0,(.agg #[(I6 e.start),(.slice fa e.accept.length fc),(.slice ga e.next.length gc)]))]) (c:=#[(I6 e.start),(.slice fa e.accept.length fc),(.slice ga e.next.length gc)]) qD rfl underlying177 zAe zBf qD qD qK ?_;intro bz wz Nz;have Fz:=Nz.ge E;have Oz_bt:=Nz.lt ad;have Oz_bb:=Nz.lt Bb;have Oz_br:=Nz.lt Br;have Oz_ba:=Nz.lt Ba;have Oz_bu:=Nz.lt Bu;replace ad:=Nz.keep ad;replace Bb:=Nz.keep Bb;replace Br:=Nz.keep Br;replace Ba:=Nz.keep Ba;replace Bu:=Nz.keep Bu;replace hO:=zAj hO Nz.ext;replace hR:=hR.ext Nz.ext;replace al:=Nat.le_trans al Nz.ext.size;replace hD:=hD.ext Nz.ext;replace hT:=zEm hT Nz.ext;replace au:=au.ext Nz.ext;replace E:=E.ext Nz.ext;have Bz:=Nz.blk;have hQ9:True:=trivial;refine zBp (base:=n1) (n:=i) (m:=1) (xs:=ae.flatten) (news:=[(I6 e.start),(.slice fa e.accept.length fc),(.slice ga e.next.length gc)]) (size:=3) (bytes:=56) (v:=(.slice la i lc)) qD underlying177 zAe zUw zBf rfl qD rfl hO rfl (rfl) (Bz.cells rfl) qS (by unfold maxLen;omega) qO (al) ?_;intro v9 a8 b3 ai cd;replace ad:=ai.keep (fun h=>by have:=(hO.lt _ h).1;omega) ad;replace Bb:=ai.keep (fun h=>by have:=(hO.lt _ h).1;omega) Bb;replace Br:=ai.keep (fun h=>by have:=(hO.lt _ h).1;omega) Br;replace Ba:=ai.keep (fun h=>by have:=(hO.lt _ h).1;omega) Ba;replace E:=E.step ai (fun x hx h=>absurd (hO.lt x h).1 qO);obtain ⟨cr,cm,rfl⟩:=zBO b3;have hz1:=Nz.ext.size;have hz2:=ai.size;have hz3:=af.size;have az:∀y,(T y∨(n2≤y∧y<a4.heap.size))→n1≤y∧y<(a8).heap.size∧(Value.slice la i lc).ownBlock≠some y:=by
    intro y hy;rcases hy with hy|⟨hy,hy2⟩
    ·exact ⟨(hT y hy).1,by have:=(hT y hy).2;omega,fun hb=>bn y hb hy⟩
    ·exact ⟨qO,qO,fun hb=>by have:=b7 y hb;omega⟩
   have cj:zDe (fun y=>T y∨(n2≤y∧y<a4.heap.size)) (a8) (ds++[e]) (ae++[dfV e fa fc ga gc]):=((hR.chg ai fun y hy hm=>bn y hm hy).mono fun y hy=>.inl hy).snoc ((au.put ai fun y hy hm=>(az y (.inr hy)).2.2 hm).mono fun y hy=>.inr hy);refine qA _ rfl (zAB (zAR (zAC (zAF (qV (zAv rfl rfl (zBb qO)) (qM _ rfl (zAB (zAC ?_))))))));exact ⟨x.args.length - 1 - (i+1),qO,i+1,cr,cm,ae++[dfV e fa fc ga gc],ds++[e],(fun y=>T y∨(n2≤y∧y<a4.heap.size)),zAz.out ⟨rfl,rfl,rfl,rfl,rfl,rfl,rfl,rfl,trivial⟩,E,ad,Bb,Br,Ba,qO,(by simpa[dfV] using b3),cj,(by simp[a7]),(fun d9 h9=>by rcases List.mem_append.1 h9 with h8|h8;exact hG d9 h8;rw[List.mem_singleton.1 h8];exact ge),(by rw[List.take_add_one,hz,Option.toList_some];exact zEi he bq),hD.put ai (fun y hy hm=>by have:=(b7 y hm).1;have:=hy.2.2.2;omega),Nat.le_trans al ai.size,(fun y hy=>⟨(az y hy).1,(az y hy).2.1⟩),(fun b hb hy=>by rcases cd b hb with h|h;exact (az b hy).2.2 h;rcases hy with hy|hy;have:=(hT b hy).2;omega;have:=hy.2;omega),rfl⟩
  ·have b1:i=x.args.length - 1:=qO
   rw[b1] at hO a7 bq bn;rw[b1];have bg:trL cs.length cs x.args=some (d::ds):=by rw[←bq,List.take_of_length_le qO]
   have aw:=zRK (cs:=cs) (c:=cs.length) a6 bg;refine zAn (zAT (zAT (zAg (zAC (zAH (zAA (qM _ rfl (qV (zAJ underlying177 rfl) (qM _ rfl (zAB (zAS (zAp (fun nn_ σ W8=>∃(j:Nat) (D:Dfa) (pa qa:Option Addr) (pc qc:Nat),(∃jj_,σ=zCT jj_ [(3,(P6 bb 0)),(4,(P6 br 0)),(9,(P6 ba 0)),(97,(.slice la (x.args.length - 1) lc)),(98,(I6 ((x.args.length - 1:Nat):Int))),(99,(I6 (j:Int)))])∧Chg zAh w0 W8∧Blk W8 bt #[(.slice ca cs.length cc)] 108∧Blk W8 bb (R6 x sa sc (some ⟨ab,ao,none⟩) ac) 26∧Blk W8 br #[(I6 0),(.slice none 0 0),(.slice none 0 0)] 34∧Blk W8 ba (#[.int .i64 D.start,.slice pa D.accept.length pc,.slice qa D.next.length qc]) 34∧(j≤x.args.length - 1)∧(foldK cs.length x.kind d (ds.take j)=some D)∧(GoodD cs.length D)∧(zBW (fun b=>w0.heap.size≤b∧b≠ba∧b≠br) W8 D [.int .i64 D.start,.slice pa D.accept.length pc,.slice qa D.next.length qc])∧(zDe T W8 ds ae)∧(W8.ownsRow n1 34 3 (.slice la (x.args.length - 1) lc) (x.args.length - 1) ae.flatten)∧nn_=x.args.length - 1 - j) (n:=x.args.length - 1 - 0) ?_ ?_))))))))))))
   ·exact ⟨0,d,ea,na,ec,nc,zAz.out ⟨rfl,rfl,rfl,rfl,rfl,rfl,trivial⟩,E,ad,Bb,Br,Ba,Nat.zero_le _,rfl,gd,(hD.mono fun b hb=>⟨hb.1,hb.2.1,hb.2.2.1⟩),hR,hO,rfl⟩
   ·clear E ad Bb Br Ba;rintro _ _ W8 ⟨j,D,pa,qa,pc,qc,⟨j8,rfl⟩,E,ad,Bb,Br,Ba,hj,hf,gD,ah,hR,hO,rfl⟩;refine zAA (qV (zBF rfl rfl) (zAB (zAH (qC rfl (fun bf=>?_) (fun bf=>?_)))))
    ·obtain ⟨e,he⟩:=zAN (l:=ds) (i:=j) qO;obtain ⟨fa,fc,ga,gc,ax,am⟩:=hR.2.2 j e he;unfold dfV at ax am;obtain ⟨ob,oo,rfl,aq⟩:=zCI.at (zDS hO hR.2.1 (by rw[hR.1,a7]) qD) qO;refine zAO (zAC (zAH (zAS (zAA (qV (zAD (b:=ob) (o:=oo) (len:=x.args.length - 1) (cap:=lc) (i:=j) (o':=oo+j*3) rfl rfl rfl underlying177 zAe qO qO) (qV (zAK rfl zAx zAe rfl (aq j _ ax)) (zAd (v:=(.agg #[(I6 e.start),(.slice fa e.accept.length fc),(.slice ga e.next.length gc)])) (c:=#[(I6 e.start),(.slice fa e.accept.length fc),(.slice ga e.next.length gc)]) (n:=3) qD zBf rfl zAe rfl rfl rfl qS ?_)))))));intro bv wv Nv;have Fv:=Nv.ge E;have Ov_bt:=Nv.lt ad;have Ov_bb:=Nv.lt Bb;have Ov_br:=Nv.lt Br;have Ov_ba:=Nv.lt Ba;replace ad:=Nv.keep ad;replace Bb:=Nv.keep Bb;replace Br:=Nv.keep Br;replace Ba:=Nv.keep Ba;replace hO:=zAj hO Nv.ext;replace hR:=hR.ext Nv.ext;replace ah:=ah.ext Nv.ext;replace am:=am.ext Nv.ext;replace E:=E.ext Nv.ext;have Bv:=Nv.blk;refine zAB (zAA (qF bb 0 0 rfl underlying26 rfl zAy rfl (qV (zAI rfl zAo (Bb.cell rfl)) (zAB (zAS (zAA (qV (zAs rfl rfl) (qA _ rfl (zAB (zAP (cbk b4) (zAF (qV (zAK (vs:=[(I6 D.start),(.slice pa D.accept.length pc),(.slice qa D.next.length qc)]) rfl zAx zAe rfl (Ba.cells rfl)) (qV (zAK (vs:=[(I6 e.start),(.slice fa e.accept.length fc),(.slice ga e.next.length gc)]) rfl zAx zAe rfl (Bv.cells rfl)) (qF bb 0 0 rfl underlying26 rfl zAy rfl (qV (zAI rfl zAo (Bb.cell rfl)) (qV (zAs rfl rfl) ?_))))))))))))))));obtain ⟨n8,a9⟩:∃n8,n8=(wv).heap.size:=⟨_,rfl⟩;have ck:ba<n8∧br<n8∧w0.heap.size≤n8:=⟨by rw[a9];exact Ba.lt,by rw[a9];exact Br.lt,by rw[a9];exact E.size⟩;obtain ⟨o9,bo⟩:∃o9,o9=prsO cs.length (decide (x.kind=7)) D e:=⟨_,rfl⟩;refine qE rfl (zAQ func86 kQ kQ rfl) ((zTG _ cs.length D e _ _ (decide (x.kind=7)) gD (hG e (List.mem_of_getElem? he)) ah.at' am.at' hc).mono (R':=fun r w'=>opG cs.length (fun b=>w0.heap.size≤b∧b≠ba∧b≠br) o9 r w'∧Ext _ w') (fun r w' h=>⟨by rw[bo];exact h.1.mono fun b hb=>⟨by have:=hb.1;omega,by have:=hb.1;omega,by have:=hb.1;omega⟩,h.2⟩)) ?_;rintro _ w29 ⟨⟨s9,bi,bh,bj,bc,rfl,co⟩,aj⟩;replace ad:=aj.keep ad;replace Bb:=aj.keep Bb;replace Br:=aj.keep Br;replace Ba:=aj.keep Ba;replace Bv:=aj.keep Bv;replace hO:=zAj hO aj;replace hR:=hR.ext aj;replace ah:=ah.ext aj;replace am:=am.ext aj;replace E:=E.ext aj;refine qV (zAa rfl rfl) (qV (zAa rfl rfl) (zBd rfl rfl qD (zAQ func153 kQ kQ rfl) (zHq _ o9.isSome s9.start bi bh s9.accept.length bj s9.next.length bc) (fun w' h=>And.intro rfl ⟨by rw[aw];exact zGk he hf ((zRi qO).trans (bo.symm.trans (Option.not_isSome_iff_eq_none.1 (by rw[h.1];decide)))),E.ext h.2⟩) ?_));rintro _ a8 ⟨⟨b9,rfl⟩,ag⟩;replace ad:=ag.keep ad;replace Bb:=ag.keep Bb;replace Br:=ag.keep Br;replace Ba:=ag.keep Ba;replace Bv:=ag.keep Bv;replace hO:=zAj hO ag;replace hR:=hR.ext ag;replace ah:=ah.ext ag;replace am:=am.ext ag;replace E:=E.ext ag;obtain ⟨D9,bk⟩:=Option.isSome_iff_exists.1 b9;obtain ⟨cg,cf,cz⟩:=co D9 bk;rw[cg] at bk;have bd:=cz.ext ag;refine zAb (b:=ba) (o:=0) (c':=#[(I6 s9.start),(.slice bi s9.accept.length bj),(.slice bh s9.next.length bc)]) rfl rfl qS zAe rfl Ba qL rfl ?_;intro w10 ak;replace hO:=zAq hO ak.chg (fun y hy h=>by have h':y=ba:=h;have:=(hO.lt y hy).1;omega);replace hR:=hR.chg ak.chg (fun y hy h=>by have h':y=ba:=h;have:=hT y hy;omega);replace bd:=bd.put ak.chg (fun y hy h=>hy.2.1 h);replace ad:=ak.keep qO ad;replace Bb:=ak.keep qO Bb;replace Br:=ak.keep qO Br;replace Bv:=ak.keep qO Bv;replace E:=ak.step E qQ;replace Ba:=ak.blk;refine zAB (zAR (zAR (zAC (zAF (qV (zAv rfl rfl (zBb qO)) (qM _ rfl (zAB (zAC ?_))))))));exact ⟨x.args.length - 1 - (j+1),qO,j+1,s9,bi,bh,bj,bc,zAz.out ⟨rfl,rfl,rfl,rfl,rfl,rfl,trivial⟩,E,ad,Bb,Br,Ba,qO,(by rw[zFU he hf];exact (zRi qO).trans (bo.symm.trans bk)),cf,bd,hR,hO,rfl⟩
    ·have cu:j=ds.length:=qO
     rw[cu,List.take_length] at hf;refine zAn (zAT (zAT (zAg (zAC (zAA (qV (zAK (vs:=[(I6 D.start),(.slice pa D.accept.length pc),(.slice qa D.next.length qc)]) rfl zAx zAe rfl (Ba.cells rfl)) (zAb (b:=br) (o:=0) (c':=#[(I6 D.start),(.slice pa D.accept.length pc),(.slice qa D.next.length qc)]) rfl rfl qS zAe rfl Br qL rfl ?_)))))));intro w11 ap;replace ah:=ah.put ap.chg (fun y hy h=>hy.2.2 h);replace ad:=ap.keep qO ad;replace Bb:=ap.keep qO Bb;replace Ba:=ap.keep qO Ba;replace E:=ap.step E qQ;replace Br:=ap.blk;refine zAB (zAV (zAi (zAU (zCo (zBm results105 (vs:=[(.int .i64 D.start),(.slice pa D.accept.length pc),(.slice qa D.next.length qc)]) (b:=br) rfl zAx zAe rfl (Br.cells rfl) ?_)))));exact ⟨⟨D,aw.trans hf,gD,_,_,_,_,rfl,(zBW.chg ah (Chg.refl zAh _) fun _ _ _ f=>f).mono fun b hb=>⟨hb.1.1,hb.2⟩⟩,E⟩
end Go.Proofs
namespace Go.Proofs
open Go Go.Eng Go.Sort
set_option maxRecDepth 100000
def drG (S:Nat→Prop) (d:Dfa):Fct:=fun r w=>∃ea ec na nc,r=.agg #[.int .i64 d.start,.slice ea d.accept.length ec,.slice na d.next.length nc]∧zBW S w d [.int .i64 d.start,.slice ea d.accept.length ec,.slice na d.next.length nc]
theorem zUn {S:Nat→Prop} {d:Dfa}:∀v w w',Ext w w'→drG S d v w→drG S d v w':=by
 rintro v w w' x ⟨ea,ec,na,nc,h1,h2⟩;exact ⟨ea,ec,na,nc,h1,h2.ext x⟩
theorem zUN {c m:Nat} {o:Option Dfa}:∀v w w',Ext w w'→opF c m o v w→opF c m o v w':=by
 rintro v w w' x ⟨d,ea,na,ec,nc,h1,h2⟩;exact ⟨d,ea,na,ec,nc,h1,fun D hD=>⟨(h2 D hD).1,(h2 D hD).2.1,(h2 D hD).2.2.chg x fun _ f=>f.elim⟩⟩
def opA (c m:Nat) (o:Option Dfa):Fct:=fun r w=>∃(d:Dfa) (ea na:Option Addr) (ec nc:Nat),r=.agg #[.int .i64 d.start,.slice ea d.accept.length ec,.slice na d.next.length nc]∧∀D,o=some D→D=d∧GoodD c d∧zCi m w d [.int .i64 d.start,.slice ea d.accept.length ec,.slice na d.next.length nc]
theorem zUO {c m:Nat} {o:Option Dfa}:∀v w w',Ext w w'→opA c m o v w→opA c m o v w':=by
 rintro v w w' x ⟨d,ea,na,ec,nc,h1,h2⟩;exact ⟨d,ea,na,ec,nc,h1,fun D hD=>⟨(h2 D hD).1,(h2 D hD).2.1,(h2 D hD).2.2.chg x fun _ f=>f.elim⟩⟩
def opM (c m:Nat) (o:Option Dfa):Fct:=fun r w=>∃(d:Dfa) (ea na:Option Addr) (ec nc:Nat),r=.agg #[.int .i64 d.start,.slice ea d.accept.length ec,.slice na d.next.length nc]∧o=some d∧GoodD c d∧zCi m w d [.int .i64 d.start,.slice ea d.accept.length ec,.slice na d.next.length nc]
theorem zUM {c m:Nat} {o:Option Dfa}:∀v w w',Ext w w'→opM c m o v w→opM c m o v w':=by
 rintro v w w' x ⟨d,ea,na,ec,nc,h1,h2,h3,h4⟩;exact ⟨d,ea,na,ec,nc,h1,h2,h3,h4.chg x fun _ f=>f.elim⟩
theorem zUU (w0:World) (c m:Nat) (o:Option Dfa) (d:Dfa) (ea na:Option Addr) (ec nc:Nat) (h:∀D,o=some D→D=d∧GoodD c d∧zCi m w0 d [.int .i64 d.start,.slice ea d.accept.length ec,.slice na d.next.length nc]) :
  zRI prog lgC 153 #[.agg #[.int .i64 d.start,.slice ea d.accept.length ec,.slice na d.next.length nc],.bool o.isSome] w0 (fun r w=>opM c m o r w∧Ext w0 w) fun w=>o=none∧Ext w0 w:=
 (zHq w0 o.isSome d.start ea na d.accept.length ec d.next.length nc).mono (fun r w q=>by
  obtain ⟨⟨q1,q2⟩,q3⟩:=q;obtain ⟨D,hD⟩:=Option.isSome_iff_exists.1 q1;obtain ⟨h1,h2,h3⟩:=h D hD;exact ⟨⟨d,ea,na,ec,nc,q2,by rw[hD,h1],h2,h3.chg q3 fun _ f=>f.elim⟩,q3⟩) fun w q=>⟨Option.not_isSome_iff_eq_none.1 (by rw[q.1];decide),q.2⟩
theorem zTh (cs:List (List Sp)) (x:Re) (hc:1≤cs.length∧cs.length≤16) (hN:NodeI x) (hk:x.kind=6) (hof:∀y∈x.args,zIm cs.length cs y):zIX cs.length cs x:=by
 intro w0 bt ca cc vs hT hC ht;have ht0:=ht;obtain ⟨sa,sc,aa,ac,rfl,dd,cz,bn⟩:=ht.form;have hcl:cs.length≤16:=hc.2;have h1:=hN.one qO;obtain ⟨y,hy⟩:=zAN (l:=x.args) (i:=0) qO;obtain ⟨ab,ao,rfl,cd⟩:=zFo bn qO;obtain ⟨us,c8,cr⟩:=cd.get hy;have cn:=cr;obtain ⟨ysa,ysc,yaa,yac,rfl,_,_,_⟩:=cr.form;have hrp:=hN.rep hk;refine zDj func105 rfl ntmps105 (leT rfl) ?_;have E:Chg zAh w0 w0:=Chg.refl _ _;refine zAA (zBQ (v:=(.agg (R6 x sa sc (some ⟨ab,ao,none⟩) ac))) (c:=(R6 x sa sc (some ⟨ab,ao,none⟩) ac)) qD rfl rfl ?_);intro bb wb Nb;have Fb:=Nb.ge E;have Ob_bt:=Nb.lt hT;replace hT:=Nb.keep hT;replace E:=E.ext Nb.ext;have Bb:=Nb.blk;refine zBH (c:=#[(I6 0),(.slice none 0 0),(.slice none 0 0)]) qD zBf rfl ?_;intro br wr Nr;have Fr:=Nr.ge E;have Or_bt:=Nr.lt hT;have Or_bb:=Nr.lt Bb;replace hT:=Nr.keep hT;replace Bb:=Nr.keep Bb;replace E:=E.ext Nr.ext;have Br:=Nr.blk;refine zAB (zAA (qM _ rfl (qV (zBh rfl) (qF bt 0 0 rfl underlying108 rfl zHK rfl (qV (zAI rfl zDY (hT.cell rfl)) (qV (zAJ underlying35 rfl) (qA _ rfl (zAB (zAH (zAA (qF bb 0 0 rfl underlying26 rfl zAy rfl (qV (zAI rfl zAo (Bb.cell rfl)) (zAB (zAS (zAA (qV (zAs rfl rfl) (qA _ rfl (zAB ?_))))))))))))))))));have c3:(decide ((x.kind:Int)=1))=false:=decide_eq_false qO;refine zAP (cbk c3) (zAA (qV (zAs rfl rfl) (qA _ rfl (zAB ?_))));have c6:(decide ((x.kind:Int)=2))=false:=decide_eq_false qO;refine zAP (cbk c6) (zAH (zAA (qV (zAs rfl rfl) (qA _ rfl (zAB ?_)))));have dc:(decide ((x.kind:Int)=3))=false:=decide_eq_false qO;refine zAP (cbk dc) (zAA (qV (zAs rfl rfl) (qA _ rfl (zAB ?_))));have dg:(decide ((x.kind:Int)=4))=false:=decide_eq_false qO;refine zAP (cbk dg) (zAF (qV (zAs rfl rfl) (qA _ rfl (zAB (zAC ?_)))));have de:(decide ((x.kind:Int)=7))=false:=decide_eq_false qO;refine zAP (cbk de) (zAA (qV (zAs rfl rfl) (qA _ rfl (zAB ?_))));have c4:(decide ((x.kind:Int)=5))=false:=decide_eq_false qO;refine zAP (cbk c4) (zAA (qV (zAs rfl rfl) (qA _ rfl (zAB ?_))));have cw:(decide ((x.kind:Int)=6))=true:=decide_eq_true hk;refine zAk (cbk cw) (zAA (qM _ rfl (qF bb 0 2 rfl underlying26 rfl zFw rfl (qV (zAI rfl zEQ (Bb.cell rfl)) (qV (zAD (b:=ab) (o:=ao) (len:=x.args.length) (cap:=ac) (i:=0) (o':=ao+0*6) rfl rfl rfl underlying24 zAw qO qO) (qV (zAK rfl zBc zAw rfl (c8.ext E)) ?_))))));obtain ⟨n9,bw⟩:∃n9,n9=(wr).heap.size:=⟨_,rfl⟩;have cq:br<n9∧w0.heap.size≤n9:=⟨by rw[bw];exact Br.lt,by rw[bw];exact E.size⟩;refine zBd rfl rfl qD (zAQ func70 kQ kQ rfl) (((hof y (List.mem_of_getElem? hy) _ bt ca cc _ hT (hC.ext E) (zBB.ext E y cn)).mono (R':=fun r w'=>(∃d,trO cs.length cs y=some d∧GoodD cs.length d∧d.next.length≤200∧zJb (fun b=>n9≤b) d r w')∧Ext _ w') (fun r w' h=>⟨by obtain ⟨d,h1,h2,h3,h4⟩:=h.1;exact ⟨d,h1,h2,h3,h4.mono fun b hb=>by rw[bw];exact hb.1⟩,h.2⟩) (fun _ h=>h))) (fun w' h=>And.intro rfl ⟨by rw[zTp hk h1 hy,h.1];rfl,E.ext h.2⟩) ?_;rintro _ w9 ⟨⟨d,hd,gd,hd2,ea,ec,na,nc,rfl,hD⟩,X9⟩;replace hT:=X9.keep hT;replace Bb:=X9.keep Bb;replace Br:=X9.keep Br;replace E:=E.ext X9;obtain ⟨o8,cl⟩:∃o8,o8=prsO cs.length false d (zBY cs.length):=⟨_,rfl⟩;refine zAd (v:=(.agg #[(I6 d.start),(.slice ea d.accept.length ec),(.slice na d.next.length nc)])) (c:=#[(I6 d.start),(.slice ea d.accept.length ec),(.slice na d.next.length nc)]) (n:=3) qD zBf rfl zAe rfl rfl rfl qS ?_;intro ba wa Na;have Fa:=Na.ge E;have Oa_bt:=Na.lt hT;have Oa_bb:=Na.lt Bb;have Oa_br:=Na.lt Br;replace hT:=Na.keep hT;replace Bb:=Na.keep Bb;replace Br:=Na.keep Br;replace hD:=hD.ext Na.ext;replace E:=E.ext Na.ext;have Ba:=Na.blk;refine zAB ?_;have c9:n9≤(wa).heap.size:=by rw[bw];have:=X9.size;have:=Na.ext.size;omega
 have ck:ba<(wa).heap.size∧n9≤ba:=⟨Ba.lt,by have:=Na.eq;have:=X9.size;omega⟩;replace hD:=(zBW.chg hD (Chg.refl zAh _) (fun _ _ _ f=>f));obtain ⟨n7,cf⟩:∃n7,n7=(wa).heap.size:=⟨_,rfl⟩;rw[←cf] at hD;have dh:w0.heap.size≤wa.heap.size:=E.size;have bz:bt<wa.heap.size:=hT.lt;have bx:bb<wa.heap.size:=Bb.lt;have b0:br<wa.heap.size:=Br.lt;have b1:ba<wa.heap.size:=Ba.lt;refine zAH ?_;obtain ⟨c1,ai⟩:∃Fs:List zDE,Fs=[(eF (.agg #[(I6 d.start),(.slice ea d.accept.length ec),(.slice na d.next.length nc)])),(eF (I6 (cs.length:Int))),(fun _ _=>drG (fun b=>n7≤b) (zBY cs.length)),(fun _ _=>opF cs.length n7 o8),(fun _ _=>opA cs.length n7 o8),(eF (.bool o8.isSome)),(fun _ _=>opM cs.length n7 o8),(fun _ _=>alF 34 #[(I6 0),(.slice none 0 0),(.slice none 0 0)] wa.heap.size),(eF undef)]:=⟨_,rfl⟩;refine zMl (MsL []) (RsL []) (lgC) ((fun _=>o8=none)) [true,true,true,true,true,true,true,true,false] [8] [144,145,146,147,148,149,150,16,207] [[],[],[1],[0,2],[3],[3],[3,4,5],[],[]] [[],[],[1],[0,2,1],[3,0,2,1],[3,0,2,1],[3,0,2,1,4,5],[],[]] c1 ai qK mixed qK qK qK qK ?_ ((fun σ' w1 w' X0 X hx=>And.intro rfl ⟨by rw[zTp hk h1 hy,hd,Option.bind_some,←cl,hx];rfl,(E.ext X0).step X (fun y hy h=>by obtain ⟨j,h⟩:=h;exact h.elim)⟩)) ?_
 ·intro wd X0;refine DagStepsG.cons (zCE.eq) (zCr.const) (fun S s' w' hi hN X U V H=>Or.inl ⟨zAL rfl,?_⟩) ?_
  ·replace X:=xN0 X;exact gX0 (zAW (zAK (vs:=[(.int .i64 d.start),(.slice ea d.accept.length ec),(.slice na d.next.length nc)]) (U 15 rfl) zAx zAe rfl (((X0.trans X).keep Ba).cells rfl)) rfl)
  refine DagStepsG.cons (zCE.eq) (zCr.const) (fun S s' w' hi hN X U V H=>Or.inl ⟨zAL rfl,?_⟩) ?_
  ·replace X:=xN0 X;exact gX0 (zAW (zAl (v:=(.int .i64 ((cs.length:Nat):Int))) (U 5 rfl)) rfl)
  refine DagStepsG.cons (zCE.chg (U:=zAh) (zUn) (fun p y hp hw h=>by
     exact h.elim)) (zCr.const) (fun S s' w' hi hN X U V H=>Or.inl ⟨zAL rfl,?_⟩) ?_
  ·replace X:=xN0 X;have b6:=(H 1 rfl).2 145 _ rfl (by rw[ai];rfl);exact gX0 (zCF (zAQ (vs:=[(.int .i64 ((cs.length:Nat):Int))]) func152 kQ kQ (zOv b6)) ((zKL _ cs.length hc).mono (R':=fun r w'=>drG (fun b=>n7≤b) (zBY cs.length) r w'∧Ext _ w') (fun r w' h=>⟨h.1.mono fun b hb=>by have:=X0.size;have:=X.size;have cy:_≤b:=hb;omega,h.2⟩)))
  refine DagStepsG.cons (zCE.chg (U:=zAh) (zUN) (fun p y hp hw h=>by
     exact h.elim)) (zCr.const) (fun S s' w' hi hN X U V H=>Or.inl ⟨zAL rfl,?_⟩) ?_
  ·replace X:=xN0 X;have b5:=(H 0 rfl).2 144 _ rfl (by rw[ai];rfl);obtain ⟨bm,bs,bq,bp,cj,cm⟩:=(show ((fun _ _=>drG (fun b=>n7≤b) (zBY cs.length)):zDE) S s' (s' 146) w' from (H 2 rfl).2 146 (fun _ _=>drG (fun b=>n7≤b) (zBY cs.length)) rfl (by rw[ai];rfl));exact gX0 (zCF (zAQ (vs:=[(.agg #[(.int .i64 d.start),(.slice ea d.accept.length ec),(.slice na d.next.length nc)]),(.agg #[(.int .i64 ((zBY cs.length).start)),(.slice bm ((zBY cs.length).accept.length) bs),(.slice bq ((zBY cs.length).next.length) bp)]),(.bool false)]) func86 kQ kQ (zVK b5 cj rfl)) ((zVo _ n7 cs.length d (zBY cs.length) _ _ false (by have:=X0.size;have:=X.size;omega) gd (zGi _) (hD.ext (X0.trans X)).at' cm.at' hc).mono (R':=fun r w'=>opF cs.length n7 o8 r w'∧Ext _ w') (fun r w' h=>by rw[cl];exact h)))
  refine DagStepsG.cons (zCE.chg (U:=zAh) (zUO) (fun p y hp hw h=>by
     exact h.elim)) (zCr.const) (fun S s' w' hi hN X U V H=>Or.inl ⟨zAL rfl,?_⟩) ?_
  ·replace X:=xN0 X;obtain ⟨af,aq,ap,au,ar,a9,bv⟩:=(show ((fun _ _=>opF cs.length n7 o8):zDE) S s' (s' 147) w' from (H 3 rfl).2 147 (fun _ _=>opF cs.length n7 o8) rfl (by rw[ai];rfl));exact gX0 (zAW (zAa (vs:=#[.agg #[.int .i64 af.start,.slice aq af.accept.length au,.slice ap af.next.length ar],.bool o8.isSome]) (v:=.agg #[.int .i64 af.start,.slice aq af.accept.length au,.slice ap af.next.length ar]) a9 rfl) ⟨af,aq,ap,au,ar,rfl,bv⟩)
  refine DagStepsG.cons (zCE.eq) (zCr.const) (fun S s' w' hi hN X U V H=>Or.inl ⟨zAL rfl,?_⟩) ?_
  ·replace X:=xN0 X;obtain ⟨af,aq,ap,au,ar,a9,bv⟩:=(show ((fun _ _=>opF cs.length n7 o8):zDE) S s' (s' 147) w' from (H 3 rfl).2 147 (fun _ _=>opF cs.length n7 o8) rfl (by rw[ai];rfl));exact gX0 (zAW (zAa (vs:=#[.agg #[.int .i64 af.start,.slice aq af.accept.length au,.slice ap af.next.length ar],.bool o8.isSome]) (v:=.bool o8.isSome) a9 rfl) rfl)
  refine DagStepsG.cons (zCE.chg (U:=zAh) (zUM) (fun p y hp hw h=>by
     exact h.elim)) (zCr.const) (fun S s' w' hi hN X U V H=>Or.inl ⟨zAL rfl,?_⟩) ?_
  ·replace X:=xN0 X;obtain ⟨az,a2,a0,a1,a3,cg,b9⟩:=(show ((fun _ _=>opA cs.length n7 o8):zDE) S s' (s' 148) w' from (H 4 rfl).2 148 (fun _ _=>opA cs.length n7 o8) rfl (by rw[ai];rfl));have b7:=(H 5 rfl).2 149 _ rfl (by rw[ai];rfl);exact gX0x (zMn (zAQ (vs:=[(.agg #[(.int .i64 az.start),(.slice a2 az.accept.length a1),(.slice a0 az.next.length a3)]),(.bool o8.isSome)]) func153 kQ kQ (zOu cg b7)) ((zUU _ cs.length n7 o8 az a2 a0 a1 a3 b9).mono (fun v w h=>⟨h.1,Ext.chg h.2⟩) (fun w h=>⟨h.1,Ext.chg h.2⟩)))
  refine DagStepsG.cons (zCE.chg (U:=zAh) (fun v w w' x h=>zIS _ _ _ v w w' x h) (fun p y hp hw h=>by
     exact h.elim)) (zCr.const) (fun S s' w' hi hN X U V H=>Or.inl ⟨zAL rfl,?_⟩) ?_
  ·replace X:=xN0 X;exact gX0 (zEE (c:=#[(.int .i64 0),(.slice none 0 0),(.slice none 0 0)]) zBf rfl (by have:=X0.size;have:=X.size;omega))
  refine DagStepsG.tail ?_;exact DagStepsG.nil
 ·intro s' wd8 w8 X0 X8 U H;replace X8:=X8.mono (M':=zAh) (fun y _ h=>by
    obtain ⟨j,hj,h⟩:=h;exact h.elim)
  obtain ⟨ad,aj,ak,al,am,co,bu,b2,ag⟩:=(show ((fun _ _=>opM cs.length n7 o8):zDE) (zNr [true,true,true,true,true,true,true,true,false]) s' (s' 150) w8 from H 6 rfl 150 (fun _ _=>opM cs.length n7 o8) rfl (by rw[ai];rfl));obtain ⟨a8,c2,ae,g16⟩:=(show ((fun _ _=>alF 34 #[(.int .i64 0),(.slice none 0 0),(.slice none 0 0)] wa.heap.size):zDE) (zNr [true,true,true,true,true,true,true,true,false]) s' (s' 16) w8 from H 7 rfl 16 (fun _ _=>alF 34 #[(.int .i64 0),(.slice none 0 0),(.slice none 0 0)] wa.heap.size) rfl (by rw[ai];rfl));obtain ⟨j8,rfl⟩:=zAz.out (σ:=s') (l:=[(3,(.pointer (some ⟨bb,0,none⟩))),(4,(.pointer (some ⟨br,0,none⟩))),(5,(.int .i64 ((cs.length:Nat):Int))),(15,(.pointer (some ⟨ba,0,none⟩))),(150,(.agg #[(.int .i64 ad.start),(.slice aj ad.accept.length al),(.slice ak ad.next.length am)])),(16,(.pointer (some ⟨a8,0,none⟩)))]) ⟨U 3 rfl,U 4 rfl,U 5 rfl,U 15 rfl,co,c2,trivial⟩;clear U H;replace hT:=(X0.trans X8).keep hT;replace Bb:=(X0.trans X8).keep Bb;replace Br:=(X0.trans X8).keep Br;replace Ba:=(X0.trans X8).keep Ba;replace hD:=hD.ext (X0.trans X8);replace X8:=X0.trans X8;replace E:=E.ext X8;have bj:=ae;have c7:br<n7∧ba<n7∧w0.heap.size≤n7∧br<n9∧n7≤a8:=⟨by rw[cf];have:=cq.1;omega,by rw[cf];exact ck.1,qO,cq.1,qO⟩;have bg:n7≤(w8).heap.size:=by have:=bj.lt;omega
  refine zAb (b:=a8) (o:=0) (c':=#[(I6 ad.start),(.slice aj ad.accept.length al),(.slice ak ad.next.length am)]) rfl rfl qS zAe rfl ae qL rfl ?_;intro w9 S9;replace ag:=ag.chgT S9.chg (fun y h=>.inr (by have h':y=a8:=h;rw[h'];exact ⟨_,bj⟩));replace hD:=hD.put S9.chg (fun y hy h=>by have h':y=a8:=h;have:=hy.2;omega);replace bg:=Nat.le_trans bg S9.chg.size;replace hT:=S9.keep qO hT;replace Bb:=S9.keep qO Bb;replace Br:=S9.keep qO Br;replace Ba:=S9.keep qO Ba;replace E:=S9.step E qQ;replace ae:=S9.blk;refine zAB (zAC (zAA (qM _ rfl ?_)));have ct:=bg;refine qE rfl (zAQ func152 kQ kQ rfl) ((zKL _ cs.length hc).mono (R':=fun r w'=>zJb (fun b=>n7≤b) (zBY cs.length) r w'∧Ext _ w') (fun r w' h=>⟨h.1.mono fun b hb=>by have cy:_≤b:=hb;omega,h.2⟩)) ?_;rintro _ cx ⟨⟨ka,kc,la,lc,rfl,hK⟩,ay⟩;replace hT:=ay.keep hT;replace Bb:=ay.keep Bb;replace Br:=ay.keep Br;replace Ba:=ay.keep Ba;replace ae:=ay.keep ae;replace hD:=hD.ext ay;replace ag:=(ag.chg ay fun _ f=>f.elim);replace E:=E.ext ay;obtain ⟨n6,cv⟩:∃n6,n6=cx.heap.size:=⟨_,rfl⟩;replace hD:=zBW.chg hD (Chg.refl zAh _) (fun _ _ _ f=>f);replace hK:=zBW.chg hK (Chg.refl zAh _) (fun _ _ _ f=>f);replace ag:=zBW.of_new ag;rw[←cv] at hD hK ag;refine zAd (v:=(.agg #[(I6 ((zBY cs.length).start)),(.slice ka ((zBY cs.length).accept.length) kc),(.slice la ((zBY cs.length).next.length) lc)])) (c:=#[(I6 ((zBY cs.length).start)),(.slice ka ((zBY cs.length).accept.length) kc),(.slice la ((zBY cs.length).next.length) lc)]) (n:=3) qD zBf rfl zAe rfl rfl rfl qS ?_;intro bo wo No;have Fo:=No.ge E;have Oo_bt:=No.lt hT;have Oo_bb:=No.lt Bb;have Oo_br:=No.lt Br;have Oo_ba:=No.lt Ba;have Oo_b16:=No.lt ae;replace hT:=No.keep hT;replace Bb:=No.keep Bb;replace Br:=No.keep Br;replace Ba:=No.keep Ba;replace ae:=No.keep ae;replace hD:=hD.ext No.ext;replace ag:=ag.ext No.ext;replace hK:=hK.ext No.ext;replace E:=E.ext No.ext;have Bo:=No.blk;refine zAB (zAH (zAA (qF bb 0 4 rfl underlying26 rfl zAy rfl (qV (zAI rfl zAo (Bb.cell rfl)) (qM _ rfl (zAB (zAS ?_)))))));have hq:o8=some ad:=bu;have ch:trN cs.length cs x=repK cs.length x.mn d ad x.mx.toNat:=by rw[zTp hk h1 hy,hd,Option.bind_some,←cl,bu];rfl
  have hoo:n6≤bo∧br<bo:=⟨by have:=No.eq;omega,by have:=No.eq;have:=ay.size;omega⟩;have cu:zBW (fun b=>w0.heap.size≤b∧b≠bo∧b≠br) (wo) d [.int .i64 d.start,.slice ea d.accept.length ec,.slice na d.next.length nc]:=hD.mono fun b hb=>⟨by have:=hb.1.1;omega,by have:=hb.2;omega,by have:=hb.1.1;omega⟩;have c5:zBW (fun b=>w0.heap.size≤b∧b≠bo∧b≠br) (wo) ad [.int .i64 ad.start,.slice aj ad.accept.length al,.slice ak ad.next.length am]:=ag.mono fun b hb=>⟨by have:=hb.1;omega,by have:=hb.2;omega,by have:=hb.1;omega⟩;have da:zBW (fun b=>w0.heap.size≤b∧b≠bo∧b≠br) (wo) (zBY cs.length) [.int .i64 (zBY cs.length).start,.slice ka (zBY cs.length).accept.length kc,.slice la (zBY cs.length).next.length lc]:=hK.mono fun b hb=>⟨by have:=hb.1;omega,by have:=hb.2;omega,by have:=hb.1;omega⟩;refine zAp (fun nn_ σ av=>∃(k:Nat) (D:Dfa) (pa qa:Option Addr) (pc qc:Nat),(∃jj_,σ=zCT jj_ [(3,(P6 bb 0)),(4,(P6 br 0)),(15,(P6 ba 0)),(16,(P6 a8 0)),(17,(P6 bo 0)),(154,(I6 x.mx)),(155,(I6 (k:Int)))])∧Chg zAh w0 av∧Blk av bt #[(.slice ca cs.length cc)] 108∧Blk av bb (R6 x sa sc (some ⟨ab,ao,none⟩) ac) 26∧Blk av br #[(I6 0),(.slice none 0 0),(.slice none 0 0)] 34∧Blk av ba #[(I6 d.start),(.slice ea d.accept.length ec),(.slice na d.next.length nc)] 34∧Blk av a8 #[(I6 ad.start),(.slice aj ad.accept.length al),(.slice ak ad.next.length am)] 34∧Blk av bo (#[.int .i64 D.start,.slice pa D.accept.length pc,.slice qa D.next.length qc]) 34∧((k:Int)≤x.mx)∧(repK cs.length x.mn d ad k=some D)∧(GoodD cs.length D)∧(zBW (fun b=>w0.heap.size≤b∧b≠bo∧b≠br) av D [.int .i64 D.start,.slice pa D.accept.length pc,.slice qa D.next.length qc])∧(zBW (fun b=>w0.heap.size≤b∧b≠bo∧b≠br) av d [.int .i64 d.start,.slice ea d.accept.length ec,.slice na d.next.length nc])∧(zBW (fun b=>w0.heap.size≤b∧b≠bo∧b≠br) av ad [.int .i64 ad.start,.slice aj ad.accept.length al,.slice ak ad.next.length am])∧nn_=x.mx.toNat - k) (n:=x.mx.toNat - 0) ?_ ?_
  ·exact ⟨0,zBY cs.length,ka,la,kc,lc,zAz.out ⟨rfl,rfl,rfl,rfl,rfl,rfl,rfl,trivial⟩,E,hT,Bb,Br,Ba,ae,Bo,qO,rfl,zGi _,da,cu,c5,rfl⟩
  ·clear E hT Bb Br Ba ae Bo;rintro _ _ av ⟨k,D,pa,qa,pc,qc,⟨j10,rfl⟩,E,hT,Bb,Br,Ba,ae,Bo,hkm,hf,gD,bi,hA,hM,rfl⟩;refine zAA (qV (zBF rfl rfl) (zAB (zAH (qC rfl (fun cb=>?_) (fun cb=>?_)))))
   ·refine zAO (zAC (zAH (zAS (zAA (qM _ rfl (qA _ rfl (zAB (zAA (qM _ rfl (qF bb 0 3 rfl underlying26 rfl zAy rfl (qV (zAI rfl zAo (Bb.cell rfl)) (qV (zBF rfl rfl) (zAB (qC rfl (fun bk=>?_) (fun bk=>?_)))))))))))))))
    ·obtain ⟨o9,bh⟩:∃o9,o9=catO cs.length D d:=⟨_,rfl⟩;refine zAF (qV (zAK (vs:=[(I6 D.start),(.slice pa D.accept.length pc),(.slice qa D.next.length qc)]) rfl zAx zAe rfl (Bo.cells rfl)) (qV (zAK (vs:=[(I6 d.start),(.slice ea d.accept.length ec),(.slice na d.next.length nc)]) rfl zAx zAe rfl (Ba.cells rfl)) ?_));obtain ⟨n8,a5⟩:∃n8,n8=(av).heap.size:=⟨_,rfl⟩;have ce:bo<n8∧br<n8∧w0.heap.size≤n8:=⟨by rw[a5];exact Bo.lt,by rw[a5];exact Br.lt,by rw[a5];exact E.size⟩;refine qE rfl (zAQ func154 kQ kQ rfl) ((zQt _ cs.length D d _ _ gD gd bi.at' hA.at' hc).mono (R':=fun r w'=>opG cs.length (fun b=>w0.heap.size≤b∧b≠bo∧b≠br) o9 r w'∧Ext _ w') (fun r w' h=>⟨by rw[bh];exact h.1.mono fun b hb=>⟨by have:=hb.1;omega,by have:=hb.1;omega,by have:=hb.1;omega⟩,h.2⟩)) ?_;rintro _ db ⟨⟨s9,bd,bc,be,a6,rfl,ci⟩,an⟩;replace hT:=an.keep hT;replace Bb:=an.keep Bb;replace Br:=an.keep Br;replace Ba:=an.keep Ba;replace ae:=an.keep ae;replace Bo:=an.keep Bo;replace E:=E.ext an;refine qV (zAa rfl rfl) (qV (zAa rfl rfl) (zBd rfl rfl qD (zAQ func153 kQ kQ rfl) (zHq _ o9.isSome s9.start bd bc s9.accept.length be s9.next.length a6) (fun w' h=>And.intro rfl ⟨ch.trans (zHe (k:=k+1) (by rw[repK,hf,Option.bind_some,if_pos bk];exact bh.symm.trans (Option.not_isSome_iff_eq_none.1 (by rw[h.1];decide))) _ qO),E.ext h.2⟩) ?_));rintro _ c0 ⟨⟨b3,rfl⟩,ah⟩;replace hT:=ah.keep hT;replace Bb:=ah.keep Bb;replace Br:=ah.keep Br;replace Ba:=ah.keep Ba;replace ae:=ah.keep ae;replace Bo:=ah.keep Bo;replace E:=E.ext ah;obtain ⟨D9,bf⟩:=Option.isSome_iff_exists.1 b3;obtain ⟨b8,b4,cp⟩:=ci D9 bf;rw[b8] at bf;have a7:=cp.ext ah;replace hA:=(hA.ext an).ext ah;replace hM:=(hM.ext an).ext ah;refine zAb (b:=bo) (o:=0) (c':=#[(I6 s9.start),(.slice bd s9.accept.length be),(.slice bc s9.next.length a6)]) rfl rfl qS zAe rfl Bo qL rfl ?_;intro w13 ax;replace hA:=hA.put ax.chg (fun y hy h=>hy.2.1 h);replace hM:=hM.put ax.chg (fun y hy h=>hy.2.1 h);replace a7:=a7.put ax.chg (fun y hy h=>hy.2.1 h);replace hT:=ax.keep qO hT;replace Bb:=ax.keep qO Bb;replace Br:=ax.keep qO Br;replace Ba:=ax.keep qO Ba;replace ae:=ax.keep qO ae;replace E:=ax.step E qQ;replace Bo:=ax.blk;refine zAB (zAR (zAC (zAF (qV (zAv rfl rfl (zBb qO)) (qM _ rfl (zAB (zAC ?_)))))));exact ⟨x.mx.toNat - (k+1),qO,k+1,s9,bd,bc,be,a6,zAz.out ⟨rfl,rfl,rfl,rfl,rfl,rfl,rfl,trivial⟩,E,hT,Bb,Br,Ba,ae,Bo,qO,(by rw[repK,hf,Option.bind_some,if_pos bk];exact bh.symm.trans bf),b4,a7,hA,hM,rfl⟩
    ·obtain ⟨o9,bh⟩:∃o9,o9=catO cs.length D ad:=⟨_,rfl⟩;refine zAF (qV (zAK (vs:=[(I6 D.start),(.slice pa D.accept.length pc),(.slice qa D.next.length qc)]) rfl zAx zAe rfl (Bo.cells rfl)) (qV (zAK (vs:=[(I6 ad.start),(.slice aj ad.accept.length al),(.slice ak ad.next.length am)]) rfl zAx zAe rfl (ae.cells rfl)) ?_));obtain ⟨n8,a5⟩:∃n8,n8=(av).heap.size:=⟨_,rfl⟩;have ce:bo<n8∧br<n8∧w0.heap.size≤n8:=⟨by rw[a5];exact Bo.lt,by rw[a5];exact Br.lt,by rw[a5];exact E.size⟩;refine qE rfl (zAQ func154 kQ kQ rfl) ((zQt _ cs.length D ad _ _ gD b2 bi.at' hM.at' hc).mono (R':=fun r w'=>opG cs.length (fun b=>w0.heap.size≤b∧b≠bo∧b≠br) o9 r w'∧Ext _ w') (fun r w' h=>⟨by rw[bh];exact h.1.mono fun b hb=>⟨by have:=hb.1;omega,by have:=hb.1;omega,by have:=hb.1;omega⟩,h.2⟩)) ?_;rintro _ db ⟨⟨s9,bd,bc,be,a6,rfl,ci⟩,an⟩;replace hT:=an.keep hT;replace Bb:=an.keep Bb;replace Br:=an.keep Br;replace Ba:=an.keep Ba;replace ae:=an.keep ae;replace Bo:=an.keep Bo;replace E:=E.ext an;refine qV (zAa rfl rfl) (qV (zAa rfl rfl) (zBd rfl rfl qD (zAQ func153 kQ kQ rfl) (zHq _ o9.isSome s9.start bd bc s9.accept.length be s9.next.length a6) (fun w' h=>And.intro rfl ⟨ch.trans (zHe (k:=k+1) (by rw[repK,hf,Option.bind_some,if_neg bk];exact bh.symm.trans (Option.not_isSome_iff_eq_none.1 (by rw[h.1];decide))) _ qO),E.ext h.2⟩) ?_));rintro _ c0 ⟨⟨b3,rfl⟩,ah⟩;replace hT:=ah.keep hT;replace Bb:=ah.keep Bb;replace Br:=ah.keep Br;replace Ba:=ah.keep Ba;replace ae:=ah.keep ae;replace Bo:=ah.keep Bo;replace E:=E.ext ah;obtain ⟨D9,bf⟩:=Option.isSome_iff_exists.1 b3;obtain ⟨b8,b4,cp⟩:=ci D9 bf;rw[b8] at bf;have a7:=cp.ext ah;replace hA:=(hA.ext an).ext ah;replace hM:=(hM.ext an).ext ah;refine zAb (b:=bo) (o:=0) (c':=#[(I6 s9.start),(.slice bd s9.accept.length be),(.slice bc s9.next.length a6)]) rfl rfl qS zAe rfl Bo qL rfl ?_;intro w14 aw;replace hA:=hA.put aw.chg (fun y hy h=>hy.2.1 h);replace hM:=hM.put aw.chg (fun y hy h=>hy.2.1 h);replace a7:=a7.put aw.chg (fun y hy h=>hy.2.1 h);replace hT:=aw.keep qO hT;replace Bb:=aw.keep qO Bb;replace Br:=aw.keep qO Br;replace Ba:=aw.keep qO Ba;replace ae:=aw.keep qO ae;replace E:=aw.step E qQ;replace Bo:=aw.blk;refine zAB (zAR (zAC (zAF (qV (zAv rfl rfl (zBb qO)) (qM _ rfl (zAB (zAC ?_)))))));exact ⟨x.mx.toNat - (k+1),qO,k+1,s9,bd,bc,be,a6,zAz.out ⟨rfl,rfl,rfl,rfl,rfl,rfl,rfl,trivial⟩,E,hT,Bb,Br,Ba,ae,Bo,qO,(by rw[repK,hf,Option.bind_some,if_neg bk];exact bh.symm.trans bf),b4,a7,hA,hM,rfl⟩
   ·have df:k=x.mx.toNat:=qO
    refine zAn (zAT (zAT (zAg (zAC (zAA (qV (zAK (vs:=[(I6 D.start),(.slice pa D.accept.length pc),(.slice qa D.next.length qc)]) rfl zAx zAe rfl (Bo.cells rfl)) (zAb (b:=br) (o:=0) (c':=#[(I6 D.start),(.slice pa D.accept.length pc),(.slice qa D.next.length qc)]) rfl rfl qS zAe rfl Br qL rfl ?_)))))));intro w15 a4;replace bi:=bi.put a4.chg (fun y hy h=>hy.2.2 h);replace hT:=a4.keep qO hT;replace Bb:=a4.keep qO Bb;replace Ba:=a4.keep qO Ba;replace ae:=a4.keep qO ae;replace Bo:=a4.keep qO Bo;replace E:=a4.step E qQ;replace Br:=a4.blk;refine zAB (zAV (zAi (zAU (zCo (zBm results105 (vs:=[(.int .i64 D.start),(.slice pa D.accept.length pc),(.slice qa D.next.length qc)]) (b:=br) rfl zAx zAe rfl (Br.cells rfl) ?_)))));exact ⟨⟨D,ch.trans (by rw[←df];exact hf),gD,_,_,_,_,rfl,(zBW.chg bi (Chg.refl zAh _) fun _ _ _ f=>f).mono fun b hb=>⟨hb.1.1,hb.2⟩⟩,E⟩
theorem zVY (cs:List (List Sp)) (hc:1≤cs.length∧cs.length≤16) (hne:∀l∈cs,l≠[]):∀(n:Nat) (t:Re),t.size≤n→n≤1000000→zFc t→zIm cs.length cs t:=by
  intro n
  induction n with
  | zero=>intro t h;have:=t.size_pos;omega
  | succ n ih=>
  intro t hn hb ab;have hN:=zNQ (zGG ab);have hla:=zMX t;have aa:∀y∈t.args,zIm cs.length cs y:=fun y hy=>by
    obtain ⟨i,hi⟩:=List.getElem?_of_mem hy;have h1:=Re.size_arg hi;exact ih y qO qO (zPo (zHo ab) hi)
  refine zVy _ _ _ ?_;have hk:=hN.k;by_cases h1:t.kind=1
  · exact zTm cs t hc hN h1
  by_cases h2:t.kind=2
  · exact zTl cs t hc h2 hne
  by_cases h3:t.kind=3
  · exact zTk cs t hc hN h3 qO aa
  by_cases h4:t.kind=4
  · exact zTj cs t hc hN h4 qO aa
  by_cases h5:t.kind=5
  · exact zTi cs t hc hN h5 aa
  by_cases h6:t.kind=6
  · exact zTh cs t hc hN h6 aa
  by_cases h7:t.kind=7
  · exact zTg cs t hc hN h7 qO aa
  by_cases h8:t.kind=8
  · exact zTf cs t hc hN h8 aa
  by_cases h9:t.kind=9
  · exact zTe cs t hc hN h9 aa
  exact zTn cs t hc hN qO
end Go.Proofs
namespace Go.Proofs
open Go Go.Eng Go.Sort
set_option maxRecDepth 100000
def zXe (p q:Int):Int:=if p≠0 then p else q
def zXS (s t:Int×Int):Int:=orL [zHX s.1 t.1,zHX s.2 t.2]
def zXh {α:Type} (f:α→α→Int):List α→List α→Int
  | [],[]=>0
  | [],_::_=>-1
  | _::_,[]=>1
  | x::l,y::m=>zXe (f x y) (zXh f l m)
mutual
def zXd:Re→Re→Int
  | .mk k s a m x _,.mk k' s' a' m' x' _=>orL [zHX k k',zXh zXS s s',zHX m m',zHX x x',zVu a a']
def zVu:List Re→List Re→Int
  | [],[]=>0
  | [],_::_=>-1
  | _::_,[]=>1
  | t::ts,u::us=>zXe (zXd t u) (zVu ts us)
end
def allT:Re:=.mk 8 [] [zFE] 0 0 false
def zTP (t:Re):Bool:=decide (t.kind=8) && decide ((t.args.headD zFE).kind=0)
def zMZ (t:Re):Bool:=decide (t.kind=0)
def zNX (t:Re):Bool:=decide (t.kind=1)
def zXQ (p:Re→Bool) (l:List Re):List Re:=l.filter fun x=>!p x
def zTZ (k:Int) (nothing:Re):List Re→Re
  | []=>nothing
  | [x]=>x
  | x::y::l=>.mk k [] (x::y::l) 0 0 false
def zWl (l:List Re):Re:=if ((zXQ zNX (zSJ 3 l)).any zMZ)=true then zFE else zTZ 3 zGL (zXQ zNX (zSJ 3 l))
def zXR:List Re→List Re
  | []=>[]
  | [x]=>[x]
  | x::y::l=>if zPW x y=true then zXR (y::l) else x::zXR (y::l)
def leR (a b:Re):Bool:=decide (zXd a b≤0)
def zWy (l:List Re):List Re:=l.mergeSort leR
def zXi (k:Int) (l:List Re) (strong weak:Re→Bool) (nothing:Re):Re:=
  match l.find? strong with
  | some x=>x
  | none=>zTZ k nothing (zXR (zWy (zXQ weak (zSJ k l))))
def zRt (k:Int) (s:List (Int×Int)) (a:List Re) (m x:Int) (g:Bool):Re:=
 let y:=a.headD zFE
 if k=3 then zWl a else if k=4 then zXi 4 a zTP zMZ zFE else if k=7 then zXi 7 a zMZ zTP allT
 else if k=5 then (if y.kind=0∨y.kind=1 then zGL else if y.kind=5 then y else .mk k s a m x g)
 else if k=6 then (if x=0∨y.kind=1∨(y.kind=0∧m=0) then zGL else if y.kind=0∨(m=1∧x=1) then y else .mk k s a m x g)
 else if k=8 then (if y.kind=8 then y.args.headD zFE else .mk k s a m x g)
 else .mk k s a m x g
mutual
def zXc:Re→Re
  | .mk k s a m x g=>zRt k s (zVi a) m x g
def zVi:List Re→List Re
  | []=>[]
  | t::ts=>zXc t::zVi ts
end
mutual
def zUm:Re→Bool
  | .mk k _ a m _ g=>if k=1∨k=5 then true else if k=3∨k=7∨k=9 then zLd a else if k=4 then zQh a else if k=6 then (decide (m=0) || zLd a) else if k=8 then !zLd a else if k=10 then (zLd a != g) else false
def zLd:List Re→Bool
  | []=>true
  | t::ts=>zUm t && zLd ts
def zQh:List Re→Bool
  | []=>false
  | t::ts=>zUm t || zQh ts
end
mutual
def zKk (c:Int):Re→Re
  | .mk k s a m x g=>if k=2 then (if inS s c=true then zGL else zFE) else if k=3 then zVd c a
    else if k=4∨k=7∨k=8 then zRt k [] (zMv c a) 0 0 false
    else if k=5 then zWl [(zMv c a).headD zFE,.mk k s a m x g]
    else if k=6 then zWl [(zMv c a).headD zFE,zRt 6 [] [a.headD zFE] (max 0 (m - 1)) (x - 1) false]
    else zFE
def zMv (c:Int):List Re→List Re
  | []=>[]
  | t::ts=>zKk c t::zMv c ts
def zVd (c:Int):List Re→Re
  | []=>zFE
  | t::ts=>if ts=[] then zKk c t else (let first:=zWl [zKk c t,zTZ 3 zGL ts];if zUm t=true then zRt 4 [] [first,zVd c ts] 0 0 false else first)
end
end Go.Proofs
namespace Go.Proofs
open Go Go.Eng
set_option maxRecDepth 100000
theorem zRX (S:Nat→Prop) (w:World) (k:Int):zBw S w (.mk k [] [] 0 0 false) [.int .i64 k,.slice none 0 0,.slice none 0 0,.int .i64 0,.int .i64 0,.bool false]:=
 zBw.of (zFf.nil _ _ _ _ _) qP (.inl rfl)
end Go.Proofs
namespace Go.Proofs
open Go Go.Eng Go.Sort
set_option maxRecDepth 100000
structure PreN (k:Int) (s:List (Int×Int)) (a:List Re) (m x:Int) (g:Bool):Prop where
 ks:k=0∨k=1∨k=2∨k=3∨k=4∨k=5∨k=6∨k=7∨k=8
 ng:g=false
 st:k≠2→s=[]
 mm:k≠6→m=0∧x=0
 k2:k=2→s≠[]∧zBR s=0
 none:k=0∨k=1∨k=2→a=[]
 one:k=5∨k=6∨k=8→a.length=1
 rep:k=6→0≤m∧m≤x∧x≤8
end Go.Proofs
namespace Go.Proofs
open Go Go.Eng Go.Sort
set_option maxRecDepth 100000
theorem zVp {t:Re} (h:zFc t) (h9:t.kind≠9) (h10:t.kind≠10) {a:List Re} (ha:a.length=t.args.length):PreN t.kind t.set a t.mn t.mx t.neg:=by
 have hn:=zGG h;have hN:=zNQ hn;have hf:=(zPp h).2.2;simp only[zFd,Bool.and_eq_true,Bool.or_eq_true,decide_eq_true_eq,Bool.not_eq_true'] at hf;obtain ⟨⟨⟨⟨f1,f2⟩,f3⟩,f4⟩,f5⟩:=hf;have hk:=hN.k;refine ⟨qO,?_,fun h2=>?_,fun h6=>⟨qO,qO⟩,fun h2=>⟨hN.sett h2,?_⟩,fun h0=>?_,fun h1=>by rw[ha];exact hN.one qO,fun h6=>hN.rep h6⟩
 ·rcases f5 with h|h
  ·exact absurd h h10
  ·exact h
 ·rcases f2 with h|h
  ·exact absurd h h2
  ·exact List.eq_nil_of_length_eq_zero qO
 ·unfold zCU at hn;split at hn
  ·cases hn
  split at hn
  ·cases hn
  first|rw[if_pos h2] at hn|skip
  by_cases hc:zBR t.set=0
  ·exact hc
  ·rw[if_pos hc] at hn;exact hn
 ·unfold okB at f1;rw[if_neg qO,if_neg qO] at f1;have:=of_decide_eq_true f1;exact List.eq_nil_of_length_eq_zero qO
end Go.Proofs
namespace Go.Proofs
open Go Go.Eng Go.Sort
set_option maxRecDepth 100000
mutual
def zIq (P:List (Int×Int)→Prop):Re→Prop
  | .mk k s a _ _ _=>(k=2→P s)∧zLx P a
def zLx (P:List (Int×Int)→Prop):List Re→Prop
  | []=>True
  | t::ts=>zIq P t∧zLx P ts
end
section
variable {P : List (Int × Int) → Prop}
theorem zLo {ts:List Re}:zLx P ts↔∀t∈ts,zIq P t:=by
  induction ts with
  | nil=>simp[zLx]
  | cons t ts ih=>simp only[zLx,ih,List.mem_cons,forall_eq_or_imp]
theorem zIq.s {t:Re} (h:zIq P t):t.kind=2→P t.set:=by cases t;exact h.1
theorem zIq.a {t:Re} (h:zIq P t):∀x∈t.args,zIq P x:=by cases t;exact zLo.1 h.2
end
end Go.Proofs
namespace Go.Proofs
open Go Go.Eng Go.Sort
theorem zEO {α:Type} [DecidableEq α]:∀{l m:List α},l.Nodup→(∀x∈l,x∈m)→l.length≤m.length
  | [],_,_,_=>Nat.zero_le _
  | x::l,m,hd,h=>by
    have hd':=List.nodup_cons.1 hd;have hx:=h x List.mem_cons_self;have h1:=zEO (l:=l) (m:=m.erase x) hd'.2 fun y hy=>(List.mem_erase_of_ne (show y≠x from fun e=>hd'.1 (by rw[←e];exact hy))).2 (h y (List.mem_cons_of_mem _ hy));rw[List.length_erase_of_mem hx] at h1;have:=List.length_pos_of_mem hx;simp only[List.length_cons];omega
def zPi:List Sp→List Int
  | []=>[]
  | s::l=>s.1::(s.2+1)::zPi l
theorem zJk:∀l:List Sp,(zPi l).length=2*l.length
  | []=>rfl
  | s::l=>by simp only[zPi,List.length_cons,zJk l];omega
theorem zHR:∀{l:List Sp} {x:Int},x∈zPi l↔∃s∈l,x=s.1∨x=s.2+1
  | [],x=>by simp[zPi]
  | s::l,x=>by
    simp only[zPi,List.mem_cons,zHR (l:=l),exists_eq_or_imp];constructor
    · rintro (h|h|h)
      · exact .inl (.inl h)
      · exact .inl (.inr h)
      · exact .inr h
    · rintro ((h|h)|h)
      · exact .inl h
      · exact .inr (.inl h)
      · exact .inr (.inr h)
theorem zPh:∀{l:List Sp},Canon l→(zPi l).Pairwise (· < ·)
  | [],_=>List.Pairwise.nil
  | s::l,h=>by
    have hv:=h.head;unfold vSp at hv;have hf:=h.far;have hlow:∀x∈zPi l,s.2+1<x:=fun x hx=>by
      obtain ⟨t,ht,h1⟩:=zHR.1 hx;have:=hf t ht;have hvt:=h.tail.ok t ht;unfold vSp at hvt;rcases h1 with h1|h1<;>omega
    refine List.Pairwise.cons (fun x hx=>?_) (List.Pairwise.cons (fun x hx=>hlow x hx) (zPh h.tail));rcases List.mem_cons.1 hx with h1|h1
    · omega
    · have:=hlow x h1;omega
theorem zOc {p:List Int} {f:Int→Bool} {c:List Sp} (hp0:(0:Int)∈p) (hc:zOr f p) (h:zDd c f) {s:Sp} (hs:s∈c):s.1∈p∧(s.2<1114111→s.2+1∈p):=by
  have hv:=h.1.ok s hs;unfold vSp at hv;have ae:∀t∈c,t=s∨t.2+2≤s.1∨s.2+2≤t.1:=by
    intro t ht;have hg:=h.1.gap;obtain ⟨i,hi⟩:=List.getElem?_of_mem hs;obtain ⟨j,hj⟩:=List.getElem?_of_mem ht;have ad:=zAE hi;have af:=zAE hj;rw[List.getElem?_eq_getElem ad] at hi;rw[List.getElem?_eq_getElem af] at hj;cases hi;cases hj;rcases Nat.lt_trichotomy i j with h1|h1|h1
    · exact .inr (.inr (List.pairwise_iff_getElem.1 hg i j ad af h1))
    · subst h1;exact .inl rfl
    · exact .inr (.inl (List.pairwise_iff_getElem.1 hg j i af ad h1))
  have aa:∀r,(r=s.1 - 1∨r=s.2+1)→inS c r=false:=by
    intro r hr;cases hh:inS c r with
    | false=>rfl
    | true=>
      obtain ⟨t,ht,h1,h2⟩:=zEV.1 hh;rcases ae t ht with h3|h3|h3
      · subst h3;omega
      · omega
      · omega
  have aj:∀r,s.1≤r→r≤s.2→f r=true:=fun r h1 h2=>by rw[←h.2 r qO qO];exact zEV.2 ⟨s,hs,h1,h2⟩
  -- between the greatest cut at or below a point and the point f is constant
  have ai:∀x:Int,1≤x→x≤1114111→f (x - 1)≠f x→x∈p:=by
    intro x h1 h2 al;apply Classical.byContradiction;intro hx
    -- the greatest cut below x
    obtain ⟨a,ha,ac,ag⟩:∃a∈p,a≤x - 1∧∀k∈p,k≤x - 1→k≤a:=by
      have:∀l:List Int,(∃a∈l,a≤x - 1)→∃a∈l,a≤x - 1∧∀k∈l,k≤x - 1→k≤a:=by
        intro l
        induction l with
        | nil=>rintro ⟨a,ha,_⟩;cases ha
        | cons y l ih=>
          rintro ⟨a,ha,ac⟩;by_cases hl:∃a∈l,a≤x - 1
          · obtain ⟨b,hb,ak,ah⟩:=ih hl;by_cases hy:y≤x - 1∧b<y
            · exact ⟨y,List.mem_cons_self,hy.1,fun k hk ab=>by rcases List.mem_cons.1 hk with rfl|h3;omega;have:=ah k h3 ab;omega⟩
            · exact ⟨b,List.mem_cons_of_mem _ hb,ak,fun k hk ab=>by rcases List.mem_cons.1 hk with rfl|h3;omega;exact ah k h3 ab⟩
          · rcases List.mem_cons.1 ha with rfl|h3
            · exact ⟨a,List.mem_cons_self,ac,fun k hk ab=>by rcases List.mem_cons.1 hk with rfl|h4;omega;exact absurd ⟨k,h4,ab⟩ hl⟩
            · exact absurd ⟨a,h3,ac⟩ hl
      exact this p ⟨0,hp0,qO⟩
    have hb:∀k∈p,k≤a∨x<k:=fun k hk=>by
      rcases Int.lt_or_le x k with h3|h3
      · exact .inr h3
      · left;refine ag k hk ?_;rcases Int.lt_or_le k x with h4|h4
        · omega
        · have e:x=k:=qO
          exact absurd (e▸hk) hx
    have e1:=hc a x ha qO h2 hb;have e2:=hc a (x - 1) ha ac qO fun k hk=>by rcases hb k hk with h3|h3;exact .inl h3;right;omega
    exact al (e2.trans e1.symm)
  constructor
  · rcases Int.lt_or_le 0 s.1 with h0|h0
    · refine ai s.1 qO qO ?_;rw[aj s.1 (Int.le_refl _) hv.2.1,←h.2 (s.1 - 1) qO qO,aa _ (.inl rfl)];decide
    · have:s.1=0:=qO
      rw[this];exact hp0
  · intro h1;refine ai (s.2+1) qO qO ?_;rw[show s.2+1 - 1=s.2 by omega,aj s.2 hv.2.1 (Int.le_refl _),←h.2 (s.2+1) qO qO,aa _ (.inr rfl)];decide
theorem zQn {p:List Int} {f:Int→Bool} {c:List Sp} (hp0:(0:Int)∈p) (hc:zOr f p) (h:zDd c f):2*c.length≤p.length+1:=by
 have h1:=zPh h.1;have h2:(zPi c).Nodup:=h1.imp fun hx=>qO
 have h3:=zEO (l:=zPi c) (m:=1114112::p) h2 fun x hx=>by
  obtain ⟨s,hs,hh⟩:=zHR.1 hx;have hv:=h.1.ok s hs;unfold vSp at hv;obtain ⟨e1,e2⟩:=zOc hp0 hc h hs;rcases hh with hh|hh
  ·rw[hh];exact List.mem_cons_of_mem _ e1
  ·rcases Int.lt_or_le s.2 1114111 with h4|h4
   ·rw[hh];exact List.mem_cons_of_mem _ (e2 h4)
   ·rw[hh,show s.2+1=1114112 by omega];exact List.mem_cons_self
 rw[zJk] at h3;simpa using h3
theorem zUH {l:List Sp} {p:List Int} (h:zFp l p):p.length≤2*l.length+1:=by
 have h1:=zEO (l:=p) (m:=0::zPi l) (h.1.imp fun hx=>qO) fun x hx=>by
  rcases (h.2 x).1 hx with h2|⟨s,hs,h2⟩
  ·rw[h2];exact List.mem_cons_self
  ·refine List.mem_cons_of_mem _ (zHR.2 ⟨s,hs,?_⟩);rcases h2 with h2|⟨_,h2⟩
   ·exact .inl h2
   ·exact .inr h2
 rw[List.length_cons,zJk] at h1;exact h1
theorem zOM {ll:List (List Sp)} {p:List Int} (hp:zFp ll.flatten p) (key:List Bool):zOr (fun r=>decide (zBS ll r=key)) p:=by
 intro a r ha h0 h1 hb;have:zBS ll r=zBS ll a:=by
  unfold zBS;apply List.map_congr_left;intro l hl;exact zKw hp hl a r ha h0 h1 hb
 show decide (zBS ll r=key)=decide (zBS ll a=key);rw[this]
structure FirstAt (l:List (List Bool)) (ks:List (List Bool)) (js:List Nat):Prop where
 len:js.length=ks.length
 lt:js.Pairwise (· < ·)
 at':∀(k j:Nat) key,js[k]?=some j→ks[k]?=some key→l[j]?=some key∧∀i,i<j→l[i]?≠some key
theorem zSK (l:List (List Bool)):∃js,FirstAt l (zCu l) js∧(∀j∈js,j<l.length)∧∀m∈l,m∈zCu l:=by
  suffices h:∀n,n≤l.length→∃js,FirstAt (l.take n) (zCu (l.take n)) js∧(∀j∈js,j<n)∧∀m∈l.take n,m∈zCu (l.take n) by
    have:=h l.length (Nat.le_refl _)
    rwa [List.take_length] at this
  intro n
  induction n with
  | zero=>intro _;exact ⟨[],⟨rfl,List.Pairwise.nil,fun k j aa h=>by simp at h⟩,fun j h=>(by cases h),fun m h=>(by simp at h)⟩
  | succ n ih=>
    intro hn;obtain ⟨js,hF,hb,hm⟩:=ih qO;obtain ⟨x,hx⟩:=zAN (l:=l) (i:=n) qO;rw[zDV hx,zIG];have ac:(l.take n).length=n:=by simp;omega
    have ab:∀(i:Nat) aa,i<n→((l.take n++[x])[i]?=some aa↔(l.take n)[i]?=some aa):=fun i aa hi=>by rw[List.getElem?_append_left qO]
    unfold zLz;split
    · rename_i hmem
      refine ⟨js,⟨hF.len,hF.lt,fun k j aa h1 h2=>?_⟩,fun j hj=>by have:=hb j hj;omega,fun m h=>?_⟩
      · have ad:=hb j (List.mem_of_getElem? h1);obtain ⟨h3,h4⟩:=hF.at' k j aa h1 h2;exact ⟨(ab j aa ad).2 h3,fun i hi h5=>h4 i hi ((ab i aa qO).1 h5)⟩
      · rcases List.mem_append.1 h with h1|h1
        · exact hm m h1
        · rw[List.mem_singleton] at h1;rw[h1];exact hmem
    · rename_i hmem
      refine ⟨js++[n],⟨by simp[hF.len],?_,fun k j aa h1 h2=>?_⟩,fun j hj=>?_,fun m h=>?_⟩
      · rw[List.pairwise_append];exact ⟨hF.lt,List.pairwise_singleton _ _,fun a ha b ae=>by rw[List.mem_singleton] at ae;subst ae;exact hb a ha⟩
      · rcases Nat.lt_or_ge k js.length with h3|h3
        · rw[List.getElem?_append_left h3] at h1;rw[List.getElem?_append_left (by rw[←hF.len];exact h3)] at h2;have ad:=hb j (List.mem_of_getElem? h1);obtain ⟨h4,h5⟩:=hF.at' k j aa h1 h2;exact ⟨(ab j aa ad).2 h4,fun i hi h6=>h5 i hi ((ab i aa qO).1 h6)⟩
        · rw[List.getElem?_append_right h3] at h1;rw[List.getElem?_append_right (by rw[←hF.len];exact h3)] at h2;have h4:=zAE h1;simp at h4;rw[show k - js.length=0 by omega] at h1;rw[show k - (zCu (l.take n)).length=0 by have:=hF.len;omega] at h2;simp at h1 h2;subst h1;subst h2;refine ⟨by rw[List.getElem?_append_right qO,ac,Nat.sub_self];rfl,fun i hi h5=>hmem (hm _ (List.mem_of_getElem? ((ab i _ hi).1 h5)))⟩
      · rcases List.mem_append.1 hj with h1|h1
        · have:=hb j h1;omega
        · rw[List.mem_singleton] at h1;omega
      · rcases List.mem_append.1 h with h1|h1
        · exact List.mem_append_left _ (hm m h1)
        · exact List.mem_append_right _ h1
theorem zOY {c:List Sp} {m:Int} (h:Canon c) (hm:inS c m=true) (hl:∀r,0≤r→r<m→inS c r=false):c≠[]∧zBM c=m:=by
  cases c with
  | nil=>cases hm
  | cons s l=>
    refine ⟨fun e=>(by cases e),?_⟩;have hv:=h.head;unfold vSp at hv;show s.1=m;rcases Int.lt_trichotomy s.1 m with h1|h1|h1
    · have:=hl s.1 qO h1;have h2:inS (s::l) s.1=true:=zEV.2 ⟨s,List.mem_cons_self,Int.le_refl _,hv.2.1⟩;rw[this] at h2;cases h2
    · exact h1
    · rw[zEu h h1] at hm;cases hm
structure Parted (ll cs:List (List Sp)):Prop where
 can:∀c∈cs,Canon c
 part:zIB cs
 heads:zIC cs
 mark:∀(k:Nat) c r,cs[k]?=some c→0≤r→r≤1114111→(inS c r=true↔zBS ll r=zBS ll (zBM c))
 low:∀c∈cs,0≤zBM c∧zBM c≤1114111
 inj:∀(i j:Nat) c d,cs[i]?=some c→cs[j]?=some d→zBS ll (zBM c)=zBS ll (zBM d)→i=j
theorem zQq.parted {ll cs:List (List Sp)} (h:zQq ll cs) (hok:∀s∈ll.flatten,vSp s):Parted ll cs:=by
  obtain ⟨p,hp,hl,hm⟩:=h;obtain ⟨js,hF,hb,am⟩:=zSK (p.map (zBS ll));have ab:∀(k:Nat) c,cs[k]?=some c→∃aa j lo,(zCu (p.map (zBS ll)))[k]?=some aa∧js[k]?=some j∧p[j]?=some lo∧zBS ll lo=aa∧zDd c (fun r=>decide (zBS ll r=aa))∧c≠[]∧zBM c=lo∧0≤lo∧lo≤1114111:=by
    intro k c hc;obtain ⟨aa,hk⟩:=zAN (l:=zCu (p.map (zBS ll))) (i:=k) (by have:=zAE hc;omega);obtain ⟨j,hj⟩:=zAN (l:=js) (i:=k) (by have:=zAE hk;have:=hF.len;omega);obtain ⟨h1,h2⟩:=hF.at' k j aa hj hk;rw[List.getElem?_map] at h1;obtain ⟨lo,ac,he⟩:=Option.map_eq_some_iff.1 h1;have hS:=hm k aa c hk hc;have aj:=zDw hp hok (List.mem_of_getElem? ac);obtain ⟨e1,e2⟩:=zOY (m:=lo) hS.1 (by rw[hS.2 lo aj.1 aj.2];exact decide_eq_true he) fun r r0 r1=>by
      rw[hS.2 r r0 qO,decide_eq_false_iff_not];intro hr;obtain ⟨i,li,h4,h5,_,h6⟩:=zHj hp hok j (by have:=zAE ac;omega) r r0 (by rw[zVz ac];exact r1);have ay:i<j:=by
        rcases Nat.lt_or_ge i j with h7|h7
        · exact h7
        · exfalso;have h8:lo≤li:=by
            rcases Nat.lt_or_ge j i with h9|h9
            · have ad:=zAE ac;have af:=zAE h4;rw[List.getElem?_eq_getElem ad] at ac;rw[List.getElem?_eq_getElem af] at h4;cases ac;cases h4;exact Int.le_of_lt (List.pairwise_iff_getElem.1 hp.1 j i ad af h9)
            · obtain rfl:i=j:=qO
              rw[ac] at h4;cases h4;exact Int.le_refl _
          omega
      exact h2 i ay (by rw[List.getElem?_map,h4,Option.map_some,←h6,hr])
    exact ⟨aa,j,lo,hk,hj,ac,he,hS,e1,e2,aj.1,aj.2⟩
  have ap:∀(i j:Nat) aa,(zCu (p.map (zBS ll)))[i]?=some aa→(zCu (p.map (zBS ll)))[j]?=some aa→i=j:=by
    intro i j aa hi hj;obtain ⟨a,ha⟩:=zAN (l:=js) (i:=i) (by have:=zAE hi;have:=hF.len;omega);obtain ⟨b,ai⟩:=zAN (l:=js) (i:=j) (by have:=zAE hj;have:=hF.len;omega);obtain ⟨h1,h2⟩:=hF.at' i a aa ha hi;obtain ⟨h3,h4⟩:=hF.at' j b aa ai hj;have a0:a=b:=by
      rcases Nat.lt_trichotomy a b with h5|h5|h5
      · exact absurd h1 (h4 a h5)
      · exact h5
      · exact absurd h3 (h2 b h5)
    subst a0;have af:=zAE ha;have ad:=zAE ai;rw[List.getElem?_eq_getElem af] at ha;rw[List.getElem?_eq_getElem ad] at ai;have e:=(Option.some.inj ha).trans (Option.some.inj ai).symm;rcases Nat.lt_trichotomy i j with h3|h3|h3
    · have:=List.pairwise_iff_getElem.1 hF.lt i j af ad h3;omega
    · exact h3
    · have:=List.pairwise_iff_getElem.1 hF.lt j i ad af h3;omega
  have ag:∀(i j:Nat) c d,cs[i]?=some c→cs[j]?=some d→zBS ll (zBM c)=zBS ll (zBM d)→i=j:=by
    intro i j c d hc hd he;obtain ⟨aa,_,lo,h1,_,_,h2,_,_,h3,_⟩:=ab i c hc;obtain ⟨aq,_,ax,au,_,_,az,_,_,a3,_⟩:=ab j d hd;rw[h3,a3,h2,az] at he;subst he;exact ap i j aa h1 au
  have ak:∀(k:Nat) c r,cs[k]?=some c→0≤r→r≤1114111→(inS c r=true↔zBS ll r=zBS ll (zBM c)):=by
    intro k c r hc r0 r1;obtain ⟨aa,_,lo,_,_,_,h2,hS,_,h3,_⟩:=ab k c hc;rw[hS.2 r r0 r1,decide_eq_true_eq,h3,h2]
  refine ⟨?_,?_,?_,ak,?_,ag⟩
  · intro c hc;obtain ⟨k,hk⟩:=List.getElem?_of_mem hc;obtain ⟨_,_,_,_,_,_,_,hS,_⟩:=ab k c hk;exact hS.1
  · intro r r0 r1;obtain ⟨lo,ac,a4⟩:=zRc hp hok r0 r1;have ar:=am (zBS ll lo) (List.mem_map.2 ⟨lo,ac,rfl⟩);obtain ⟨k,hk⟩:=List.getElem?_of_mem ar;obtain ⟨c,hc⟩:=zAN (l:=cs) (i:=k) (by have:=zAE hk;omega);have hS:=hm k _ c hk hc;have h1:inS c r=true:=by rw[hS.2 r r0 r1];exact decide_eq_true a4
    have ah:∀(j:Nat) d,cs[j]?=some d→inS d r=true→j=k:=fun j d hd h2=>
      ag j k d c hd hc (((ak j d r hd r0 r1).1 h2).symm.trans ((ak k c r hc r0 r1).1 h1))
    have hkl:=zAE hc;rw[show cs=cs.take k++c::cs.drop (k+1) by rw[←zEd hc,List.take_append_drop],List.countP_append,List.countP_cons,h1];have z1:(cs.take k).countP (fun l=>inS l r)=0:=by
      rw[List.countP_eq_zero];intro d hd h2;obtain ⟨j,hj⟩:=List.getElem?_of_mem hd;have ad:=zAE hj;simp at ad;rw[List.getElem?_take_of_lt qO] at hj;have:=ah j d hj h2;omega
    have z2:(cs.drop (k+1)).countP (fun l=>inS l r)=0:=by
      rw[List.countP_eq_zero];intro d hd h2;obtain ⟨j,hj⟩:=List.getElem?_of_mem hd;rw[List.getElem?_drop] at hj;have:=ah _ d hj h2;omega
    rw[z1,z2];rfl
  · intro k hk;obtain ⟨c,hc⟩:=zAN hk;obtain ⟨_,j,lo,_,hj,ac,_,_,aw,hh,h0,_⟩:=ab k c hc;have ao:cs.getD k []=c:=by simp[List.getD,hc]
    refine ⟨by rw[ao];exact aw,?_⟩;rw[ao,hh];cases k with
    | zero=>show (-1:Int)<lo;omega
    | succ k=>
      obtain ⟨d,hd⟩:=zAN (l:=cs) (i:=k) qO;obtain ⟨_,j',ax,_,al,ae,_,_,_,av,_⟩:=ab k d hd;have an:cs.getD k []=d:=by simp[List.getD,hd]
      show zBM (cs.getD k [])<lo;rw[an,av];have a1:=zAE hj;have a2:=zAE al;rw[List.getElem?_eq_getElem a1] at hj;rw[List.getElem?_eq_getElem a2] at al;cases hj;cases al;have h9:=List.pairwise_iff_getElem.1 hF.lt k (k+1) a2 a1 qO;have b1:=zAE ac;have b2:=zAE ae;rw[List.getElem?_eq_getElem b1] at ac;rw[List.getElem?_eq_getElem b2] at ae;cases ac;cases ae;exact List.pairwise_iff_getElem.1 hp.1 _ _ b2 b1 h9
  · intro c hc;obtain ⟨k,hk⟩:=List.getElem?_of_mem hc;obtain ⟨_,_,lo,_,_,_,_,_,_,h3,h4,h5⟩:=ab k c hk;rw[h3];exact ⟨h4,h5⟩
theorem zQq.short {ll cs:List (List Sp)} (h:zQq ll cs):∀c∈cs,2*c.length≤2*ll.flatten.length+2:=by
 obtain ⟨p,hp,hl,hm⟩:=h;intro c hc;obtain ⟨k,hk⟩:=List.getElem?_of_mem hc;obtain ⟨ab,aa⟩:=zAN (l:=zCu (p.map (zBS ll))) (i:=k) (by have:=zAE hk;omega);have h1:=zQn ((hp.2 0).2 (.inl rfl)) (zOM hp ab) (hm k ab c aa hk);have h2:=zUH hp;omega
theorem zLZ:∀(l:List (List Bool)),(zCu l).Nodup:=by
  intro l
  suffices h:∀(l aa:List (List Bool)),aa.Nodup→(l.foldl zLz aa).Nodup from h l [] List.nodup_nil
  intro l
  induction l with
  | nil=>exact fun aa h=>h
  | cons x l ih=>exact fun aa h=>ih _ (zJY h)
theorem zOZ (l:List (List Bool)):∀m∈zCu l,m∈l:=by
  suffices h:∀(l aa:List (List Bool)),∀m∈l.foldl zLz aa,m∈aa∨m∈l by
    intro m hm;rcases h l [] m hm with h1|h1
    · cases h1
    · exact h1
  intro l
  induction l with
  | nil=>exact fun aa m h=>.inl h
  | cons x l ih=>
    intro aa m h;rcases ih _ m h with h1|h1
    · rcases zNt.1 h1 with h2|h2
      · exact .inl h2
      · rw[h2];exact .inr List.mem_cons_self
    · exact .inr (List.mem_cons_of_mem _ h1)
end Go.Proofs
namespace Go.Proofs
open Go Go.Eng
set_option maxRecDepth 100000
mutual
def zRG:Re→List Re
  | .mk k set args mn mx ng=>.mk k set args mn mx ng::zGE args
def zGE:List Re→List Re
  | []=>[]
  | t::ts=>zRG t++zGE ts
end
theorem zMO (t:Re):zRG t=t::zGE t.args:=by cases t;simp only[zRG,Re.args]
mutual
theorem zNG:∀(t:Re),(zRG t).length=t.size
  | .mk k set args mn mx ng=>by simp only[zRG,Re.size,List.length_cons,zKu args]
theorem zKu:∀(ts:List Re),(zGE ts).length=Re.sizes ts
  | []=>by simp[zGE,Re.sizes]
  | t::ts=>by simp only[zGE,Re.sizes,List.length_append,zNG t,zKu ts]
end
end Go.Proofs
namespace Go.Proofs
open Go Go.Eng Go.Sort
set_option maxRecDepth 100000
def zKT (s:List (List Sp)) (t:Re):List (List Sp):=if t.kind=2∧t.set∉s then s++[t.set] else s
def zBT (t:Re):List (List Sp):=(zRG t).foldl zKT []
theorem zKS {x:List Sp}:∀{l:List Re} {s:List (List Sp)},x∈l.foldl zKT s↔x∈s∨∃t∈l,t.kind=2∧x=t.set
  | [],s=>qP
  | t::l,s=>by
    rw[List.foldl_cons,zKS];have e:x∈zKT s t↔x∈s∨(t.kind=2∧x=t.set):=by
      unfold zKT;split
      · rename_i h
        simp[h.1]
      · rename_i h
        constructor
        · exact .inl
        · rintro (h1|⟨h1,rfl⟩)
          · exact h1
          · exact Classical.byContradiction fun h2=>h ⟨h1,h2⟩
    rw[e];constructor
    · rintro ((h|h)|⟨u,hu,h⟩)
      · exact .inl h
      · exact .inr ⟨t,qP,h⟩
      · exact .inr ⟨u,by simp[hu],h⟩
    · rintro (h|⟨u,hu,h⟩)
      · exact .inl (.inl h)
      · rcases List.mem_cons.1 hu with rfl|hu
        · exact .inl (.inr h)
        · exact .inr ⟨u,hu,h⟩
theorem zNs:∀(l:List Re) (s:List (List Sp)),(l.foldl zKT s).length≤s.length+l.length
  | [],s=>qP
  | t::l,s=>by
    have h:=zNs l (zKT s t);have h2:(zKT s t).length≤s.length+1:=by
      unfold zKT;split
      · simp
      · omega
    rw[List.foldl_cons,List.length_cons];omega
mutual
theorem zNq {P:List Sp→Prop}:∀{t:Re},(∀u∈zRG t,u.kind=2→P u.set)→zIq P t
  | .mk k s a m x g,h=>by
    rw[zMO] at h;exact ⟨h (.mk k s a m x g) qP,zLp fun u hu=>h u (by simp only[List.mem_cons];exact .inr hu)⟩
theorem zLp {P:List Sp→Prop}:∀{ts:List Re},(∀u∈zGE ts,u.kind=2→P u.set)→zLx P ts
  | [],_=>trivial
  | t::ts,h=>by
    simp only[zGE,List.mem_append] at h;exact ⟨zNq fun u hu=>h u (.inl hu),zLp fun u hu=>h u (.inr hu)⟩
end
mutual
theorem zNF {P:List Sp→Prop}:∀{t:Re},zIq P t→∀u∈zRG t,u.kind=2→P u.set
  | .mk k s a m x g,h,u,hu=>by
    rw[zMO] at hu;rcases List.mem_cons.1 hu with rfl|hu
    · exact h.1
    · exact zKt h.2 u hu
theorem zKt {P:List Sp→Prop}:∀{ts:List Re},zLx P ts→∀u∈zGE ts,u.kind=2→P u.set
  | [],_,u,hu=>by simp[zGE] at hu
  | t::ts,h,u,hu=>by
    simp only[zGE,List.mem_append] at hu;rcases hu with hu|hu
    · exact zNF h.1 u hu
    · exact zKt h.2 u hu
end
theorem zMx {P:List Sp→Prop} {t:Re} (h:∀s∈zBT t,P s):zIq P t:=
 zNq fun u hu hk=>h u.set (zKS.2 (.inr ⟨u,hu,hk,rfl⟩))
theorem zFa {P:List Sp→Prop} {t:Re} (h:zIq P t):∀s∈zBT t,P s:=fun s hs=>by
 rcases zKS.1 hs with h1|⟨u,hu,hk,rfl⟩
 ·cases h1
 ·exact zNF h u hu hk
theorem zMw (t:Re):(zBT t).length≤t.size:=by
 have:=zNs (zRG t) [];rw[zNG] at this;simpa[zBT] using this
theorem zSd:∀(l:List (Int×Int)) (p:Option Int),zER p l=0→∀s∈l,vSp s:=by
  intro l
  induction l with
  | nil=>simp
  | cons a l ih=>
    intro p h s hs;rw[zDR] at h;by_cases h1:zFB a=false
    · rw[if_pos h1] at h;simp at h
    rw[if_neg h1] at h;have h2:zER (some a.2) l=0:=by
      split at h
      · split at h
        · simp at h
        · exact h
      · simpa using h
    rcases List.mem_cons.1 hs with rfl|hs
    · simp[zFB] at h1;exact ⟨qO,qO,qO⟩
    · exact ih _ h2 s hs
theorem zKO {s:List Sp} (h:zBR s=0):(∀p∈s,vSp p)∧s.length≤16:=by
 unfold zBR at h;split at h
 ·cases h
 ·exact ⟨zSd _ _ h,qO⟩
theorem zGq:∀{ll:List (List Sp)},(∀l∈ll,zBR l=0)→zJW ll=0
  | [],_=>rfl
  | l::ll,h=>by
    unfold zJW;rw[if_neg (by simp[h l qP])];exact zGq fun x hx=>h x (by simp[hx])
theorem zNg {ll:List (List Sp)} (h:∀l∈ll,zBR l=0):∀s∈ll.flatten,vSp s:=fun s hs=>by
 obtain ⟨l,hl,h1⟩:=List.mem_flatten.1 hs;exact (zKO (h l hl)).1 s h1
theorem zSI {ll:List (List Sp)} (h:∀l∈ll,zBR l=0):ll.flatten.length≤16*ll.length:=by
  induction ll with
  | nil=>simp
  | cons l ll ih=>
    have h1:=(zKO (h l qP)).2;have h2:=ih fun x hx=>h x (by simp[hx]);rw[List.flatten_cons,List.length_append,List.length_cons];omega
theorem zUr {ll cs:List (List Sp)} {c:Int} (h:zQq ll cs) (hok:∀s∈ll.flatten,vSp s) (h0:0≤c) (h1:c≤1114111):∃cl∈cs,∀s∈ll,inS s c=inS s (zBM cl):=by
 have hp:=h.parted hok;have h2:=hp.part c h0 h1;obtain ⟨cl,hm,ab⟩:=List.countP_pos_iff.1 (show 0<cs.countP fun l=>inS l c by omega);obtain ⟨k,hk⟩:=List.mem_iff_getElem?.1 hm;have aa:=(hp.mark k cl c hk h0 h1).1 ab;refine ⟨cl,hm,fun s hs=>?_⟩;unfold zBS at aa;exact List.map_inj_left.1 aa s hs
theorem zSY {ll cs:List (List Sp)} (h:zQq ll cs) (hok:∀s∈ll.flatten,vSp s):∀cl∈cs,cl≠[]∧0≤zBM cl∧zBM cl≤1114111:=fun cl hm=>by
 have hp:=h.parted hok;obtain ⟨k,hk⟩:=List.mem_iff_getElem?.1 hm;have h1:=(hp.heads k (zAE hk)).1;rw[List.getD_eq_getElem?_getD,hk] at h1;exact ⟨h1,hp.low cl hm⟩
end Go.Proofs
namespace Go.Proofs
open Go Go.Eng Go.Sort
set_option maxRecDepth 100000
theorem zKQ:∀{ll:List (List Sp)} {k:Nat} {l:List Sp},(∀x∈ll.take k,zBR x=0)→ll[k]?=some l→zBR l≠0→zJW ll=zBR l
  | [],_,_,_,h,_=>by simp at h
  | x::ll,0,l,_,h,hc=>by simp at h;subst h;unfold zJW;rw[if_pos hc]
  | x::ll,k+1,l,hz,h,hc=>by
    unfold zJW;rw[if_neg (by simpa using hz x qP)];exact zKQ (k:=k) (fun y hy=>hz y (by simp[hy])) (by simpa using h) hc
theorem zEB:∀{ll:List (List Sp)},(∀x∈ll,zBR x=0)→zJW ll=0
  | [],_=>rfl
  | x::ll,h=>by
    unfold zJW;rw[if_neg (by simpa using h x qP)];exact zEB fun y hy=>h y (by simp[hy])
theorem zRg {w:World} {base e size n c:Nat} {a:Option Addr} {xs:List Value} (h:w.ownsRow base e size (.slice a n c) n xs):n≤c∧c≤9223372036854775807:=by
 rcases h.2 with ⟨h1,h0⟩|⟨g,cap,cur,hv,_,_,aa,ab,_⟩
 ·simp only[Value.slice.injEq] at h1;omega
 ·simp only[Value.slice.injEq] at hv;obtain ⟨_,_,rfl⟩:=hv;exact ⟨aa,ab⟩
def zWf (w:World) (r:Value) (out:List (List Sp)) (e:Int):Prop:=∃a c,r=.tuple #[.slice a out.length c,.int .i64 e]∧zBv w (.slice a out.length c) out
theorem zFO (w:World):zBv w (.slice none 0 0) []:=⟨[],zCI.nil _ _ _ _,rfl,fun i u l h=>by simp at h⟩
theorem zRY {ll:List (List Sp)} {i:Nat} {l:List Sp} (h:ll[i]?=some l):zOs (ll.take (i+1)).flatten=zOs (ll.take i).flatten++l.flatMap fun s=>[s.1,s.2+1]:=by
 rw[zCW h];unfold zOs;rw[List.flatMap_append,List.cons_append]
theorem zRZ {l:List Sp} {j:Nat} {s:Sp} (h:l[j]?=some s):(l.take (j+1)).flatMap (fun s=>[s.1,s.2+1])=(l.take j).flatMap (fun s=>[s.1,s.2+1])++[s.1,s.2+1]:=by
 rw[zDV h,List.flatMap_append];simp
theorem zTT {p q:List Int} {i:Nat} {c:Int} (hqp:q=p∨q=p++[1114112]) (hc:q[i]?=some c) (hb:∀x∈p,x≤1114111):(c≤1114111→p[i]?=some c)∧(1114111<c→p.length≤i):=by
 rcases hqp with rfl|rfl
 ·exact ⟨fun _=>hc,fun h=>absurd (hb c (List.mem_of_getElem? hc)) qO⟩
 ·rcases Nat.lt_or_ge i p.length with h1|h1
  ·rw[List.getElem?_append_left h1] at hc;exact ⟨fun _=>hc,fun h=>absurd (hb c (List.mem_of_getElem? hc)) qO⟩
  ·rw[List.getElem?_append_right h1] at hc;have h2:=zAE hc;simp at h2;rw[show i - p.length=0 by omega] at hc;simp at hc;exact ⟨fun h=>qO,fun _=>h1⟩
theorem zQm {p q:List Int} (hqp:q=p∨q=p++[1114112]):p.length≤q.length∧q.length≤p.length+1:=by
 rcases hqp with rfl|rfl<;>simp
theorem zST {p q:List Int} {i:Nat} {c:Int} (hqp:q=p∨q=p++[1114112]) (hi:i≤p.length) (hc:q[i]?=some c):nx p i=c:=by
 unfold nx;rcases hqp with rfl|rfl
 ·rw[hc];rfl
 ·rcases Nat.lt_or_ge i p.length with h1|h1
  ·rw[List.getElem?_append_left h1] at hc;rw[hc];rfl
  ·rw[List.getElem?_append_right h1] at hc;rw[show i - p.length=0 by omega] at hc;simp at hc;rw[List.getElem?_eq_none h1];simpa using hc
theorem zSU {p q:List Int} {i:Nat} (hqp:q=p∨q=p++[1114112]) (hi:q.length≤i):nx p i=1114112:=by
 have:=zQm hqp;unfold nx;rw[List.getElem?_eq_none qO];rfl
theorem CSt.on {w:World} {base n:Nat} {vo:Value} {vs:List Value} {outs:List (List Sp)} (h:CSt w base vo vs outs) (hn:n=outs.length):w.ownsRow base TSs 1 vo n vs:=by subst hn;exact h.o
theorem zRP {outs:List (List Sp)} {ks:List (List Bool)} {m:List Bool} (hl:outs.length=ks.length) (hn:m∉ks):∀(j:Nat) q,(outs++[[]])[j]?=some q→outs[j]?=some q∨(j=ks.length∧q=[]∧m∉ks):=by
 intro j q hq;rcases Nat.lt_or_ge j outs.length with h1|h1
 ·left;rwa [List.getElem?_append_left h1] at hq
 ·right;rw[List.getElem?_append_right h1] at hq;have h2:=zAE hq;simp at h2;rw[show j - outs.length=0 by omega] at hq;simp at hq;exact ⟨qO,by simp[hq],hn⟩
theorem zRQ {vs:List Value} {z:Nat} (h:∀(i:Nat) v b,vs[i]?=some v→v.ownBlock=some b→b<z):∀(i:Nat) v b,(vs++[.slice none 0 0])[i]?=some v→v.ownBlock=some b→b<z:=by
 intro i v b hv hb;rcases Nat.lt_or_ge i vs.length with h1|h1
 ·rw[List.getElem?_append_left h1] at hv;exact h i v b hv hb
 ·rw[List.getElem?_append_right h1] at hv;have h2:=zAE hv;simp at h2;rw[show i - vs.length=0 by omega] at hv;simp at hv;subst hv;cases hb
def zDX (ll:List (List Sp)) (c:Int) (e:Nat):List Int:=(zBS (ll.take e) c).map zSk++List.replicate (ll.length - e) 0
theorem zMU (ll:List (List Sp)) (c:Int):zDX ll c 0=List.replicate ll.length 0:=by simp[zDX,zBS]
theorem zOK {ll:List (List Sp)} {c:Int} {e:Nat} (h:e≤ll.length):(zDX ll c e).length=ll.length:=by
 simp[zDX,zBS];omega
theorem zMV {ll:List (List Sp)} {c:Int} {e:Nat} {l:List Sp} (h:ll[e]?=some l):zDX ll c (e+1)=(zDX ll c e).set e (zSk (inS l c)):=by
 have hl:=zAE h;unfold zDX zBS;rw[zDV h,show ll.length - e=(ll.length - (e+1))+1 by omega,List.replicate_succ,List.map_append,List.map_append,List.append_assoc];have h1:(((ll.take e).map fun l=>inS l c).map zSk).length=e:=by simp;omega
 rw[List.set_append_right _ _ qO,h1,Nat.sub_self];simp
theorem zMW {ll:List (List Sp)} {c:Int} {e:Nat} {l:List Sp} (h:ll[e]?=some l) (hi:inS l c=false):zDX ll c (e+1)=zDX ll c e:=by
 have hl:=zAE h;unfold zDX zBS;rw[zDV h,show ll.length - e=(ll.length - (e+1))+1 by omega,List.replicate_succ,List.map_append,List.map_append,List.append_assoc];simp[hi,zSk]
theorem zOL (ll:List (List Sp)) (c:Int):zDX ll c ll.length=(zBS ll c).map zSk:=by simp[zDX]
theorem zUp (w0:World) (g c n:Nat) (l q:List Int) (hH:Sort.Holds (Value.int .i64) w0 g 0 l.toArray) (hc:l.length≤c∧c≤9223372036854775807) (hn:l.length=n) (hq:q=Lib.compact l) :
  Ret prog 46 #[.slice (some ⟨g,0,none⟩) n c] w0 fun r w=>r=.slice (some ⟨g,0,none⟩) q.length c∧zBZ w r q∧Chg (fun x=>x=g) w0 w:=by
 subst hn;subst hq;exact zUq w0 g c l hH hc
theorem zQp (w0:World) (v:Value) (ll:List (List Sp)) (h:zBv w0 v ll) (hL:ll.flatten.length≤1048576) (hL2:ll.length≤1048576) :
  Ret prog 17 #[v] w0 fun r w=>(∃out e,zOd ll out e∧zWf w r out e)∧Ext w0 w:=by
 obtain ⟨a,c,rfl,_,hle⟩:=h.form;obtain ⟨base,eb⟩:∃base,base=w0.heap.size:=⟨_,rfl⟩;refine qR func17 rfl ntmps17 rfl (fun E=>(zAA (qA _ rfl (qA _ rfl (zAB (zAH (zAA (qM _ rfl (qV (zAJ underlying35 rfl) (qM _ rfl (zAB (zAS (zAp (fun nn_ σ W1=>∃(k:Nat),(∃jj_,σ=zCT jj_ [(0,(.slice a ll.length c)),(23,(.slice a ll.length c)),(24,(I6 (ll.length:Int))),(25,(I6 (k:Int)))])∧Chg zAh w0 W1∧(k≤ll.length)∧(∀l∈ll.take k,zBR l=0)∧nn_=ll.length - k) (n:=ll.length - 0) ?_ ?_)))))))))))))
 ·exact ⟨0,zAz.out ⟨rfl,rfl,rfl,rfl,trivial⟩,E,Nat.zero_le _,qP,rfl⟩
 ·clear E;rintro _ _ W1 ⟨k,⟨j1,rfl⟩,E,hk,hz,rfl⟩;refine zAA (qV (zBF rfl rfl) (zAB (zAH (qC rfl (fun e7=>?_) (fun e7=>?_)))))
  ·obtain ⟨l,hx⟩:=zAN (l:=ll) (i:=k) qO;obtain ⟨b,o,rfl,cf⟩:=zCY h qO;obtain ⟨ra,rc,af,aq⟩:=cf k l hx;refine zAO (zAC (zAH (zAS (zAA (qV (zAD (b:=b) (o:=o) (len:=ll.length) (cap:=c) (i:=k) (o':=o+k) rfl rfl rfl underlying35 zCd qO qO) (qV (zAI rfl zCZ (E.cell (fun f=>f) af)) (qA _ rfl (zAB (zAA (qM _ rfl (qE rfl (zAQ func44 kQ kQ rfl) (zJh _ _ l (aq.ext E)) ?_)))))))))));rintro _ w9 ⟨rfl,X9⟩;replace E:=E.ext X9;refine qA _ rfl (zAB (zAA (qM _ rfl (qV (zDA rfl rfl) (zAB (qC rfl (fun hc=>?_) (fun hc=>?_)))))))
   ·refine zAA (qM _ rfl (qA _ rfl (qA _ rfl (zAB (zAV (zAi (zAU (zAU (zAi (zAU (zCO results17 (v:=(.slice none 0 0)) (v':=(.int .i64 (zBR l))) rfl rfl ?_)))))))))));exact ⟨⟨[],zBR l,.inl ⟨by rw[zKQ hz hx hc];exact hc,(zKQ hz hx hc).symm,rfl⟩,none,0,rfl,zFO _⟩,E⟩
   ·refine zAO (zAR (zAC (zAF (qV (zAv rfl rfl (zBb qO)) (qM _ rfl (zAB (zAC ?_)))))));exact ⟨ll.length - (k+1),qO,k+1,zAz.out ⟨rfl,rfl,rfl,rfl,trivial⟩,E,qO,(fun y hy=>by rw[zDV hx] at hy;rcases List.mem_append.1 hy with h1|h1;exact hz y h1;rw[List.mem_singleton] at h1;subst h1;omega),rfl⟩
  ·have fh:k=ll.length:=qO
   rw[fh,List.take_length] at hz;have bj:=zEB hz;have bd:∀s∈ll.flatten,vSp s:=fun s hs=>by obtain ⟨l,hl,hs⟩:=List.mem_flatten.1 hs;exact (zCM (hz l hl)).1.ok s hs
   refine zAn (zAT (zAT (zAg (zAC (zAA (zAc (ps:=[(0,(I6 0))]) (c:=#[(I6 0)]) qD rfl underlying22 zAy zDI qD qD qK ?_))))));intro bq wq Nq;have Fq:=Nq.ge E;replace E:=E.ext Nq.ext;have Bq:=Nq.blk;refine qA _ rfl (zAB (zAH (zAA (qM _ rfl (qV (zAJ underlying35 rfl) (qM _ rfl (zAB (zAS ?_))))))));have b4:=zJn (base:=base) Bq qO;have dh:base≤wq.heap.size:=by have:=E.size;omega
   refine zAp (fun nn_ σ W4=>∃(i:Nat) (la:Option Addr) (lc:Nat) (n:Nat) (rs:List Int),(∃jj_,σ=zCT jj_ [(0,(.slice a ll.length c)),(36,(.slice a ll.length c)),(37,(I6 (ll.length:Int))),(38,(I6 (i:Int))),(7,(.slice la n lc))])∧Chg zAh w0 W4∧(i≤ll.length)∧(rs=zOs (ll.take i).flatten)∧(n=rs.length)∧(W4.ownsRow base zWn 1 (.slice la n lc) n (rs.map (Value.int .i64)))∧(base≤W4.heap.size)∧nn_=ll.length - i) (n:=ll.length - 0) ?_ ?_
   ·exact ⟨0,some ⟨bq,0,none⟩,1,1,[0],zAz.out ⟨rfl,rfl,rfl,rfl,rfl,trivial⟩,E,Nat.zero_le _,rfl,rfl,b4,dh,rfl⟩
   ·clear E;rintro _ _ W4 ⟨i,la,lc,n,rs,⟨j4,rfl⟩,E,hi,bz,hn,ai,fp,rfl⟩;refine zAA (qV (zBF rfl rfl) (zAB (zAH (qC rfl (fun c6=>?_) (fun c6=>?_)))))
    ·obtain ⟨l,hx⟩:=zAN (l:=ll) (i:=i) qO;obtain ⟨b,o,rfl,cf⟩:=zCY h qO;obtain ⟨ra,rc,af,aq⟩:=cf i l hx;have eg:=zJx ll (i+1);rw[zCW hx,List.length_append] at eg;have c0:=zJj (ll.take i).flatten;rw[←bz] at c0;refine zAO (zAC (zAH (zAS (zAA (qV (zAD (b:=b) (o:=o) (len:=ll.length) (cap:=c) (i:=i) (o':=o+i) rfl rfl rfl underlying35 zCd qO qO) (qV (zAI rfl zCZ (E.cell (fun f=>f) af)) (qA _ rfl (zAB (zAA (qM _ rfl (qV (zAJ underlying23 rfl) (qM _ rfl (zAB (zAS (zAp (fun nn_ σ W6=>∃(j:Nat) (cb:Option Addr) (bs:Nat) (n2:Nat),(∃jj_,σ=zCT jj_ [(0,(.slice (some ⟨b,o,none⟩) ll.length c)),(36,(.slice (some ⟨b,o,none⟩) ll.length c)),(37,(I6 (ll.length:Int))),(38,(I6 (i:Int))),(42,(.slice ra l.length rc)),(43,(I6 (l.length:Int))),(44,(I6 (j:Int))),(7,(.slice cb n2 bs))])∧Chg zAh w0 W6∧(j≤l.length)∧(n2=rs.length+2*j)∧(W6.ownsRow base zWn 1 (.slice cb n2 bs) n2 ((rs++(l.take j).flatMap fun s=>[s.1,s.2+1]).map (Value.int .i64)))∧(base≤W6.heap.size)∧nn_=l.length - j) (n:=l.length - 0) ?_ ?_)))))))))))))))
     ·exact ⟨0,la,lc,n,zAz.out ⟨rfl,rfl,rfl,rfl,rfl,rfl,rfl,rfl,trivial⟩,E,Nat.zero_le _,qO,(by simpa using ai),fp,rfl⟩
     ·clear E;rintro _ _ W6 ⟨j,cb,bs,n2,⟨j6,rfl⟩,E,hj,hn2,ac,aj,rfl⟩;refine zAA (qV (zBF rfl rfl) (zAB (zAH (qC rfl (fun cv=>?_) (fun cv=>?_)))))
      ·obtain ⟨s,hs⟩:=zAN (l:=l) (i:=j) qO;obtain ⟨sb,so,rfl,ei⟩:=zBa aq qO;have fq:=bd s (List.mem_flatten.2 ⟨l,List.mem_of_getElem? hx,List.mem_of_getElem? hs⟩);unfold vSp at fq;have d0:=ac;refine zAO (zAC (zAH (zAS (zAA (qV (zAD (b:=sb) (o:=so) (len:=l.length) (cap:=rc) (i:=j) (o':=so+j*2) rfl rfl rfl underlying23 zBq qO qO) (qV (zAK rfl zGs zBq rfl ((ei j s hs).ext E)) (zAd (v:=(.agg #[(I6 s.1),(I6 s.2)])) (c:=#[(I6 s.1),(I6 s.2)]) (n:=2) qD zEG rfl zBq rfl rfl rfl qS ?_)))))));intro bt wt Nt;have Ft:=Nt.ge E;replace ac:=zAj ac Nt.ext;replace aj:=Nat.le_trans aj Nt.ext.size;replace E:=E.ext Nt.ext;have Bt:=Nt.blk;refine zAB (zAF (qM _ rfl (qF bt 0 0 rfl underlying44 rfl zAy rfl (qV (zAI rfl zAo (Bt.cell rfl)) (qF bt 0 1 rfl underlying44 rfl zAy rfl (qV (zAI rfl zAo (Bt.cell rfl)) (qV (zAv rfl rfl (zBb qO)) (zAc (ps:=[(0,(I6 s.1)),(1,(I6 (s.2+1)))]) (c:=#[(I6 s.1),(I6 (s.2+1))]) qD rfl underlying22 zAy zDI qD qD qK ?_))))))));intro b8 w8 N8;have F8:=N8.ge E;have O8_bt:=N8.lt Bt;replace Bt:=N8.keep Bt;replace ac:=zAj ac N8.ext;replace aj:=Nat.le_trans aj N8.ext.size;replace E:=E.ext N8.ext;have B8:=N8.blk;refine zBp (base:=base) (n:=n2) (m:=2) (xs:=((rs++(l.take j).flatMap fun s=>[s.1,s.2+1]).map (Value.int .i64))) (news:=[(I6 s.1),(I6 (s.2+1))]) (size:=1) (bytes:=8) (v:=(.slice cb n2 bs)) qD underlying22 zAy zJU zDI rfl qD rfl ac rfl (rfl) (B8.cells rfl) qS (by unfold maxLen;omega) qO (aj) ?_;intro v9 er d9 d2 Dv9;replace E:=E.step d2 (fun x hx h=>absurd (ac.lt x h).1 qO);obtain ⟨en,ep,rfl⟩:=zBO d9;refine qA _ rfl (zAB (zAR (zAC (zAF (qV (zAv rfl rfl (zBb qO)) (qM _ rfl (zAB (zAC ?_))))))));exact ⟨l.length - (j+1),qO,j+1,en,ep,n2+2,zAz.out ⟨rfl,rfl,rfl,rfl,rfl,rfl,rfl,rfl,trivial⟩,E,qO,qO,(by rw[zRZ hs,←List.append_assoc];simpa using d9),Nat.le_trans aj d2.size,rfl⟩
      ·have ft:j=l.length:=qO
       rw[ft,List.take_length] at ac;refine zAn (zAT (zAT (zAg (zAR (zAC (zAF (qV (zAv rfl rfl (zBb qO)) (qM _ rfl (zAB (zAC ?_))))))))));exact ⟨ll.length - (i+1),qO,i+1,cb,bs,n2,zOs (ll.take (i+1)).flatten,zAz.out ⟨rfl,rfl,rfl,rfl,rfl,trivial⟩,E,qO,rfl,(by rw[zJj,zCW hx,List.length_append];omega),(by rw[zRY hx,←bz];exact ac),aj,rfl⟩
    ·have fm:i=ll.length:=qO
     rw[fm,List.take_length] at bz;have c0:=zJj ll.flatten;rw[←bz] at c0;obtain ⟨d8,d5⟩:n≤lc∧lc≤9223372036854775807:=zRg ai;obtain ⟨g,rfl,hgb,hgc⟩:=zBe ai qO;have hgl:=ai.lt g rfl;obtain ⟨q,hq⟩:∃q,q=Lib.compact (rs.mergeSort leB):=⟨_,rfl⟩;obtain ⟨ez,dz⟩:q.Pairwise (· < ·)∧∀x,x∈q↔x∈zOs ll.flatten:=by rw[hq,←bz];exact zIi rs
     obtain ⟨p,hP,cd⟩:=zSS bd ez dz;subst hn;refine zAn (zAT (zAT (zAg (zAC (zAA (qM _ rfl (qE rfl (zAQ func45 kQ kQ rfl) (zTv _ base g lc rs ai qO) ?_)))))));rintro _ w31 ⟨rfl,e0,dx⟩;replace E:=E.step dx (fun x hx hm=>absurd (ai.lt g rfl).1 qO);refine zAB (zAA (qM _ rfl (qE rfl (zAQ func46 kQ kQ rfl) (zUp _ g lc rs.length (rs.mergeSort leB) q e0 (by simp;omega) qP hq) ?_)));rintro _ ex ⟨rfl,ej,d7⟩;replace E:=E.step d7 (fun x hx hm=>absurd (ai.lt g rfl).1 qO);refine qA _ rfl (zAB (zAA (qA _ rfl (zAB (zAA (zEW zKa zEz qD ?_))))));intro bm wm Nm;have Fm:=Nm.ge E;replace E:=E.ext Nm.ext;intro Mm;refine qA _ rfl (zAB (zAH (zAA (qM _ rfl (qV (zAJ underlying22 rfl) (qM _ rfl (zAB (zAS ?_))))))));obtain ⟨n1,e5⟩:∃n,n=wm.heap.size:=⟨_,rfl⟩;have eo:zFf (fun b=>b=g) wm 1 (.slice (some ⟨g,0,none⟩) q.length lc) (q.map zMa):=zFf.mk (ej.ext Nm.ext) rfl;have e8:bm<n1:=by have:=Mm.lt;omega
     have e2:g<bm:=by have:=d7.size;have:=dx.size;have:=Nm.eq;omega
     have e4:w0.heap.size≤n1:=by have:=E.size;omega
     have d6:∀x∈p,x≤1114111:=fun x hx=>(zDw hP bd hx).2;have hpl:p.length≤1114112:=zUG hP.1 (fun x hx=>zDw hP bd hx);have hql:=zQm cd;have fj:∀x∈q,0≤x∧x≤1114112:=fun x hx=>by rcases zJi.1 ((dz x).1 hx) with h1|⟨s,hs,h1⟩;omega;have:=bd s hs;unfold vSp at this;omega
     refine zAp (fun nn_ σ W9=>∃(i2:Nat) (ks:List (List Bool)) (aa:List (List Sp)) (vs:List Value) (oa:Option Addr) (oc:Nat) (on:Nat),(∃jj_,σ=zCT jj_ [(0,(.slice a ll.length c)),(7,(.slice (some ⟨g,0,none⟩) q.length lc)),(13,(.map (some bm))),(63,(.slice (some ⟨g,0,none⟩) q.length lc)),(64,(I6 (q.length:Int))),(65,(I6 (i2:Int))),(12,(.slice oa on oc))])∧Chg zAh w0 W9∧zCC W9 bm zKa zEz (zEb ks 0)∧(GInv ll p i2 ks aa)∧(i2≤p.length)∧(CSt W9 n1 (.slice oa on oc) vs aa)∧(on=aa.length)∧(zFf (fun b=>b=g) W9 1 (.slice (some ⟨g,0,none⟩) q.length lc) (q.map zMa))∧(n1≤W9.heap.size)∧nn_=p.length - i2) (n:=p.length - 0) ?_ ?_
     ·exact ⟨0,[],[],[],none,0,0,zAz.out ⟨rfl,rfl,rfl,rfl,rfl,rfl,rfl,trivial⟩,E,Mm,GInv.start hP bd,Nat.zero_le _,CSt.start _ _,rfl,eo,qO,rfl⟩
     ·clear E Mm;rintro _ _ W9 ⟨i2,ks,aa,vs,oa,oc,on,⟨j9,rfl⟩,E,Mm,hG,hi2,hC,ax,hI,cw,rfl⟩;refine zAA (qV (zBF rfl rfl) (zAB (zAH (qC rfl (fun cr=>?_) (fun cr=>?_)))))
      ·obtain ⟨c1,cp⟩:=zAN (l:=q) (i:=i2) qO;obtain ⟨qb,qo,b2,ey⟩:=zBG (l:=q) hI.at qO;simp only[Option.some.injEq,Addr.mk.injEq,and_true] at b2;obtain ⟨rfl,rfl⟩:=b2;refine zAO (zAC (zAH (zAS (zAA (qM _ rfl (qV (zAD (b:=g) (o:=0) (len:=q.length) (cap:=lc) (i:=i2) (o':=0+i2) rfl rfl rfl underlying22 zAy qO qO) (qV (zAI rfl zAo (ey i2 c1 cp)) (qA _ rfl (qA _ rfl (zAB (zAH (zAA (qM _ rfl (qV (zDB rfl rfl) (zAB (qC rfl (fun ch=>?_) (fun ch=>?_)))))))))))))))))
       ·have cy:i2=p.length:=by have:=(zTT cd cp d6).2 ch;omega
        have a3:=hG;rw[cy] at a3;have dg:=hC.join;have ce:=hG.cnt;have c2:=hG.len;refine zAn (zAT (zQO qD (zAT (zAT (zAg (zAC (zAH (zAA (qM _ rfl (qV (zAJ underlying35 rfl) (qM _ rfl (zAB (zAS (zAp (fun nn_ σ cj=>∃(k3:Nat) (cs:List (List Sp)) (us:List Value),(∃jj_,σ=zCT jj_ [(12,(.slice oa on oc)),(133,(I6 (on:Int))),(134,(I6 (k3:Int)))])∧Chg zAh w0 cj∧(k3≤aa.length)∧(JSt cj n1 (.slice oa on oc) us aa cs k3)∧(∀c∈cs,c.length≤16)∧(n1≤cj.heap.size)∧nn_=aa.length - k3) (n:=aa.length - 0) ?_ ?_))))))))))))))
        ·exact ⟨0,[],vs,zAz.out ⟨rfl,rfl,rfl,trivial⟩,E,Nat.zero_le _,dg,qP,cw,rfl⟩
        ·clear E;rintro _ _ cj ⟨k3,cs,us,⟨j12,rfl⟩,E,fd,hJ,b1,eu,rfl⟩;refine zAA (qV (zBF rfl rfl) (zAB (zAH (qC rfl (fun a6=>?_) (fun a6=>?_)))))
         ·obtain ⟨o1,ag⟩:=zAN (l:=aa) (i:=k3) qO;obtain ⟨u1,b7⟩:=zAN (l:=us) (i:=k3) (by have:=hJ.len;omega);obtain ⟨⟨ua,uc,rfl⟩,dc⟩:=hJ.rst k3 u1 o1 (Nat.le_refl _) b7 ag;have ar:=hJ.o;rw[←ax] at ar;obtain ⟨gg,rfl,d3,cq⟩:=zBe ar qO;have a2:=ar.lt gg rfl;have du:=(a3.ok k3 o1 ag);refine zAO (zAC (zAH (zAS (zAA (qM _ rfl (qA _ rfl (zAB (zAA (qM _ rfl (qM _ rfl (qM _ rfl (qM _ rfl (qV (zAD (b:=gg) (o:=0) (len:=on) (cap:=oc) (i:=k3) (o':=0+k3) rfl rfl rfl underlying35 zCd qO qO) (qV (zAI (v:=(.slice ua o1.length uc)) rfl zCZ ((by have h1:=(ar.cells (g:=gg) rfl) k3 _ b7;rwa [Addr.add_lit] at h1))) (qE rfl (zAQ func48 kQ kQ rfl) (zQL _ _ o1 dc.at qO du.1) ?_)))))))))))))));rintro _ fo ⟨⟨j1,b5,⟨⟨ja,jc,rfl⟩,da⟩⟩,a0⟩;replace E:=E.ext a0;obtain ⟨bo,al,ed⟩:=zJo (zAj ar a0);refine qV (zAD (b:=gg) (o:=0) (len:=on) (cap:=oc) (i:=k3) (o':=0+k3) rfl rfl rfl underlying35 zCd qO qO) ?_;have ao:=al;have az:True:=trivial;refine zBC (b:=gg) (o:=0+k3) (c':=bo.setIfInBounds (0+k3) (.slice ja j1.length jc)) (v:=(.slice ja j1.length jc)) rfl rfl rfl zCd al qO (rfl) ?_;intro w14 dv;replace az:=dv;replace E:=dv.step E qQ;replace al:=dv.blk;refine zAB (zAA (qM _ rfl (qM _ rfl (qV (zAD (b:=gg) (o:=0) (len:=on) (cap:=oc) (i:=k3) (o':=0+k3) rfl rfl rfl underlying35 zCd qO qO) (qV (zAI rfl zCZ (al.cell (by rw[Array.getElem?_setIfInBounds_self_of_lt qO]))) ?_)))));refine qV (zAJ underlying23 rfl) (qV (zDB rfl rfl) (zAB (qC rfl (fun c8=>?_) (fun c8=>?_))))
          ·refine zAA (qA _ rfl (qA _ rfl (zAB (zAV (zAi (zAU (zAU (zAi (zAU (zCO results17 (v:=(.slice none 0 0)) (v':=(.int .i64 2)) rfl rfl ?_))))))))));obtain ⟨cF,dl,ds⟩:=zLh a3 hP ag b5 qO;exact ⟨⟨[],2,.inr ⟨bj,cF,dl,.inl ⟨ds,rfl,rfl⟩⟩,none,0,rfl,zFO _⟩,E⟩
          ·refine zAO (zAR (zAC (zAF (qV (zAv rfl rfl (zBb qO)) (qM _ rfl (zAB (zAC ?_)))))));exact ⟨aa.length - (k3+1),qO,k3+1,cs++[j1],us.set k3 (.slice ja j1.length jc),zAz.out ⟨rfl,rfl,rfl,trivial⟩,E,qO,(by have hS:=JSt.step (hJ.ext a0) ax ag (⟨⟨_,_,rfl⟩,da⟩:zIn _ _ _ j1) a2.2 b5 ao (by simpa using az);exact hS),(fun c hc=>by rcases List.mem_append.1 hc with h1|h1;exact b1 c h1;rw[List.mem_singleton] at h1;subst h1;omega),(by have:=a0.size;have:=az.chg.size;omega),rfl⟩
         ·have ah:k3=aa.length:=qO
          have au:=a3.done hP (by rw[hJ.cl,ah]) hJ.jn;have aq:=hJ.done ah;have ap:cs.length=on:=by rw[hJ.cl,ah,ax]
          refine zAn (zAT (zAT (zAg (zAC (zAH (zAA (qM _ rfl (qV (zAJ underlying35 rfl) (qV (zDB rfl rfl) (zAB (qC rfl (fun a7=>?_) (fun a7=>?_))))))))))))
          ·refine zAA (qA _ rfl (qA _ rfl (zAB (zAV (zAU (zCO results17 (v:=(.slice none 0 0)) (v':=(.int .i64 2)) rfl rfl ?_))))));exact ⟨⟨[],2,.inr ⟨bj,cs,au,.inl ⟨.inr qO,rfl,rfl⟩⟩,none,0,rfl,zFO _⟩,E⟩
          ·refine zAO (zAC (zAA (qM _ rfl (qA _ rfl (qA _ rfl (zAB (zAV (zCO results17 (v:=(.slice oa on oc)) (v':=(.int .i64 0)) rfl rfl ?_))))))));rw[←ap] at aq;exact ⟨⟨cs,0,.inr ⟨bj,cs,au,.inr ⟨fun cu=>by rcases cu with ⟨c,h1,h2⟩|h2;have:=b1 c h1;omega;omega,rfl,rfl⟩⟩,oa,oc,by rw[ap],aq⟩,E⟩
       ·have E6:Chg zAh W9 W9:=Chg.refl _ _;obtain ⟨z0,e9⟩:∃z0,z0=(W9).heap.size:=⟨_,rfl⟩;have bp:∀(i:Nat) v b,vs[i]?=some v→v.ownBlock=some b→b<z0:=fun i v b hv hb=>by obtain ⟨l,hl⟩:=hC.some hv;have:=((hC.inn i v l hv hl).lt b hb).2;omega
        have ee:=(zTT cd cp d6).1 qO;have hlp:=zAE ee;refine zAO (zAC (zAA (qM _ rfl (qV (zBA (ps:=[(0,(I6 c1)),(1,(I6 1114111))]) (v:=(.agg #[(I6 c1),(I6 1114111)])) rfl qK) (zAd (v:=(.agg #[(I6 c1),(I6 1114111)])) (c:=#[(I6 c1),(I6 1114111)]) (n:=2) qD zEG rfl zBq rfl rfl rfl qS ?_)))));intro bx wx Nx;have Fx:=Nx.ge E;have Fx_E6:=Nx.ge E6;have Ox_bm:=Nx.ltM Mm;replace Mm:=Nx.keepM Mm;replace E:=E.ext Nx.ext;have Bx:=Nx.blk;replace E6:=E6.ext Nx.ext;refine zAB (zGU (fun σ cc=>∃(hi:Int),(∃jj_,σ=zCT jj_ [(0,(.slice a ll.length c)),(7,(.slice (some ⟨g,0,none⟩) q.length lc)),(12,(.slice oa on oc)),(13,(.map (some bm))),(15,(I6 c1)),(16,(P6 bx 0)),(63,(.slice (some ⟨g,0,none⟩) q.length lc)),(64,(I6 (q.length:Int))),(65,(I6 (i2:Int)))])∧Chg zAh w0 cc∧Chg zAh W9 cc∧zCC cc bm zKa zEz (zEb ks 0)∧Blk cc bx (#[Value.int .i64 c1,Value.int .i64 hi]) 44∧(hi=nx p (i2+1) - 1)) ?_ ?_)
        ·skip
         refine zAA (qM _ rfl (qV (zAv rfl rfl (zBb qO)) (qM _ rfl (qV (zAJ underlying22 rfl) (qV (zBF rfl rfl) (zAB (qC rfl (fun ff=>?_) (fun ff=>?_))))))))
         ·obtain ⟨d1,c5⟩:=zAN (l:=q) (i:=i2+1) qO;have hdn:=zST cd qO c5;have hdb:=fj d1 (List.mem_of_getElem? c5);refine zAF (qM _ rfl (qM _ rfl (qV (zAv rfl rfl (zBb qO)) (qV (zAD (b:=g) (o:=0) (len:=q.length) (cap:=lc) (i:=i2+1) (o':=0+(i2+1)) rfl rfl qO underlying22 zAy qO qO) (qV (zAI rfl zAo (((hI.chg E6 fun _ _ f=>f).at |> fun hh=>by obtain ⟨qb,qo,dy,et⟩:=zBG (l:=q) hh qO;simp only[Option.some.injEq,Addr.mk.injEq,and_true] at dy;obtain ⟨rfl,rfl⟩:=dy;exact et (i2+1) d1 c5))) (qV (zEJ (k:=.i64) (a:=d1) (b:=1) (c:=d1 - 1) rfl rfl (zBb qO)) (qF bx 0 1 rfl underlying44 rfl zAy rfl (zBC (b:=bx) (o:=1) (c':=#[(I6 c1),(I6 (d1 - 1))]) (v:=(I6 (d1 - 1))) rfl rfl rfl zAy Bx qP rfl ?_))))))));intro w19 ci;replace Mm:=ci.keepM qO Mm;replace E:=ci.step E qQ;replace E6:=ci.step E6 (Or.inl qO);replace Bx:=ci.blk;refine zAB (zAC ?_);exact ⟨d1 - 1,zAz.out ⟨rfl,rfl,rfl,rfl,rfl,rfl,rfl,rfl,rfl,trivial⟩,E,E6,Mm,Bx,qO⟩
         ·refine zAO (zAC ?_);exact ⟨1114111,zAz.out ⟨rfl,rfl,rfl,rfl,rfl,rfl,rfl,rfl,rfl,trivial⟩,E,E6,Mm,Bx,(by rw[zSU cd qO];rfl)⟩
        ·clear E E6 Mm Bx;rintro _ cc ⟨hi,⟨j17,rfl⟩,E,E6,Mm,Bx,fk⟩;refine zAA (qM _ rfl (qV (zAJ underlying35 rfl) (zEx (n:=ll.length) (z:=(.int .u8 0)) (bytes:=1) qD underlying69 zRR zXX zWh rfl rfl rfl qO qO ?_)));intro bk wk Nk;have Fk:=Nk.ge E;have Fk_E6:=Nk.ge E6;have Ok_bm:=Nk.ltM Mm;have Ok_bx:=Nk.lt Bx;replace Mm:=Nk.keepM Mm;replace Bx:=Nk.keep Bx;replace E:=E.ext Nk.ext;have Bk:=Nk.blk;replace E6:=E6.ext Nk.ext;refine qA _ rfl (zAB (zAH (zAA (qM _ rfl (qV (zAJ underlying35 rfl) (qM _ rfl (zAB (zAS ?_))))))));rw[show (List.replicate ll.length (Value.int .u8 0))=(zDX ll c1 0).map (Value.int .u8) from by rw[zMU,List.map_replicate]] at Bk;refine zAp (fun nn_ σ bf=>∃(e1:Nat),(∃jj_,σ=zCT jj_ [(0,(.slice a ll.length c)),(7,(.slice (some ⟨g,0,none⟩) q.length lc)),(12,(.slice oa on oc)),(13,(.map (some bm))),(15,(I6 c1)),(16,(P6 bx 0)),(17,(.slice (some ⟨bk,0,none⟩) ll.length ll.length)),(63,(.slice (some ⟨g,0,none⟩) q.length lc)),(64,(I6 (q.length:Int))),(65,(I6 (i2:Int))),(89,(.slice a ll.length c)),(90,(I6 (ll.length:Int))),(91,(I6 (e1:Int)))])∧Chg zAh w0 bf∧Chg zAh W9 bf∧zCC bf bm zKa zEz (zEb ks 0)∧Blk bf bx #[(I6 c1),(I6 hi)] 44∧Blk bf bk (((zDX ll c1 e1).map (Value.int .u8)).toArray) 5∧(e1≤ll.length)∧nn_=ll.length - e1) (n:=ll.length - 0) ?_ ?_
         ·exact ⟨0,zAz.out ⟨rfl,rfl,rfl,rfl,rfl,rfl,rfl,rfl,rfl,rfl,rfl,rfl,rfl,trivial⟩,E,E6,Mm,Bx,Bk,Nat.zero_le _,rfl⟩
         ·clear E E6 Mm Bx Bk;rintro _ _ bf ⟨e1,⟨j20,rfl⟩,E,E6,Mm,Bx,Bk,ew,rfl⟩;refine zAA (qV (zBF rfl rfl) (zAB (zAH (qC rfl (fun dk=>?_) (fun dk=>?_)))))
          ·obtain ⟨l6,di⟩:=zAN (l:=ll) (i:=e1) qO;obtain ⟨b,o,rfl,cf⟩:=zCY h qO;obtain ⟨ra,rc,af,aq⟩:=cf e1 l6 di;refine zAO (zAC (zAH (zAS (zAA (qM _ rfl (qV (zAD (b:=b) (o:=o) (len:=ll.length) (cap:=c) (i:=e1) (o':=o+e1) rfl rfl rfl underlying35 zCd qO qO) (qV (zAI rfl zCZ (E.cell (fun f=>f) af)) (qA _ rfl (qA _ rfl (zAB (zAA (qM _ rfl (qM _ rfl (qE rfl (zAQ func47 kQ kQ rfl) (zXK _ _ l6 c1 (aq.ext E)) ?_))))))))))))));rintro _ w51 ⟨rfl,bv⟩;replace Mm:=bv.keepM Mm;replace Bx:=bv.keep Bx;replace Bk:=bv.keep Bk;replace E:=E.ext bv;replace E6:=E6.ext bv;refine zAB (zBD rfl (fun b6=>?_) (fun b6=>?_))
           ·have dd:=b6;have hml:=zOK (c:=c1) ew;refine zAF (qM _ rfl (qM _ rfl (qV (zAD (b:=bk) (o:=0) (len:=ll.length) (cap:=ll.length) (i:=e1) (o':=0+e1) rfl rfl rfl underlying69 zRR qO qO) (zBC (b:=bk) (o:=0+e1) (c':=((zDX ll c1 (e1+1)).map (Value.int .u8)).toArray) (v:=(.int .u8 1)) rfl rfl rfl zRR Bk (by simp;omega) (by rw[zMV di,b6];simp[zSk,List.map_set]) ?_))));intro w23 bw;replace Mm:=bw.keepM qO Mm;replace Bx:=bw.keep qO Bx;replace E:=bw.step E qQ;replace E6:=bw.step E6 (Or.inl qO);replace Bk:=bw.blk;refine zAB (zAR (zAC (zAF (qV (zAv rfl rfl (zBb qO)) (qM _ rfl (zAB (zAC ?_)))))));exact ⟨ll.length - (e1+1),qO,e1+1,zAz.out ⟨rfl,rfl,rfl,rfl,rfl,rfl,rfl,rfl,rfl,rfl,rfl,rfl,rfl,trivial⟩,E,E6,Mm,Bx,Bk,qO,rfl⟩
           ·have dd:=b6;have dm:zDX ll c1 (e1+1)=zDX ll c1 e1:=zMW di b6;rw[←dm] at Bk;refine zAO (zAR (zAC (zAF (qV (zAv rfl rfl (zBb qO)) (qM _ rfl (zAB (zAC ?_)))))));exact ⟨ll.length - (e1+1),qO,e1+1,zAz.out ⟨rfl,rfl,rfl,rfl,rfl,rfl,rfl,rfl,rfl,rfl,rfl,rfl,rfl,trivial⟩,E,E6,Mm,Bx,Bk,qO,rfl⟩
          ·have eh:e1=ll.length:=qO
           rw[eh,zOL] at Bk;refine zAn (zAT (zAT (zAg (zAC (zAA (qM _ rfl (qM _ rfl (qV (zCf underlying69 underlying5 underlying9 rfl Bk (by simp[zBS])) (zBo (v:=(.tuple #[(I6 ((zBr (zEb ks 0) (zKK (zBS ll c1))).getD 0)),(.bool ((zBr (zEb ks 0) (zKK (zBS ll c1))).isSome))])) rfl rfl qD (zEY (k:=(zKK (zBS ll c1))) (z:=0) underlying80 (zHF underlying9) zDI Mm rfl rfl) (qM _ rfl (qV (zAa rfl rfl) (qV (zAa rfl rfl) (qA _ rfl (qA _ rfl (zAB ?_)))))))))))))));have ay:=hC.ext E6;have bi:=hI.chg E6 fun _ _ f=>f;have bc:=Nat.le_trans cw E6.size;have ce:=hG.cnt;have b3:on=ks.length:=by rw[ax,hG.len]
           refine zGU (fun σ a4=>∃(kk:Nat) (bn:List (List Bool)) (ad:List (List Sp)) (cg:List Value) (dr:Option Addr) (am ak:Nat),(∃jj_,σ=zCT jj_ [(0,(.slice a ll.length c)),(7,(.slice (some ⟨g,0,none⟩) q.length lc)),(13,(.map (some bm))),(16,(P6 bx 0)),(63,(.slice (some ⟨g,0,none⟩) q.length lc)),(64,(I6 (q.length:Int))),(65,(I6 (i2:Int))),(12,(.slice dr ak am)),(20,(I6 (kk:Int)))])∧Chg zAh w0 a4∧zCC a4 bm zKa zEz (zEb bn 0)∧Blk a4 bx #[(I6 c1),(I6 hi)] 44∧Blk a4 bk ((((zBS ll c1).map zSk).map (Value.int .u8)).toArray) 5∧(bn=zLz ks (zBS ll c1))∧(ad.length=bn.length)∧(∀(j:Nat) q,ad[j]?=some q→aa[j]?=some q∨(j=ks.length∧q=[]∧zBS ll c1∉ks))∧(bn[kk]?=some (zBS ll c1))∧(CSt a4 n1 (.slice dr ak am) cg ad)∧(ak=ad.length)∧(zFf (fun b=>b=g) a4 1 (.slice (some ⟨g,0,none⟩) q.length lc) (q.map zMa))∧(n1≤a4.heap.size)∧(∀(i:Nat) v b,cg[i]?=some v→v.ownBlock=some b→b<z0)) ?_ ?_
           ·skip
            refine zAA (qM _ rfl (qV (zCa rfl) (zAB (zBD rfl (fun ae=>?_) (fun ae=>?_)))))
            ·have ca:=ae;replace ae:=by simpa using ae
             have e3:zBr (zEb ks 0) (zKK (zBS ll c1))=none:=by simpa using ae
             obtain ⟨bu,dj⟩:=zOQ e3;refine zAA (qM _ rfl (qV (zAJ underlying35 rfl) (qA _ rfl (zAB (zAA (qM _ rfl (qM _ rfl (qV (zCf underlying69 underlying5 underlying9 rfl Bk (by simp[zBS])) (qM _ rfl (zDJ (k:=(zKK (zBS ll c1))) (v:=(on:Int)) underlying80 (zHF underlying9) Mm rfl rfl rfl ?_))))))))));intro w26 bg fa;replace bc:=Nat.le_trans bc bg.chg.size;replace ay:=ay.chg bg.chg fun b h1 _ h2=>absurd h2 qO;replace bi:=bi.chg bg.chg fun b h1 h2=>by subst h1;omega
             replace Bx:=bg.keep qO Bx;replace Bk:=bg.keep qO Bk;replace E:=bg.step E qQ;replace Mm:=fa;refine zAB (zAF (qM _ rfl (zAc (ps:=[(0,(.slice none 0 0))]) (c:=#[(.slice none 0 0)]) qD rfl underlying35 zCd zOx qD qD qK ?_)));intro b27 w27 an;have F27:=an.ge E;have O27_bm:=an.ltM Mm;have O27_bx:=an.lt Bx;have O27_bk:=an.lt Bk;replace Mm:=an.keepM Mm;replace Bx:=an.keep Bx;replace Bk:=an.keep Bk;replace ay:=ay.ext an.ext;replace bi:=bi.chg an.ext fun _ _ f=>f;replace bc:=Nat.le_trans bc an.ext.size;replace E:=E.ext an.ext;have fg:=an.blk;refine zBp (base:=n1) (n:=on) (m:=1) (xs:=vs) (news:=[(.slice none 0 0)]) (size:=1) (bytes:=24) (v:=(.slice oa on oc)) qD underlying35 zCd zWW zOx rfl qD rfl (ay.on ax) rfl (rfl) (fg.cells rfl) qS (by unfold maxLen;omega) qO (bc) ?_;intro v7 w59 d4 be fb;replace Mm:=be.keepM (fun h=>by have:=(ay.o.lt _ h).1;omega) Mm;replace Bx:=be.keep (fun h=>by have:=(hC.o.lt _ h).2;omega) Bx;replace Bk:=be.keep (fun h=>by have:=(hC.o.lt _ h).2;omega) Bk;replace E:=E.step be (fun x hx h=>absurd ((ay.on ax).lt x h).1 qO);obtain ⟨fe,es,rfl⟩:=zBO d4;rw[b3,dj] at Mm;refine qA _ rfl (zAB (zAC ?_));exact ⟨on,ks++[zBS ll c1],aa++[[]],vs++[.slice none 0 0],fe,es,on+1,zAz.out ⟨rfl,rfl,rfl,rfl,rfl,rfl,rfl,rfl,rfl,trivial⟩,E,Mm,Bx,Bk,(by unfold zLz;rw[if_neg bu]),(by simp;omega),zRP hG.len bu,(by rw[b3];simp),ay.push (by rw[←ax];exact d4) be fb,(by simp;omega),bi.chg be fun b h1 h2=>by subst h1;have:=(ay.o.lt _ h2).1;omega,Nat.le_trans bc be.size,zRQ bp⟩
            ·have ca:=ae;replace ae:=by simpa using ae
             have em:(zBr (zEb ks 0) (zKK (zBS ll c1))).isSome=true:=by simpa using ae
             obtain ⟨v9,dw⟩:=Option.isSome_iff_exists.1 em;obtain ⟨j9,rfl,ec⟩:=zQD dw;rw[show (zBr (zEb ks 0) (zKK (zBS ll c1))).getD 0=((j9:Nat):Int) from by rw[dw];rfl];refine zAO (zAC ?_);exact ⟨j9,ks,aa,vs,oa,oc,on,zAz.out ⟨rfl,rfl,rfl,rfl,rfl,rfl,rfl,rfl,rfl,trivial⟩,E,Mm,Bx,Bk,(by unfold zLz;rw[if_pos (List.mem_of_getElem? ec)]),qO,(fun j q h=>.inl h),ec,ay,ax,bi,bc,bp⟩
           ·clear E Mm Bx Bk;rintro _ a4 ⟨kk,bn,ad,cg,dr,am,ak,⟨j24,rfl⟩,E,Mm,Bx,Bk,de,dp,b0,ba,a5,bb,fr,fi,ea⟩;obtain ⟨o1,ag⟩:=zAN (l:=ad) (i:=kk) (by have:=zAE ba;omega);obtain ⟨v1,a9⟩:=zAN (l:=cg) (i:=kk) (by have:=a5.len;have:=zAE ba;omega);obtain ⟨va,vc,rfl⟩:=zBO (a5.inn kk v1 o1 a9 ag);have hko:=zAE ag;have fs:o1.length≤i2:=by rcases b0 kk o1 ag with h1|⟨_,h1,_⟩;exact (hG.ok kk o1 h1).2;subst h1;exact Nat.zero_le _
            obtain ⟨gg,rfl,d3,cq⟩:=zBe (a5.on bb) qO;have a2:=a5.o.lt gg rfl;have a1:=a5.inn kk _ o1 a9 ag;obtain ⟨h0,ef⟩:∃h0,h0=(a4).heap.size:=⟨_,rfl⟩;obtain ⟨co,ab⟩:∃Fs:List (FactT ((fun y=>(Value.slice va o1.length vc).ownBlock=some y))),Fs=[.eq (.slice (some ⟨gg,0,none⟩) ak am),.eq (I6 (kk:Int)),.eq (.slice (some ⟨gg,0,none⟩) ak am),.eq (I6 (kk:Int)),.eq (.pointer (some ⟨gg,0+kk,none⟩)),.eq (.slice va o1.length vc),.eq (.agg #[(I6 c1),(I6 hi)]),.till (zDx TSp #[.int .i64 c1,.int .i64 hi] 0) (zJw _ _ _),.own (zDH n1 TSp 2 (o1.length+1) ((o1.map zBl).flatten++[Value.int .i64 c1,Value.int .i64 hi]) (.slice va o1.length vc) h0) (zKR _ _ _ _ _ _ _)]:=⟨_,rfl⟩;refine zIV ((fun y=>(Value.slice va o1.length vc).ownBlock=some y)) 9 8 [121,122,123,124,125,126,127,128,129] [[],[],[],[],[2,3],[4],[],[6],[5,7]] co ab rfl mixed qK qK qK ?_ ?_
            ·intro wd X0;refine DagStepsT.cons (fun s' w' X U H=>?_) ?_
             ·exact zAX (zAl (U 12 rfl)) (Chg.refl _ _) rfl
             refine DagStepsT.cons (fun s' w' X U H=>?_) ?_
             ·exact zAX (zAl (U 20 rfl)) (Chg.refl _ _) rfl
             refine DagStepsT.cons (fun s' w' X U H=>?_) ?_
             ·exact zAX (zAl (U 12 rfl)) (Chg.refl _ _) rfl
             refine DagStepsT.cons (fun s' w' X U H=>?_) ?_
             ·exact zAX (zAl (U 20 rfl)) (Chg.refl _ _) rfl
             refine DagStepsT.cons (fun s' w' X U H=>?_) ?_
             ·have dn:s' 123=(.slice (some ⟨gg,0,none⟩) ak am):=H 2 rfl 123 (.eq (.slice (some ⟨gg,0,none⟩) ak am)) rfl (by rw[ab];rfl);have ct:s' 124=(.int .i64 ((kk:Nat):Int)):=H 3 rfl 124 (.eq (.int .i64 ((kk:Nat):Int))) rfl (by rw[ab];rfl);exact zAX (zAD (i:=kk) dn ct rfl underlying35 zCd qO qO) (Chg.refl _ _) rfl
             refine DagStepsT.cons (fun s' w' X U H=>?_) ?_
             ·have df:s' 125=(.pointer (some ⟨gg,0+kk,none⟩)):=H 4 rfl 125 (.eq (.pointer (some ⟨gg,0+kk,none⟩))) rfl (by rw[ab];rfl);exact zAX (zAI df zCZ (by have h1:=cq kk _ a9;exact (Ext.cell X (X0.cell h1)))) (Chg.refl _ _) rfl
             refine DagStepsT.cons (fun s' w' X U H=>?_) ?_
             ·exact zAX (zAK (U 16 rfl) zGs zBq rfl ((Chg.keep X (fun h=>by have:=ea kk _ _ a9 h;omega) (X0.keep Bx)).cells rfl)) (Chg.refl _ _) rfl
             refine DagStepsT.cons (fun s' w' X U H=>?_) ?_
             ·have c3:s' 127=(.agg #[(.int .i64 c1),(.int .i64 hi)]):=H 6 rfl 127 (.eq (.agg #[(.int .i64 c1),(.int .i64 hi)])) rfl (by rw[ab];rfl);exact zCD underlying23 zBq zEG c3 qD qD qK (Nat.zero_le _)
             refine DagStepsT.cons (fun s' w' X U H=>?_) ?_
             ·have db:s' 126=(.slice va o1.length vc):=H 5 rfl 126 (.eq (.slice va o1.length vc)) rfl (by rw[ab];rfl);obtain ⟨fc,cz,c4,_⟩:=(show (.till (zDx TSp #[.int .i64 c1,.int .i64 hi] 0) (zJw _ _ _):FactT ((fun y=>(Value.slice va o1.length vc).ownBlock=some y))).In (s' 128) w' from FactT.at_false (H 7 rfl 128 (.till (zDx TSp #[.int .i64 c1,.int .i64 hi] 0) (zJw _ _ _)) rfl (by rw[ab];rfl)));exact zBj underlying23 zBq zKP zEG rfl qD db (zAj (zAj a1 X0) X) cz rfl (c4.cells rfl) qS (by unfold maxLen;omega) qO (by have:=X0.size;have:=X.size;omega) (fun y h=>h) (by have:=X0.size;have:=X.size;omega)
             exact DagStepsT.nil
            ·intro s' fn ek X0 cn U H;have dq:s' 121=(.slice (some ⟨gg,0,none⟩) ak am):=H 0 121 (.eq (.slice (some ⟨gg,0,none⟩) ak am)) rfl (by rw[ab];rfl);have c9:s' 122=(.int .i64 ((kk:Nat):Int)):=H 1 122 (.eq (.int .i64 ((kk:Nat):Int))) rfl (by rw[ab];rfl);obtain ⟨⟨aw,av,a8⟩,b9,br⟩:=(show (.own (zDH n1 TSp 2 (o1.length+1) ((o1.map zBl).flatten++[Value.int .i64 c1,Value.int .i64 hi]) (.slice va o1.length vc) h0) (zKR _ _ _ _ _ _ _):FactT ((fun y=>(Value.slice va o1.length vc).ownBlock=some y))).In (s' 129) ek from H 8 129 (.own (zDH n1 TSp 2 (o1.length+1) ((o1.map zBl).flatten++[Value.int .i64 c1,Value.int .i64 hi]) (.slice va o1.length vc) h0) (zKR _ _ _ _ _ _ _)) rfl (by rw[ab];rfl));obtain ⟨j28,rfl⟩:=zAz.out (σ:=s') (l:=[(0,(.slice a ll.length c)),(7,(.slice (some ⟨g,0,none⟩) q.length lc)),(12,(.slice (some ⟨gg,0,none⟩) ak am)),(13,(.map (some bm))),(63,(.slice (some ⟨g,0,none⟩) q.length lc)),(64,(.int .i64 ((q.length:Nat):Int))),(65,(.int .i64 ((i2:Nat):Int))),(121,(.slice (some ⟨gg,0,none⟩) ak am)),(122,(.int .i64 ((kk:Nat):Int))),(129,(.slice aw (o1.length+1) av))]) ⟨U 0 rfl,U 7 rfl,U 12 rfl,U 13 rfl,U 63 rfl,U 64 rfl,U 65 rfl,dq,c9,a8,trivial⟩;clear U H;replace Mm:=Chg.keepM cn (fun h=>by have:=(a1.lt _ h).1;omega) (X0.keepM Mm);replace Bx:=Chg.keep cn (fun h=>by have:=ea kk _ _ a9 h;omega) (X0.keep Bx);have cm:=Chg.trans (Ext.chg X0) cn;replace E:=(E.ext X0).step cn (fun y hy h=>by have:=(a1.lt _ h).1;omega);obtain ⟨bo,al,ed⟩:=zJo (zAq (a5.on bb) cm (fun b hb hm=>a5.apo kk _ _ a9 hm hb));have cx:=fr.chg cm fun b h1 h2=>by subst h1;have:=(a1.lt _ h2).1;omega
             have c7:=Nat.le_trans fi cm.size;refine qV (zAD (b:=gg) (o:=0) (len:=ak) (cap:=am) (i:=kk) (o':=0+kk) rfl rfl rfl underlying35 zCd qO qO) ?_;have ao:=al;have az:True:=trivial;refine zBC (b:=gg) (o:=0+kk) (c':=bo.setIfInBounds (0+kk) (.slice aw (o1.length+1) av)) (v:=(.slice aw (o1.length+1) av)) rfl rfl rfl zCd al qO (rfl) ?_;intro er bh;replace cx:=cx.chg bh.chg fun b h1 h2=>by subst h1;omega
             replace c7:=Nat.le_trans c7 bh.chg.size;replace az:=bh;replace Mm:=bh.keepM qO Mm;replace E:=bh.step E qQ;replace al:=bh.blk;have e6:=a5.grow bb a9 ag (x:=(c1,hi)) (v':=.slice aw (o1.length+1) av) (by rw[a8] at b9;simpa[zBl] using b9) cm (by rw[a8,ef] at br;exact br) ao (by simpa using az);refine zAB (zAR (zAC (zAF (qV (zAv rfl rfl (zBb qO)) (qM _ rfl (zAB (zAC ?_)))))));exact ⟨p.length - (i2+1),qO,i2+1,bn,ad.set kk (o1++[(c1,hi)]),cg.set kk (.slice aw (o1.length+1) av),some ⟨gg,0,none⟩,am,ak,zAz.out ⟨rfl,rfl,rfl,rfl,rfl,rfl,rfl,trivial⟩,E,Mm,(by rw[fk];exact hG.step hP bd ee de dp b0 ba ag),qO,e6,(by simp;omega),cx,c7,rfl⟩
      ·have cy:i2=p.length:=qO
       have a3:=hG;rw[cy] at a3;have dg:=hC.join;have ce:=hG.cnt;have c2:=hG.len;refine zAn (zAT (zAT (zAg (zAC (zAH (zAA (qM _ rfl (qV (zAJ underlying35 rfl) (qM _ rfl (zAB (zAS (zAp (fun nn_ σ ck=>∃(k3:Nat) (cs:List (List Sp)) (us:List Value),(∃jj_,σ=zCT jj_ [(12,(.slice oa on oc)),(133,(I6 (on:Int))),(134,(I6 (k3:Int)))])∧Chg zAh w0 ck∧(k3≤aa.length)∧(JSt ck n1 (.slice oa on oc) us aa cs k3)∧(∀c∈cs,c.length≤16)∧(n1≤ck.heap.size)∧nn_=aa.length - k3) (n:=aa.length - 0) ?_ ?_))))))))))))
       ·exact ⟨0,[],vs,zAz.out ⟨rfl,rfl,rfl,trivial⟩,E,Nat.zero_le _,dg,qP,cw,rfl⟩
       ·clear E;rintro _ _ ck ⟨k3,cs,us,⟨j30,rfl⟩,E,fd,hJ,b1,eu,rfl⟩;refine zAA (qV (zBF rfl rfl) (zAB (zAH (qC rfl (fun a6=>?_) (fun a6=>?_)))))
        ·obtain ⟨o1,ag⟩:=zAN (l:=aa) (i:=k3) qO;obtain ⟨u1,b7⟩:=zAN (l:=us) (i:=k3) (by have:=hJ.len;omega);obtain ⟨⟨ua,uc,rfl⟩,dc⟩:=hJ.rst k3 u1 o1 (Nat.le_refl _) b7 ag;have ar:=hJ.o;rw[←ax] at ar;obtain ⟨gg,rfl,d3,cq⟩:=zBe ar qO;have a2:=ar.lt gg rfl;have du:=(a3.ok k3 o1 ag);refine zAO (zAC (zAH (zAS (zAA (qM _ rfl (qA _ rfl (zAB (zAA (qM _ rfl (qM _ rfl (qM _ rfl (qM _ rfl (qV (zAD (b:=gg) (o:=0) (len:=on) (cap:=oc) (i:=k3) (o':=0+k3) rfl rfl rfl underlying35 zCd qO qO) (qV (zAI (v:=(.slice ua o1.length uc)) rfl zCZ ((by have h1:=(ar.cells (g:=gg) rfl) k3 _ b7;rwa [Addr.add_lit] at h1))) (qE rfl (zAQ func48 kQ kQ rfl) (zQL _ _ o1 dc.at qO du.1) ?_)))))))))))))));rintro _ fo ⟨⟨j1,b5,⟨⟨ja,jc,rfl⟩,da⟩⟩,a0⟩;replace E:=E.ext a0;obtain ⟨bo,al,ed⟩:=zJo (zAj ar a0);refine qV (zAD (b:=gg) (o:=0) (len:=on) (cap:=oc) (i:=k3) (o':=0+k3) rfl rfl rfl underlying35 zCd qO qO) ?_;have ao:=al;have az:True:=trivial;refine zBC (b:=gg) (o:=0+k3) (c':=bo.setIfInBounds (0+k3) (.slice ja j1.length jc)) (v:=(.slice ja j1.length jc)) rfl rfl rfl zCd al qO (rfl) ?_;intro ex dt;replace az:=dt;replace E:=dt.step E qQ;replace al:=dt.blk;refine zAB (zAA (qM _ rfl (qM _ rfl (qV (zAD (b:=gg) (o:=0) (len:=on) (cap:=oc) (i:=k3) (o':=0+k3) rfl rfl rfl underlying35 zCd qO qO) (qV (zAI rfl zCZ (al.cell (by rw[Array.getElem?_setIfInBounds_self_of_lt qO]))) ?_)))));refine qV (zAJ underlying23 rfl) (qV (zDB rfl rfl) (zAB (qC rfl (fun c8=>?_) (fun c8=>?_))))
         ·refine zAA (qA _ rfl (qA _ rfl (zAB (zAV (zAi (zAU (zAU (zAi (zAU (zCO results17 (v:=(.slice none 0 0)) (v':=(.int .i64 2)) rfl rfl ?_))))))))));obtain ⟨cF,dl,ds⟩:=zLh a3 hP ag b5 qO;exact ⟨⟨[],2,.inr ⟨bj,cF,dl,.inl ⟨ds,rfl,rfl⟩⟩,none,0,rfl,zFO _⟩,E⟩
         ·refine zAO (zAR (zAC (zAF (qV (zAv rfl rfl (zBb qO)) (qM _ rfl (zAB (zAC ?_)))))));exact ⟨aa.length - (k3+1),qO,k3+1,cs++[j1],us.set k3 (.slice ja j1.length jc),zAz.out ⟨rfl,rfl,rfl,trivial⟩,E,qO,(by have hS:=JSt.step (hJ.ext a0) ax ag (⟨⟨_,_,rfl⟩,da⟩:zIn _ _ _ j1) a2.2 b5 ao (by simpa using az);exact hS),(fun c hc=>by rcases List.mem_append.1 hc with h1|h1;exact b1 c h1;rw[List.mem_singleton] at h1;subst h1;omega),(by have:=a0.size;have:=az.chg.size;omega),rfl⟩
        ·have ah:k3=aa.length:=qO
         have au:=a3.done hP (by rw[hJ.cl,ah]) hJ.jn;have aq:=hJ.done ah;have ap:cs.length=on:=by rw[hJ.cl,ah,ax]
         refine zAn (zAT (zAT (zAg (zAC (zAH (zAA (qM _ rfl (qV (zAJ underlying35 rfl) (qV (zDB rfl rfl) (zAB (qC rfl (fun a7=>?_) (fun a7=>?_))))))))))))
         ·refine zAA (qA _ rfl (qA _ rfl (zAB (zAV (zAU (zCO results17 (v:=(.slice none 0 0)) (v':=(.int .i64 2)) rfl rfl ?_))))));exact ⟨⟨[],2,.inr ⟨bj,cs,au,.inl ⟨.inr qO,rfl,rfl⟩⟩,none,0,rfl,zFO _⟩,E⟩
         ·refine zAO (zAC (zAA (qM _ rfl (qA _ rfl (qA _ rfl (zAB (zAV (zCO results17 (v:=(.slice oa on oc)) (v':=(.int .i64 0)) rfl rfl ?_))))))));rw[←ap] at aq;exact ⟨⟨cs,0,.inr ⟨bj,cs,au,.inr ⟨fun cu=>by rcases cu with ⟨c,h1,h2⟩|h2;have:=b1 c h1;omega;omega,rfl,rfl⟩⟩,oa,oc,by rw[ap],aq⟩,E⟩
end Go.Proofs
namespace Go.Proofs
open Go Go.Eng Go.Sort
set_option maxRecDepth 100000
theorem zQA (ll:List (List Sp)) (r s:Int):zBS ll r=zBS ll s↔∀l∈ll,inS l r=inS l s:=by
 unfold zBS;rw[List.map_inj_left]
theorem zHY {P:List Sp→Prop} (t:Re):zIq P t↔(t.kind=2→P t.set)∧∀y∈t.args,zIq P y:=by
  cases t with
  | mk k s a m x g=>simp only[zIq,zLo];rfl
theorem zHV {t:Re} {x:List Sp}:x∈zBT t↔¬zIq (fun s=>s≠x) t:=
 ⟨fun h ha=>zFa ha x h rfl,fun h=>Classical.byContradiction fun hn=>h (zMx fun s hs e=>hn (e▸hs))⟩
end Go.Proofs
namespace Go.Proofs
open Go Go.Eng Go.Sort
set_option maxRecDepth 100000
theorem zVW {ks:List Int} {t:Re} (h:zCy ks t=false):ks.contains t.kind=false∧∀y∈t.args,zCy ks y=false:=by
  cases t with
  | mk k s a m x g=>
  simp only[zCy,Bool.or_eq_false_iff] at h;refine ⟨h.1,?_⟩;have h2:=h.2;show ∀y∈a,zCy ks y=false;clear h
  induction a with
  | nil=>intro y hy;simp at hy
  | cons z a ih=>
    simp only[zFu,Bool.or_eq_false_iff] at h2;intro y hy;rcases List.mem_cons.1 hy with rfl|hy
    · exact h2.1
    · exact ih h2.2 y hy
theorem zPB {ks:List Int} {k:Int} {s:List (Int×Int)} {a:List Re} {m x:Int} {g:Bool} (h:ks.contains k=false) (ha:∀y∈a,zCy ks y=false):zCy ks (.mk k s a m x g)=false:=by
  simp only[zCy,Bool.or_eq_false_iff];refine ⟨h,?_⟩;clear h
  induction a with
  | nil=>rfl
  | cons z a ih=>simp only[zFu,Bool.or_eq_false_iff];exact ⟨ha z qP,ih fun y hy=>ha y (by simp[hy])⟩
end Go.Proofs
namespace Go.Proofs
open Go Go.Eng Go.Sort
set_option maxRecDepth 100000
def cf3 (x y:VSp):Int:=zHX x.s.1 y.s.1
theorem zXV (w0:World) (x y:VSp):Ret prog 82 #[.agg #[.int .i64 x.s.1,.int .i64 x.s.2],.agg #[.int .i64 y.s.1,.int .i64 y.s.2]] w0 fun v w=>v=.int .i64 (cf3 x y)∧Ext w0 w:=by
 refine qR func82 rfl ntmps82 rfl (fun E=>(zAA (zBQ (v:=(.agg #[(I6 x.s.1),(I6 x.s.2)])) (c:=#[(I6 x.s.1),(I6 x.s.2)]) qD rfl rfl ?_)));intro b1 w1 N1;replace E:=E.ext N1.ext;have B1:=N1.blk;refine zBQ (v:=(.agg #[(I6 y.s.1),(I6 y.s.2)])) (c:=#[(I6 y.s.1),(I6 y.s.2)]) qD rfl rfl ?_;intro b2 w2 N2;replace B1:=N2.keep B1;replace E:=E.ext N2.ext;have B2:=N2.blk;refine qA _ rfl (zAB (zAA (qF b1 0 0 rfl underlying44 rfl zAy rfl (qV (zAI rfl zAo (B1.cell rfl)) (qF b2 0 0 rfl underlying44 rfl zAy rfl (qV (zAI rfl zAo (B2.cell rfl)) (qE rfl (zAQ func83 kQ kQ rfl) (zIM _ x.s.1 y.s.1) ?_)))))));rintro _ w9 ⟨rfl,X9⟩;replace B1:=X9.keep B1;replace B2:=X9.keep B2;replace E:=E.ext X9;refine qA _ rfl (zAB (zAV (zAY results82 (v:=(.int .i64 (cf3 x y))) rfl ?_)));exact ⟨rfl,E⟩
theorem zTW (x y:VSp):cf3 x y<0↔x.s.1<y.s.1:=by unfold cf3 zHX;split<;>(try split)<;>omega
theorem swo3:SWO (ltOf cf3):=by
 refine ⟨fun x=>?_,fun x y z=>?_,fun x y z=>?_⟩<;>simp only[ltOf,decide_eq_true_eq,decide_eq_false_iff_not,zTW]<;>omega
theorem zTx (w0:World) (base:Nat) (v:Value) (l:List Sp) (h:zIn w0 base v l) (hl:l.length≤8796093022208) (hok:∀s∈l,vSp s) :
  Ret prog 80 #[v,.func (.func 82) #[] #[]] w0 fun r w=>r=.tuple #[]∧(∃ls:List Sp,ls.Perm l∧ls.Pairwise (fun s t=>s.1≤t.1)∧zBK w v ls)∧Chg (fun x=>v.ownBlock=some x) w0 w:=
 (zPM cf3 swo3 func82 kQ kQ zXV w0 base v l h hl hok).mono fun r w ⟨h1,⟨l',h2,h3,h4⟩,h5⟩=>
  ⟨h1,⟨_,h2,List.pairwise_map.2 (h3.imp fun {s t} hst=>by rw[zTW] at hst;omega),h4⟩,h5⟩
theorem zMd:∀{ll:List (List Sp)},(∀l∈ll,zBR l=0)→ll.flatten.length≤16*ll.length
  | [],_=>qP
  | l::ll,h=>by
    have h1:=zMd fun x hx=>h x (List.mem_cons_of_mem _ hx);have h2:=(zCM (h l List.mem_cons_self)).2;simp only[List.flatten_cons,List.length_append,List.length_cons];omega
theorem zNd {α:Type} {l:List α} {k:Nat} {x d:α} (h:l[k]?=some x):l.getD k d=x:=by simp[List.getD,h]
theorem zWJ {ll:List (List Sp)} {k:Nat} (hk:k<ll.length) (h:¬zVL ll k):¬(zIC ll∧zIB ll):=fun h1=>h (h1.1 k hk)
theorem zQP {ll:List (List Sp)} {k:Nat} (hh:∀j,j<k→zVL ll j) (h:zVL ll k):∀j,j<k+1→zVL ll j:=fun j hj=>by
 rcases Nat.lt_or_ge j k with h1|h1
 ·exact hh j h1
 ·have e:j=k:=qO
  rw[e];exact h
theorem zLO {l:List Sp} (h:l≠[]):∃s,l[0]?=some s∧zBM l=s.1:=by
  cases l with
  | nil=>exact absurd rfl h
  | cons s l=>exact ⟨s,rfl,rfl⟩
theorem zVs (w0:World) (v:Value) (ll:List (List Sp)) (h:zBv w0 v ll) :
  Ret prog 49 #[v] w0 fun r w=>r=.int .i64 (partE ll)∧Ext w0 w:=by
 obtain ⟨a,c,rfl,_,hle⟩:=h.form;obtain ⟨base,bn⟩:∃base,base=w0.heap.size:=⟨_,rfl⟩;refine qR func49 rfl ntmps49 rfl (fun E=>(zAA (qA _ rfl (zAB (zAH (zAA (qM _ rfl (qV (zAJ underlying35 rfl) (qV (zDB rfl rfl) (zAB (qC rfl (fun b4=>?_) (fun b4=>?_))))))))))))
 ·refine zAA (qA _ rfl (zAB (zAV (zAU (zAY results49 (v:=(.int .i64 2)) rfl ?_)))));exact ⟨zBJ (zMQ qO).symm,E⟩
 ·have ad:¬16<ll.length:=qO
  refine zAO (zAC (zAA (qA _ rfl (zAB (zAH (zAA (qM _ rfl (qV (zAJ underlying35 rfl) (qM _ rfl (zAB (zAS (zAp (fun nn_ σ W2=>∃(k:Nat) (la:Option Addr) (lc:Nat) (m:Nat),(∃jj_,σ=zCT jj_ [(0,(.slice a ll.length c)),(15,(.slice a ll.length c)),(16,(I6 (ll.length:Int))),(17,(I6 (k:Int))),(3,(.slice la m lc))])∧Chg zAh w0 W2∧(k≤ll.length)∧(∀l∈ll.take k,zBR l=0)∧(m=(ll.take k).flatten.length)∧(W2.ownsRow base TSp 2 (.slice la m lc) m (((ll.take k).flatten).map zBl).flatten)∧(base≤W2.heap.size)∧nn_=ll.length - k) (n:=ll.length - 0) ?_ ?_))))))))))))
  ·exact ⟨0,none,0,0,zAz.out ⟨rfl,rfl,rfl,rfl,rfl,trivial⟩,E,Nat.zero_le _,qP,rfl,World.ownsRow_nil _ _ _ _,(by have:=E.size;omega),rfl⟩
  ·clear E;rintro _ _ W2 ⟨k,la,lc,m,⟨j2,rfl⟩,E,hk,hz,hm,ab,aw,rfl⟩;refine zAA (qV (zBF rfl rfl) (zAB (zAH (qC rfl (fun b1=>?_) (fun b1=>?_)))))
   ·obtain ⟨l,hx⟩:=zAN (l:=ll) (i:=k) qO;obtain ⟨b,o,rfl,ay⟩:=zCY h qO;obtain ⟨ra,rc,af,ax⟩:=ay k l hx;refine zAO (zAC (zAH (zAS (zAA (qV (zAD (b:=b) (o:=o) (len:=ll.length) (cap:=c) (i:=k) (o':=o+k) rfl rfl rfl underlying35 zCd qO qO) (qV (zAI rfl zCZ (E.cell (fun f=>f) af)) (qA _ rfl (zAB (zAH (zAA (qM _ rfl (qE rfl (zAQ func44 kQ kQ rfl) (zJh _ _ l (ax.ext E)) ?_))))))))))));rintro _ w9 ⟨rfl,X9⟩;replace ab:=zAj ab X9;replace aw:=Nat.le_trans aw X9.size;replace E:=E.ext X9;refine qA _ rfl (zAB (zAA (qM _ rfl (qV (zDA rfl rfl) (zAB (qC rfl (fun hc=>?_) (fun hc=>?_)))))))
    ·refine zAA (qM _ rfl (qA _ rfl (zAB (zAV (zAU (zAi (zAU (zAU (zAi (zAU (zAY results49 (v:=(.int .i64 (zBR l))) rfl ?_)))))))))));have hb:=zKQ hz hx hc;exact ⟨zBJ ((zPj ad (by rw[hb];exact hc)).trans hb).symm,E⟩
    ·have hf:=zMd hz;have bx:=(zCM (show zBR l=0 by omega)).2;have htk:(ll.take k).length=k:=by simp;omega
     refine zAO (zAC (zAF (qM _ rfl (qM _ rfl (zMH (base:=base) (n:=m) (m:=l.length) (xs:=(((ll.take k).flatten).map zBl).flatten) (news:=(l.map zBl).flatten) (size:=2) (bytes:=16) (v:=(.slice la m lc)) qD underlying23 zBq zKP zEG rfl qD rfl ab rfl (zDt l) (zPL (ax.ext E)) (zHb l) (by unfold maxLen;omega) qO (aw) ?_)))));intro v9 w29 bh bq Dv9;replace E:=E.step bq (fun x hx h=>absurd (ab.lt x h).1 qO);obtain ⟨bw,br,rfl⟩:=zBO bh;refine qA _ rfl (zAB (zAR (zAC (zAF (qV (zAv rfl rfl (zBb qO)) (qM _ rfl (zAB (zAC ?_))))))));exact ⟨ll.length - (k+1),qO,k+1,bw,br,m+l.length,zAz.out ⟨rfl,rfl,rfl,rfl,rfl,trivial⟩,E,qO,(fun y hy=>by rw[zDV hx] at hy;rcases List.mem_append.1 hy with h1|h1;exact hz y h1;rw[List.mem_singleton] at h1;subst h1;omega),(by rw[zCW hx,List.length_append,hm]),(by rw[zCW hx,zGz];exact bh),Nat.le_trans aw bq.size,rfl⟩
   ·have b5:k=ll.length:=qO
    rw[b5,List.take_length] at hz hm ab;have ar:=zEB hz;have av:∀l∈ll,Canon l:=fun l hl=>(zCM (hz l hl)).1;have bb:∀s∈ll.flatten,vSp s:=fun s hs=>by obtain ⟨l,hl,hs⟩:=List.mem_flatten.1 hs;exact (av l hl).ok s hs
    have hf:=zMd hz;refine zAn (zAT (zAT (zAg (zAC (zAH (zAA (qM _ rfl (qV (zAJ underlying35 rfl) (qM _ rfl (zAB (zAS (zAp (fun nn_ σ W5=>∃(k2:Nat),(∃jj_,σ=zCT jj_ [(0,(.slice a ll.length c)),(3,(.slice la m lc)),(30,(.slice a ll.length c)),(31,(I6 (ll.length:Int))),(32,(I6 (k2:Int)))])∧Chg zAh w0 W5∧(k2≤ll.length)∧(∀j,j<k2→zVL ll j)∧(W5.ownsRow base TSp 2 (.slice la m lc) m ((ll.flatten).map zBl).flatten)∧nn_=ll.length - k2) (n:=ll.length - 0) ?_ ?_))))))))))))
    ·exact ⟨0,zAz.out ⟨rfl,rfl,rfl,rfl,rfl,trivial⟩,E,Nat.zero_le _,(fun j h=>absurd h (Nat.not_lt_zero _)),ab,rfl⟩
    ·clear E;rintro _ _ W5 ⟨k2,⟨j5,rfl⟩,E,hk2,hh,ab,rfl⟩;refine zAA (qV (zBF rfl rfl) (zAB (zAH (qC rfl (fun a3=>?_) (fun a3=>?_)))))
     ·obtain ⟨l,hx⟩:=zAN (l:=ll) (i:=k2) qO;obtain ⟨b,o,rfl,ay⟩:=zCY h qO;obtain ⟨ra,rc,af,ax⟩:=ay k2 l hx;refine zAO (zAC (zAH (zAS (zAA (qM _ rfl (qV (zAD (b:=b) (o:=o) (len:=ll.length) (cap:=c) (i:=k2) (o':=o+k2) rfl rfl rfl underlying35 zCd qO qO) (qV (zAI rfl zCZ (E.cell (fun f=>f) af)) ?_)))))));have am:=zNd (d:=[]) hx;refine qA _ rfl (qA _ rfl (zAB (zCs 21 mixed qK ?_)));intro w7 X7 _;replace ab:=zAj ab X7;replace E:=E.ext X7;refine qT (zAl rfl) (qT (zAJ underlying23 rfl) (qT (zAs rfl rfl) (qT (zAl rfl) ?_)));rcases Bool.eq_false_or_eq_true (decide ((((l.length:Nat):Int):Int)=0)) with ac|ac
      ·have ae:=ac;replace ae:=of_decide_eq_true ae;refine zAf (oj:=_) rfl rfl qD (v:=.bool true) (cbk ac) (Or.inl rfl) (zAf (oj:=_) rfl rfl qD (v:=.bool true) (cbk ac) (Or.inl rfl) (zAf (oj:=_) rfl rfl qD (v:=.bool true) (cbk ac) (Or.inl rfl) (zAf (oj:=_) rfl rfl qD (v:=undef) rfl (Or.inr rfl) (zAf (oj:=_) rfl rfl qD (v:=undef) rfl (Or.inr rfl) (zAf (oj:=_) rfl rfl qD (v:=undef) rfl (Or.inr rfl) (zAf (oj:=_) rfl rfl qD (v:=undef) rfl (Or.inr rfl) (zAf (oj:=_) rfl rfl qD (v:=undef) rfl (Or.inr rfl) (zAf (oj:=_) rfl rfl qD (v:=undef) rfl (Or.inr rfl) (zAf (oj:=_) rfl rfl qD (v:=undef) rfl (Or.inr rfl) (zAf (oj:=_) rfl rfl qD (v:=undef) rfl (Or.inr rfl) (zAf (oj:=_) rfl rfl qD (v:=undef) rfl (Or.inr rfl) (zAf (oj:=_) rfl rfl qD (v:=undef) rfl (Or.inr rfl) (zAf (oj:=_) rfl rfl qD (v:=undef) rfl (Or.inr rfl) (zAf (oj:=_) rfl rfl qD (v:=undef) rfl (Or.inr rfl) ?_))))))))))))));refine zAf (oj:=_) rfl rfl qD (v:=undef) rfl (Or.inr rfl) (zAf (oj:=_) rfl rfl qD (v:=.bool true) (cbk ac) (Or.inl rfl) (zCq (qV (zAr (v:=(.bool true)) rfl (by rw[ac];rfl)) (zAB (zAk rfl (zAA (qA _ rfl (zAB (zAV (zAi (zAU (zAU (zAi (zAU (zAY results49 (v:=(.int .i64 3)) rfl ?_)))))))))))))));exact ⟨zBJ (zFR ad ar (zWJ (k:=k2) qO fun hd=>by have h1:=hd.1;rw[am] at h1;exact h1 (List.eq_nil_of_length_eq_zero qO))).symm,E⟩
      ·have ae:=ac;replace ae:=of_decide_eq_false ae;have az:l≠[]:=fun e=>by subst e;exact ae rfl
       obtain ⟨s1,a4,a2⟩:=zLO az;obtain ⟨sb,so,rfl,bu⟩:=zBa ax (by cases l with|nil=>exact absurd rfl az|cons x y=>simp);have bf:0<l.length:=zAE a4;refine zAm (oj:=_) rfl rfl qD (cbk ac) (qT (zAl rfl) (zAm (oj:=_) rfl rfl qD (cbk ac) (qT (zDB rfl rfl) (zAm (oj:=_) rfl rfl qD (cbk ac) (qT (zAl rfl) ?_)))));rcases Bool.eq_false_or_eq_true (decide ((0:Int)<((k2:Nat):Int))) with aa|aa
       ·have ag:=aa;replace ag:=of_decide_eq_true ag;obtain ⟨kp,bg⟩:∃kp,k2=kp+1:=⟨k2 - 1,qO⟩;obtain ⟨lp,bo⟩:=zAN (l:=ll) (i:=kp) qO;obtain ⟨ra2,b6,aj,ba⟩:=ay kp lp bo;have bc:=zNd (d:=[]) bo;have be:lp≠[]:=by have:=(hh kp qO).1;rwa [bc] at this
        obtain ⟨s2,bm,bi⟩:=zLO be;obtain ⟨pb,po,rfl,ap⟩:=zBa ba (by cases lp with|nil=>exact absurd rfl be|cons x y=>simp);have bp:0<lp.length:=zAE bm;refine zAm (oj:=_) rfl rfl qD (cbk aa) (qT (zAl rfl) (zAm (oj:=_) rfl rfl qD (cbk aa) (qT (zAl rfl) (zAm (oj:=_) rfl rfl qD (cbk aa) (qT (zEJ rfl rfl (zBb qO)) (zAm (oj:=_) rfl rfl qD (cbk aa) (qT (zAD (b:=b) (o:=o) (len:=ll.length) (cap:=c) (i:=kp) (o':=o+kp) rfl rfl qO underlying35 zCd qO qO) (zAm (oj:=_) rfl rfl qD (cbk aa) (qT (zAI rfl zCZ (E.cell (fun f=>f) aj)) (zAm (oj:=_) rfl rfl qD (cbk aa) (qT (zAD (b:=pb) (o:=po) (len:=lp.length) (cap:=b6) (i:=0) (o':=po+0*2) rfl rfl rfl underlying23 zBq qO qO) (zAm (oj:=_) rfl rfl qD (cbk aa) (qT (zAZ rfl underlying44 rfl zAy rfl) (zAm (oj:=_) rfl rfl qD (cbk aa) ?_))))))))))))));refine qT (zAI rfl zAo (E.cell (fun f=>f) (ap 0 s2 bm 0 _ rfl))) (zAm (oj:=_) rfl rfl qD (cbk aa) (qT (zAl rfl) (zAm (oj:=_) rfl rfl qD (cbk aa) (qT (zAD (b:=sb) (o:=so) (len:=l.length) (cap:=rc) (i:=0) (o':=so+0*2) rfl rfl rfl underlying23 zBq qO qO) (zAm (oj:=_) rfl rfl qD (cbk aa) (qT (zAZ rfl underlying44 rfl zAy rfl) (zAm (oj:=_) rfl rfl qD (cbk aa) (qT (zAI rfl zAo (E.cell (fun f=>f) (bu 0 s1 a4 0 _ rfl))) (zAm (oj:=_) rfl rfl qD (cbk aa) (qT (zDK rfl rfl) (zAm (oj:=_) rfl rfl qD (cbk ac) (qT (zAr (v:=(.bool (decide ((s1.1:Int)≤s2.1)))) rfl (by rw[aa];rfl)) (zCq (qV (zAr (v:=(.bool (decide ((s1.1:Int)≤s2.1)))) rfl (by rw[ac];rfl)) ?_))))))))))))));refine zAB (qC rfl (fun b3=>?_) (fun b3=>?_))
        ·refine zAA (qA _ rfl (zAB (zAV (zAi (zAU (zAU (zAi (zAU (zAY results49 (v:=(.int .i64 3)) rfl ?_)))))))));exact ⟨zBJ (zFR ad ar (zWJ (k:=k2) qO fun hd=>by have h1:=hd.2;rw[am,a2,bg] at h1;simp only[zNV] at h1;rw[bc,bi] at h1;omega)).symm,E⟩
        ·refine zAO (zAR (zAC (zAF (qV (zAv rfl rfl (zBb qO)) (qM _ rfl (zAB (zAC ?_)))))));exact ⟨ll.length - (k2+1),qO,k2+1,zAz.out ⟨rfl,rfl,rfl,rfl,rfl,trivial⟩,E,qO,zQP hh ⟨by rw[am];exact az,by rw[am,a2,bg];simp only[zNV];rw[bc,bi];omega⟩,ab,rfl⟩
       ·have ag:=aa;replace ag:=of_decide_eq_false ag;have a9:k2=0:=qO
        have hv1:=(bb s1 (List.mem_flatten.2 ⟨l,List.mem_of_getElem? hx,List.mem_of_getElem? a4⟩)).1;refine zAf (oj:=_) rfl rfl qD (v:=.bool false) (cbk aa) (Or.inl rfl) (zAf (oj:=_) rfl rfl qD (v:=.bool false) (cbk aa) (Or.inl rfl) (zAf (oj:=_) rfl rfl qD (v:=.bool false) (cbk aa) (Or.inl rfl) (zAf (oj:=_) rfl rfl qD (v:=.bool false) (cbk aa) (Or.inl rfl) (zAf (oj:=_) rfl rfl qD (v:=.bool false) (cbk aa) (Or.inl rfl) (zAf (oj:=_) rfl rfl qD (v:=.bool false) (cbk aa) (Or.inl rfl) (zAf (oj:=_) rfl rfl qD (v:=.bool false) (cbk aa) (Or.inl rfl) (zAf (oj:=_) rfl rfl qD (v:=.bool false) (cbk aa) (Or.inl rfl) (zAf (oj:=_) rfl rfl qD (v:=.bool false) (cbk aa) (Or.inl rfl) (zAf (oj:=_) rfl rfl qD (v:=.bool false) (cbk aa) (Or.inl rfl) (zAf (oj:=_) rfl rfl qD (v:=.bool false) (cbk aa) (Or.inl rfl) (zAf (oj:=_) rfl rfl qD (v:=.bool false) (cbk aa) (Or.inl rfl) (zAf (oj:=_) rfl rfl qD (v:=.bool false) (cbk aa) (Or.inl rfl) (zAm (oj:=_) rfl rfl qD (cbk ac) (qT (zAr (v:=(.bool false)) rfl (by rw[aa];rfl)) ?_))))))))))))));refine zCq (qV (zAr (v:=(.bool false)) rfl (by rw[ac];rfl)) (zAB (zAP rfl (zAO (zAR (zAC (zAF (qV (zAv rfl rfl (zBb qO)) (qM _ rfl (zAB (zAC ?_)))))))))));exact ⟨ll.length - (k2+1),qO,k2+1,zAz.out ⟨rfl,rfl,rfl,rfl,rfl,trivial⟩,E,qO,zQP hh ⟨by rw[am];exact az,by rw[am,a2,a9];simp only[zNV];omega⟩,ab,rfl⟩
     ·have bs:k2=ll.length:=qO
      have ak:zIC ll:=fun j hj=>hh j qO;have bz:zIn W5 base (.slice la m lc) ll.flatten:=⟨⟨la,lc,by rw[hm]⟩,by rw[←hm];exact ab⟩;refine zAn (zAT (zAT (zAg (zAC (zAA (qM _ rfl (qE rfl (zAQ func80 kQ kQ rfl) (zTx _ base (.slice la m lc) ll.flatten bz qO bb) ?_)))))));rintro _ a5 ⟨rfl,⟨ls,ah,an,b2⟩,b0⟩;replace E:=E.step b0 (fun x hx hy=>absurd (ab.lt x hy).1 qO);have bk:ls.length=m:=by rw[hm];exact ah.length_eq
      have ap:=zOE av ah an;have a0:∀s∈ls,vSp s:=fun s hs=>bb s (ah.mem_iff.1 hs);have ai:Chg zAh a5 a5:=Chg.refl _ _;refine zAB (zAA (qA _ rfl (zAB (zAH (zAA (qM _ rfl (qV (zAJ underlying23 rfl) (qM _ rfl (zAB (zAS (zAp (fun nn_ σ bd=>∃(k3:Nat) (ao:Int),(∃jj_,σ=zCT jj_ [(62,(.slice la m lc)),(63,(I6 (m:Int))),(64,(I6 (k3:Int))),(9,(I6 ao))])∧Chg zAh w0 bd∧Chg zAh a5 bd∧(k3≤ls.length)∧(0≤ao∧ao≤1114112)∧(zEy ao (ls.drop k3)=zEy 0 ls)∧nn_=ls.length - k3) (n:=ls.length - 0) ?_ ?_)))))))))))
      ·exact ⟨0,0,zAz.out ⟨rfl,rfl,rfl,rfl,trivial⟩,E,ai,Nat.zero_le _,qO,qP,rfl⟩
      ·clear E ai;rintro _ _ bd ⟨k3,ao,⟨j11,rfl⟩,E,ai,hk3,hnr,al,rfl⟩;refine zAA (qV (zBF rfl rfl) (zAB (zAH (qC rfl (fun a1=>?_) (fun a1=>?_)))))
       ·obtain ⟨s,hs⟩:=zAN (l:=ls) (i:=k3) qO;obtain ⟨lb,lo,rfl,a7⟩:=zBa (l:=ls) b2 qO;have bt:=a0 s (List.mem_of_getElem? hs);unfold vSp at bt;have bv:=zEd hs;rw[bv] at al;refine zAO (zAC (zAH (zAS (zAA (qV (zAD (b:=lb) (o:=lo) (len:=m) (cap:=lc) (i:=k3) (o':=lo+k3*2) rfl rfl rfl underlying23 zBq qO qO) (qV (zAK rfl zGs zBq rfl ((a7 k3 s hs).ext ai)) (zAd (v:=(.agg #[(I6 s.1),(I6 s.2)])) (c:=#[(I6 s.1),(I6 s.2)]) (n:=2) qD zEG rfl zBq rfl rfl rfl qS ?_)))))));intro b13 w13 a6;replace E:=E.ext a6.ext;have bj:=a6.blk;replace ai:=ai.ext a6.ext;refine zAB (zAH (zAA (qF _ _ _ rfl underlying44 rfl zAy rfl (qV (zAI rfl zAo (bj.cell rfl)) (qM _ rfl (qV (zDA rfl rfl) (zAB (qC rfl (fun aq=>?_) (fun aq=>?_)))))))))
        ·refine zAA (qA _ rfl (zAB (zAV (zAU (zAi (zAU (zAU (zAi (zAU (zAY results49 (v:=(.int .i64 3)) rfl ?_))))))))));exact ⟨zBJ (zFR ad ar fun hp=>by have h1:=ap.2 hp.2;rw[←al] at h1;simp only[zEy,Bool.and_eq_true,decide_eq_true_eq] at h1;exact aq h1.1).symm,E⟩
        ·refine zAO (zAC (zAF (qF _ _ _ rfl underlying44 rfl zAy rfl (qV (zAI rfl zAo (bj.cell rfl)) (qV (zAv rfl rfl (zBb qO)) (qA _ rfl (zAB (zAR (zAC (zAF (qV (zAv rfl rfl (zBb qO)) (qM _ rfl (zAB (zAC ?_))))))))))))));exact ⟨ls.length - (k3+1),qO,k3+1,s.2+1,zAz.out ⟨rfl,rfl,rfl,rfl,trivial⟩,E,ai,qO,qO,(by rw[←al];simp only[zEy];rw[decide_eq_true qO,Bool.true_and]),rfl⟩
       ·have a8:k3=ls.length:=qO
        rw[a8,List.drop_length] at al;refine zAn (zAT (zAT (zAg (zAC (zAH (zAA (qM _ rfl (qV (zDA rfl rfl) (zAB (qC rfl (fun au=>?_) (fun au=>?_)))))))))))
        ·refine zAA (qA _ rfl (zAB (zAV (zAU (zAY results49 (v:=(.int .i64 3)) rfl ?_)))));exact ⟨zBJ (zFR ad ar fun hp=>by have h1:=ap.2 hp.2;rw[←al] at h1;simp only[zEy,decide_eq_true_eq] at h1;exact au h1).symm,E⟩
        ·refine zAO (zAC (zAA (qA _ rfl (zAB (zAV (zAY results49 (v:=(.int .i64 0)) rfl ?_))))));exact ⟨zBJ (zNI ad ar ⟨ak,ap.1 (by rw[←al];simp only[zEy,decide_eq_true_eq];omega)⟩).symm,E⟩
theorem zNz (w0:World) (v fv:Value) (ll:List (List Sp)) (p:List Sp→Bool) (h:zBv w0 v ll) (hf:∀(w:World) (u:Value) (l:List Sp),Ext w0 w→zBK w u l→l∈ll→zCG prog fv #[u] w fun r w'=>r=.bool (p l)∧Ext w w') :
  Ret prog 84 #[v,fv] w0 fun r w=>r=.int .i64 (idx p ll)∧Ext w0 w:=by
 obtain ⟨a,c,rfl,_,hle⟩:=h.form;refine qR func84 rfl ntmps84 rfl (fun E=>(zAA (qA _ rfl (zAB (zAH (zAA (qM _ rfl (qV (zAJ underlying35 rfl) (qM _ rfl (zAB (zAS (zAp (fun nn_ σ W1=>∃(k:Nat),(∃jj_,σ=zCT jj_ [(0,(.slice a ll.length c)),(1,fv),(7,(I6 (ll.length:Int))),(8,(I6 (k:Int)))])∧Chg zAh w0 W1∧(k≤ll.length)∧(∀(i:Nat) (y:List Sp),i<k→ll[i]?=some y→p y=false)∧nn_=ll.length - k) (n:=ll.length - 0) ?_ ?_))))))))))))
 ·exact ⟨0,zAz.out ⟨rfl,rfl,rfl,rfl,trivial⟩,E,Nat.zero_le _,(fun i y h=>absurd h (Nat.not_lt_zero _)),rfl⟩
 ·clear E;rintro _ _ W1 ⟨k,⟨j1,rfl⟩,E,hk,ab,rfl⟩;refine zAA (qV (zBF rfl rfl) (zAB (zAH (qC rfl (fun ac=>?_) (fun ac=>?_)))))
  ·obtain ⟨l,hx⟩:=zAN (l:=ll) (i:=k) qO;obtain ⟨b,o,rfl,af⟩:=zCY h qO;obtain ⟨ra,rc,aa,ad⟩:=af k l hx;refine zAO (zAC (zAH (zAS (zAA (qM _ rfl (qA _ rfl (zAB (zAA (qM _ rfl (qM _ rfl (qM _ rfl (qV (zAD (b:=b) (o:=o) (len:=ll.length) (cap:=c) (i:=k) (o':=o+k) rfl rfl rfl underlying35 zCd qO qO) (qV (zAI rfl zCZ (E.cell (fun f=>f) aa)) (zDD qD rfl rfl (hf _ _ l E (ad.ext E) (List.mem_of_getElem? hx)) ?_))))))))))))));rintro _ w9 ⟨rfl,X9⟩;replace E:=E.ext X9;refine zAB (zBD rfl (fun hp=>?_) (fun hp=>?_))
   ·have ae:=hp;refine zAA (qM _ rfl (qA _ rfl (zAB (zAV (zAi (zAU (zAU (zAi (zAU (zAY results84 (v:=(.int .i64 ((k:Nat):Int))) rfl ?_))))))))));exact ⟨zBJ (zJz hx hp ab).symm,E⟩
   ·have ae:=hp;refine zAO (zAR (zAC (zAF (qV (zAv rfl rfl (zBb qO)) (qM _ rfl (zAB (zAC ?_)))))));exact ⟨ll.length - (k+1),qO,k+1,zAz.out ⟨rfl,rfl,rfl,rfl,trivial⟩,E,qO,zFZ hx hp ab,rfl⟩
  ·have hkk:k=ll.length:=qO
   refine zAn (zAT (zAT (zAg (zAC (zAA (qA _ rfl (zAB (zAV (zAY results84 (v:=(.int .i64 (-1))) rfl ?_)))))))));exact ⟨zBJ (zHW fun i y hy=>ab i y (by have:=zAE hy;omega) hy).symm,E⟩
def clAt (ll:List (List Sp)) (r:Int):Int:=idx (fun l=>inS l r) ll
noncomputable def idxE (ll:List (List Sp)) (r:Int):Int:=if partE ll≠0 then partE ll else if zHL r then 0 else 1
noncomputable def leastP (ll:List (List Sp)):List Int:=if partE ll=0 then zWE ll else []
noncomputable def wordE (ll:List (List Sp)) (t:List Int):Int:=if partE ll≠0 then partE ll else if t.any (fun r=>!zHL r) then 1 else 0
noncomputable def wordL (ll:List (List Sp)) (t:List Int):List Int:=if wordE ll t=0 then t.map (clAt ll) else []
end Go.Proofs
namespace Go.Proofs
open Go Go.Eng Go.Sort
set_option maxRecDepth 100000
def zWj (l:List Sp):Nat×List Value:=(l.length,(l.map zBl).flatten)
theorem LSt.spss {w:World} {base:Nat} {vo:Value} {vs:List Value} {ll:List (List Sp)} (h:LSt TSs TSp 2 w base vo vs (ll.map zWj)):zBv w vo ll:=by
 have hl:vs.length=ll.length:=by simpa using h.len
 refine ⟨vs,?_,hl,fun i u l hu hl=>?_⟩
 ·have ho:=h.o;rw[show vs=(vs.map fun x=>[x]).flatten by simp[List.flatten_eq_flatMap,List.flatMap_map]] at ho;exact zDS ho (by intro r hr;simp only[List.mem_map] at hr;obtain ⟨x,_,rfl⟩:=hr;rfl) (by simp[hl]) qD
 ·have h1:=h.inn i u (zWj l) hu (by rw[List.getElem?_map,hl];rfl);exact zIn.at ⟨zBO h1,h1⟩
end Go.Proofs
namespace Go.Proofs
open Go Go.Eng Go.Sort
set_option maxRecDepth 100000
theorem zVT {S:Type} (F:S→Re→Bool×S) (Inv:S→(Nat→Prop)→World→Prop) (Pn:Re→Prop) (fv:Value) (wb:World)
    (hb:∀s D w,Inv s D w→∀b,D b→wb.heap.size≤b∧b<w.heap.size)
    (hst:∀s D w w',Inv s D w→Ext w w'→Inv s D w')
    (hP:∀t,Pn t→∀x∈t.args,Pn x)
    (hf:∀s D w t vs,Ext wb w→Pn t→Inv s D w→zBB wb t vs→zCG prog fv #[.agg vs.toArray] w fun v w'=>∃D',v=.bool (F s t).1∧Chg D w w'∧Inv (F s t).2 D' w'∧∀b,D' b→D b∨w.heap.size≤b) :
    ∀n t,t.size≤n→Pn t→∀s (D:Nat→Prop) w0 vs,Ext wb w0→Inv s D w0→zBB wb t vs→
      Ret prog 42 #[.agg vs.toArray,fv] w0 fun v w'=>∃D',v=.bool (zCc F t s).1∧Chg D w0 w'∧Inv (zCc F t s).2 D' w'∧∀b,D' b→D b∨w0.heap.size≤b:=by
  have ad:∀{D:Nat→Prop} {w w':World},Ext wb w→(∀b,D b→wb.heap.size≤b)→Chg D w w'→Ext wb w':=fun e h c=>Chg.step e c fun x hx hm=>by have:=h x hm;omega
  intro n
  induction n with
  | zero=>intro t ht;have:=t.size_pos;omega
  | succ n ih=>
  intro t hn au s D w0 vs hE hI ht;obtain ⟨sa,sc,aa,ac,rfl,a5,a0,af⟩:=ht.form;have ag:=hb s D w0 hI;rw[zEM];refine zDc func42 rfl ntmps42 (leT rfl) ?_;have E:Chg D w0 w0:=Chg.refl _ _;refine zAA (zBQ (v:=(.agg (R6 t sa sc aa ac))) (c:=(R6 t sa sc aa ac)) qD rfl rfl ?_);intro br wr Nr;have Fr:=Nr.ge E;replace hI:=hst _ _ _ _ hI Nr.ext;replace E:=E.ext Nr.ext;have Br:=Nr.blk;refine qA _ rfl (zAB (zAH (zAA (qM _ rfl (qV (zAK (vs:=[(I6 t.kind),(.slice sa t.set.length sc),(.slice aa t.args.length ac),(I6 t.mn),(I6 t.mx),(.bool t.neg)]) rfl zBc zAw rfl (Br.cells rfl)) (zDD qD rfl rfl (hf s D _ t _ (hE.trans Nr.ext) au hI ht) ?_))))));rintro _ w2 ⟨D1,rfl,C2,hI,aw⟩;replace Br:=C2.keep (fun h=>by have:=(ag _ h).2;omega) Br;replace E:=E.trans C2;have hE2:Ext wb w2:=ad hE (fun b h=>(ag b h).1) E;have ae:∀b,D1 b→D b∨w0.heap.size≤b:=fun b h=>(aw b h).imp id (fun h=>by have:=Nr.size;omega);have al:∀b,D1 b→b≠br:=fun b h e=>by rcases aw b h with h|h;have:=(ag b h).2;have:=Nr.eq;omega;have:=Nr.size;have:=Nr.eq;omega
  refine qV (zCa rfl) (zAB (zBD rfl (fun h=>?_) (fun h=>?_)))
  · have kh:=h;replace h:=by simpa using h
    refine zAA (qA _ rfl (zAB (zAV (zAU (zAY results42 (v:=(.bool false)) rfl ?_)))));exact ⟨D1,by rw[if_neg (by simp[h])],E,by rw[if_neg (by simp[h])];exact hI,ae⟩
  · have kh:=h;replace h:=by simpa using h
    rw[if_pos (by simpa using h)];generalize (F s t).2=s1 at hI⊢;have z2:br<w2.heap.size:=by have:=C2.size;have:=Nr.size;have:=Nr.eq;omega
    refine zAO (zAC (zAH (zAA (qF br 0 2 rfl underlying26 rfl zFw rfl (qV (zAI rfl zEQ (Br.cell rfl)) (qV (zAJ underlying24 rfl) (qM _ rfl (zAB (zAS (zAp (fun nn_ σ W2=>∃(k:Nat) (s':S) (D2:Nat→Prop),(∃jj_,σ=zCT jj_ [(1,fv),(12,(.slice aa t.args.length ac)),(13,(I6 (t.args.length:Int))),(14,(I6 (k:Int)))])∧Chg D w0 W2∧Blk W2 br (R6 t sa sc aa ac) 26∧(k≤t.args.length)∧(Inv s' D2 W2)∧(zCS F t.args s1=zCS F (t.args.drop k) s')∧(∀b,D2 b→D b∨w0.heap.size≤b)∧(∀b,D2 b→b≠br)∧(br<W2.heap.size)∧nn_=t.args.length - k) (n:=t.args.length - 0) ?_ ?_))))))))))
    · exact ⟨0,s1,D1,zAz.out ⟨rfl,rfl,rfl,rfl,trivial⟩,E,Br,Nat.zero_le _,hI,rfl,ae,al,z2,rfl⟩
    · clear E Br;rintro _ _ W2 ⟨k,s',D2,⟨j2,rfl⟩,E,Br,hk,hI,ab,ak,an,hz,rfl⟩;have av:=hb s' D2 _ hI;have hE1:=E.size;refine zAA (qV (zBF rfl rfl) (zAB (zAH (qC rfl (fun a1=>?_) (fun a1=>?_)))))
      · obtain ⟨x,hx⟩:=zAN (l:=t.args) (i:=k) qO;obtain ⟨b,o,rfl,aj⟩:∃b o,aa=some ⟨b,o,none⟩∧zCx wb b o t.args:=by
          rcases af with h|h
          · rw[h] at hx;simp at hx
          · exact h
        obtain ⟨us,a3,ar⟩:=aj.get hx;have ai:=ar;obtain ⟨am,ao,ap,aq,rfl,_,_,_⟩:=ar.form;have ax:Ext wb _:=ad hE (fun b h=>(ag b h).1) E;have hsz:=Re.size_arg hx;refine zAO (zAC (zAH (zAS (zAA (qV (zAD (b:=b) (o:=o) (len:=t.args.length) (cap:=ac) (i:=k) (o':=o+k*6) rfl rfl rfl underlying24 zAw qO qO) (qV (zAK rfl zBc zAw rfl (a3.ext ax)) (zAd (v:=(.agg (R6 x am ao ap aq))) (c:=(R6 x am ao ap aq)) (n:=6) qD zEH rfl zAw rfl rfl rfl qS ?_)))))));intro bz wz Nz;have Fz:=Nz.ge E;have Oz_br:=Nz.lt Br;replace Br:=Nz.keep Br;replace hI:=hst _ _ _ _ hI Nz.ext;replace E:=E.ext Nz.ext;have Bz:=Nz.blk;refine zAB (zAA (qV (zAK (vs:=[(I6 x.kind),(.slice am x.set.length ao),(.slice ap x.args.length aq),(I6 x.mn),(I6 x.mx),(.bool x.neg)]) rfl zBc zAw rfl (Bz.cells rfl)) (qM _ rfl (qE rfl (zAQ func42 kQ kQ rfl) (ih x qO (hP t au x (List.mem_of_getElem? hx)) s' D2 _ _ (ax.trans Nz.ext) hI ai) ?_))));rintro _ w9 ⟨D4,rfl,C9,hI,az⟩;replace Br:=C9.keep (fun h=>by have h1:=an _ h;have h2:=(av _ h).2;first|exact h1 rfl|(have:=Nz.eq;omega)) Br;replace Bz:=C9.keep (fun h=>by have h1:=an _ h;have h2:=(av _ h).2;first|exact h1 rfl|(have:=Nz.eq;omega)) Bz;replace E:=E.step C9 (fun y hy h=>(ak y h).resolve_right qO);have a4:=zEd hx;rw[a4,zCb] at ab;have ay:∀b,D4 b→D b∨w0.heap.size≤b:=fun b h=>by rcases az b h with h|h;exact ak b h;exact .inr (by have:=Nz.size;omega)
        have ah:∀b,D4 b→b≠br:=fun b h e=>by rcases az b h with h|h;exact an b h e;have:=Nz.size;omega
        refine qV (zCa rfl) (zAB (zBD rfl (fun h2=>?_) (fun h2=>?_)))
        · have a2:=h2;replace h2:=by simpa using h2
          refine zAA (qA _ rfl (zAB (zAV (zAi (zAU (zAU (zAi (zAU (zAY results42 (v:=(.bool false)) rfl ?_)))))))));exact ⟨D4,by rw[ab,if_neg (by simp[h2])],E,by rw[ab,if_neg (by simp[h2])];exact hI,ay⟩
        · have a2:=h2;replace h2:=by simpa using h2
          rw[if_pos (by simpa using h2)] at ab;refine zAO (zAR (zAC (zAF (qV (zAv rfl rfl (zBb qO)) (qM _ rfl (zAB (zAC ?_)))))));exact ⟨t.args.length - (k+1),qO,k+1,(zCc F x s').2,D4,zAz.out ⟨rfl,rfl,rfl,rfl,trivial⟩,E,Br,qO,hI,ab,ay,ah,(by have:=C9.size;have:=Nz.size;omega),rfl⟩
      · have a6:k=t.args.length:=qO
        rw[a6,List.drop_length] at ab;refine zAn (zAT (zAT (zAg (zAC (zAA (qA _ rfl (zAB (zAV (zAY results42 (v:=(.bool true)) rfl ?_)))))))));exact ⟨D2,by rw[ab];rfl,E,by rw[ab];exact hI,ak⟩
end Go.Proofs
namespace Go.Proofs
open Go Go.Eng
set_option maxRecDepth 100000
section
variable {S : Type} (F : S → Re → Bool × S)
def zFs:List Re→S→Bool×S
  | [],s=>(true,s)
  | t::ts,s=>if (F s t).1 then zFs ts (F s t).2 else (false,(F s t).2)
theorem zGx:∀(a b:List Re) (s:S),zFs F (a++b) s=if (zFs F a s).1 then zFs F b (zFs F a s).2 else (false,(zFs F a s).2)
  | [],b,s=>by simp[zFs]
  | x::a,b,s=>by
    simp only[List.cons_append,zFs];split
    · exact zGx a b _
    · simp
mutual
theorem zIu:∀(t:Re) (s:S),zCc F t s=zFs F (zRG t) s
  | .mk k set args mn mx ng,s=>by
    rw[zEM,zMO];simp only[zFs,Re.args];rw[zHa args]
theorem zHa:∀(ts:List Re) (s:S),zCS F ts s=zFs F (zGE ts) s
  | [],s=>by simp only[zCS,zGE,zFs]
  | t::ts,s=>by
    rw[zCb];simp only[zGE];rw[zGx,←zIu t,←zHa ts]
end
end
end Go.Proofs
namespace Go.Proofs
open Go Go.Eng Go.Sort
set_option maxRecDepth 100000
abbrev zXk:Nat:=35
theorem zIw (w0:World) (v fv:Value) (ll:List (List Sp)) (p:List Sp→Bool) (h:zBv w0 v ll) (hf:∀(w:World) (u:Value) (l:List Sp),Ext w0 w→zBK w u l→l∈ll→zCG prog fv #[u] w fun r w'=>r=.bool (p l)∧Ext w w') :
  Ret prog 50 #[v,fv] w0 fun r w=>r=.bool (ll.any p)∧Ext w0 w:=by
 refine qR func50 rfl ntmps50 rfl (fun E=>(zAA (qA _ rfl (zAB (zAA (qM v rfl (qM _ rfl (qE rfl (zAQ func84 kQ kQ rfl) (zNz _ v fv ll p h hf) ?_))))))));rintro _ w9 ⟨rfl,X9⟩;replace E:=E.ext X9;refine qV (zDK rfl rfl) (qA _ rfl (zAB (zAV (zAY results50 (v:=(.bool (decide ((0:Int)≤idx p ll)))) rfl ?_))));exact ⟨zBy (zKA p ll),E⟩
theorem zOA (w0:World) (v fv:Value) (ll:List (List Sp)) (p:List Sp→Bool) (h:zBv w0 v ll) (hf:∀(w:World) (u:Value) (l:List Sp),Ext w0 w→zBK w u l→zCG prog fv #[u] w fun r w'=>r=.bool (p l)∧Ext w w') :
  Ret prog 50 #[v,fv] w0 fun r w=>r=.bool (ll.any p)∧Ext w0 w:=
 zIw w0 v fv ll p h fun w u l e hs _=>hf w u l e hs
theorem zVB (w0:World) (bz:Nat) (x:Re) (xs:List Value) (u:Value) (l:List Sp) (hB:Blk w0 bz xs.toArray 26) (hx:zBB w0 x xs) (hu:zBK w0 u l) :
  Ret prog 68 #[u,.pointer (some ⟨bz,0,none⟩)] w0 fun r w=>r=.bool (decide (l=x.set))∧Ext w0 w:=by
 obtain ⟨sa,sc,aa,ac,rfl,ab,_,_⟩:=hx.form;refine qR func68 rfl ntmps68 rfl (fun E=>(zAA (qA _ rfl (zAB (zAA (qM u rfl (qF bz 0 1 rfl underlying26 rfl zCd rfl (qV (zAI rfl zCZ (hB.cell rfl)) (qE rfl (zAQ func14 kQ kQ rfl) (zSz _ _ _ l x.set (hu.ext E) (zCI.ext ab E)) ?_)))))))));rintro _ w9 ⟨rfl,X9⟩;replace hB:=X9.keep hB;replace E:=E.ext X9;refine qA _ rfl (zAB (zAV (zAY results68 (v:=(.bool (decide (l=x.set)))) rfl ?_)));exact ⟨rfl,E⟩
def zVG (bo base:Nat) (SR:List (List Sp)) (s:List (List Sp)) (D:Nat→Prop) (w:World):Prop:=
 ∃(oa:Option Addr) (oc:Nat) (vs:List Value),Blk w bo #[.slice oa s.length oc] zXk∧LSt TSs TSp 2 w base (.slice oa s.length oc) vs (s.map zWj)∧(∀b,D b↔b=bo∨(Value.slice oa s.length oc).ownBlock=some b)∧bo<base∧base≤w.heap.size∧s.Nodup∧∀x∈s,x∈SR
def osG (base:Nat) (l:List Sp):Fct:=fun v w=>∃a c,v=.slice a l.length c∧w.ownsRow base TSp 2 (.slice a l.length c) l.length (l.map zBl).flatten
theorem zHn (base:Nat) (l:List Sp):zLv (osG base l):=by
 rintro v w w' e ⟨a,c,rfl,h⟩;exact ⟨a,c,rfl,zAj h e⟩
def zQC (l:List Sp) (base:Nat):Fct:=fun v w=>∃b a c,v=.slice (some ⟨b,0,none⟩) 1 1∧Blk w b #[.slice a l.length c] TSs∧base≤b∧w.ownsRow base TSp 2 (.slice a l.length c) l.length (l.map zBl).flatten
theorem zHt (l:List Sp) (base:Nat):zLv (zQC l base):=by
 rintro v w w' e ⟨b,a,c,rfl,h,h2,h3⟩;exact ⟨b,a,c,rfl,Ext.keep e h,h2,zAj h3 e⟩
theorem zOp {M:Nat→Prop} {N:Nat} {σ:Env} {w:World} {dst:Option Tmp} {ty:TypeId} {pos:String} {af:Array Edge} {g:Option (Nat×Bool)} {x:Operand} {a:Option Addr} {c base:Nat} {l:List Sp} (hx:ev σ x=.slice a l.length c) (hb:base≤w.heap.size) (hO:w.ownsRow base TSp 2 (.slice a l.length c) l.length (l.map zBl).flatten) :
  zCj M prog N ⟨dst,.buildSlice 35 1 #[(0,x)],ty,pos,af,g⟩ (zQC l base) σ w:=by
 have hn:=New.mk' w #[.slice a l.length c] TSs;exact zAX (zET (parts:=[(0,x)]) (ps:=[(0,.slice a l.length c)]) (by simp only[List.map,hx]) underlying35 zCd zOx qD qD qK) (Ext.chg hn.ext) ⟨_,_,_,rfl,hn.blk,hb,zAj hO hn.ext⟩
theorem zLr {s:List (List Sp)} {t:Re} (h:t.kind=2→t.set∈s):zKT s t=s:=by
 unfold zKT;rw[if_neg fun h2=>h2.2 (h h2.1)]
theorem zWa (w0:World) (bo base:Nat) (SR:List (List Sp)) (hSR:SR.length≤1000∧∀s∈SR,zBR s=0) (s:List (List Sp)) (D:Nat→Prop) (x:Re) (xs:List Value) (hI:zVG bo base SR s D w0) (hP:zIq (fun s=>s∈SR) x) (hx:zBB w0 x xs) :
  Ret prog 67 #[.agg xs.toArray,.pointer (some ⟨bo,0,none⟩)] w0 fun v w'=>∃D',v=.bool true∧Chg D w0 w'∧zVG bo base SR (zKT s x) D' w'∧∀b,D' b→D b∨w0.heap.size≤b:=by
 have a7:=hx;have hI0:=hI;obtain ⟨sa,sc,aa,ac,rfl,an,_,_⟩:=hx.form;obtain ⟨oa,oc,vs,hB,hL,hD,am,ae,ak,af⟩:=hI;have bf:=ae;have bh:D bo:=(hD bo).2 (.inl rfl);have hsl:s.length≤1000:=Nat.le_trans (zEO ak af) hSR.1;have a0:=fun k h=>(hL.o.lt k h).2;have hD0:∀b,D b→b<w0.heap.size:=fun b h=>by rcases (hD b).1 h with h|h;omega;exact a0 b h
 refine zDc func67 rfl ntmps67 (leT rfl) ?_;have E:Chg D w0 w0:=Chg.refl _ _;refine zAA (zBQ (v:=(.agg (R6 x sa sc aa ac))) (c:=(R6 x sa sc aa ac)) qD rfl rfl ?_);intro bz wz Nz;replace hB:=Nz.keep hB;replace hL:=hL.ext Nz.ext;replace ae:=Nat.le_trans ae Nz.ext.size;replace E:=E.ext Nz.ext;have Bz:=Nz.blk;refine qA _ rfl (zAB (zAH (zAA (qF bz 0 0 rfl underlying26 rfl zAy rfl (qV (zAI rfl zAo (Bz.cell rfl)) (qV (zAs rfl rfl) (qM _ rfl ?_)))))));rcases Bool.eq_false_or_eq_true (decide ((x.kind:Int)=2)) with g1|g1
 ·have ah:=g1;replace ah:=of_decide_eq_true ah;refine zAG rfl rfl qD (cbk g1) (qV (zAI rfl zDY (hB.cell rfl)) (zAG rfl rfl qD (cbk g1) (qV (zBV rfl rfl) (zAG rfl rfl qD (cbk g1) (qE rfl (zAQ func50 kQ kQ rfl) (zOA _ _ _ s (fun l=>decide (l=x.set)) hL.spss (fun w u l hE hu=>zCG.mk (first:=#[]) (cap:=#[.pointer (some ⟨bz,0,none⟩)]) func68 kQ kQ rfl (zVB w bz x _ u l (hE.keep Bz) (zBB.ext (Nz.ext.trans hE) x a7) hu))) ?_)))));rintro _ w9 ⟨rfl,X9⟩;replace hB:=X9.keep hB;replace Bz:=X9.keep Bz;replace hL:=hL.ext X9;replace ae:=Nat.le_trans ae X9.size;replace E:=E.ext X9;refine zAG rfl rfl qD (cbk g1) (qV (zCa rfl) (qV (zAr (v:=(.bool (!(s.any fun l=>decide (l=x.set))))) rfl (by rw[g1];rfl)) (zAB (zBD rfl (fun g2=>?_) (fun g2=>?_)))))
  ·have a4:=g2;replace g2:=by simpa using g2
   have ap:x.set∉s:=fun h=>g2 _ h rfl;have aq:=hP.s ah;have a8:=(zKO (hSR.2 x.set aq)).2;have ab:zKT s x=s++[x.set]:=by unfold zKT;rw[if_pos ⟨ah,ap⟩]
   obtain ⟨n1,a1⟩:∃n,n=(w9).heap.size:=⟨_,rfl⟩;have hn0:w0.heap.size≤n1:=by rw[a1];have:=X9.size;have:=Nz.size;omega
   obtain ⟨bb,ad⟩:∃Fs:List (FactT (zAh)),Fs=[.eq (.slice oa s.length oc),.eq (P6 bz 1),.eq (.slice sa x.set.length sc),.gen (osG n1 x.set) (zHn _ _),.gen (zQC x.set n1) (zHt _ _)]:=⟨_,rfl⟩;refine zIV (zAh) 5 3 [13,14,15,16,17] [[],[],[1],[2],[3]] bb ad rfl mixed qK qK qK ?_ ?_
   ·intro wd X0;refine DagStepsT.cons (fun s' w' X U H=>?_) ?_
    ·exact zAX (zAI (U 1 rfl) zDY ((Chg.keep X (fun f=>f) (X0.keep hB)).cell rfl)) (Chg.refl _ _) rfl
    refine DagStepsT.cons (fun s' w' X U H=>?_) ?_
    ·exact zAX (zAZ (U 2 rfl) underlying26 rfl zCd rfl) (Chg.refl _ _) rfl
    refine DagStepsT.cons (fun s' w' X U H=>?_) ?_
    ·have be:s' 14=(.pointer (some ⟨bz,1,none⟩)):=H 1 rfl 14 (.eq (.pointer (some ⟨bz,1,none⟩))) rfl (by rw[ad];rfl);exact zAX (zAI be zCZ ((Chg.keep X (fun f=>f) (X0.keep Bz)).cell rfl)) (Chg.refl _ _) rfl
    refine DagStepsT.cons (fun s' w' X U H=>?_) ?_
    ·have a6:s' 15=(.slice sa x.set.length sc):=H 2 rfl 15 (.eq (.slice sa x.set.length sc)) rfl (by rw[ad];rfl);exact zCt (zAQ func66 kQ kQ (zOv a6)) ((zNm _ _ x.set (zCI.ext (zCI.ext an (Nz.ext.trans X9)) (X0.trans X)) qO).mono (fun v w h=>⟨(by obtain ⟨⟨⟨a,c,h1⟩,h2⟩,_⟩:=h;subst h1;exact ⟨a,c,rfl,zEq h2 (by have:=X0.size;have:=X.size;omega)⟩:osG n1 x.set v w),h.2⟩))
    refine DagStepsT.cons (fun s' w' X U H=>?_) ?_
    ·obtain ⟨a3,a2,au,az⟩:=(show (.gen (osG n1 x.set) (zHn _ _):FactT (zAh)).In (s' 16) w' from H 3 rfl 16 (.gen (osG n1 x.set) (zHn _ _)) rfl (by rw[ad];rfl));exact zOp au (by have:=X0.size;have:=X.size;omega) az
    exact DagStepsT.nil
   ·intro s' wd3 w3 X0 X3 U H;have ba:s' 13=(.slice oa s.length oc):=H 0 13 (.eq (.slice oa s.length oc)) rfl (by rw[ad];rfl);obtain ⟨a3,a2,au,az⟩:=(show (.gen (osG n1 x.set) (zHn _ _):FactT (zAh)).In (s' 16) w3 from H 3 16 (.gen (osG n1 x.set) (zHn _ _)) rfl (by rw[ad];rfl));obtain ⟨bg,aw,ax,bd,a5,h17,bc⟩:=(show (.gen (zQC x.set n1) (zHt _ _):FactT (zAh)).In (s' 17) w3 from H 4 17 (.gen (zQC x.set n1) (zHt _ _)) rfl (by rw[ad];rfl));obtain ⟨j3,rfl⟩:=zAz.out (σ:=s') (l:=[(1,(.pointer (some ⟨bo,0,none⟩))),(13,(.slice oa s.length oc)),(17,(.slice (some ⟨bg,0,none⟩) 1 1))]) ⟨U 1 rfl,ba,bd,trivial⟩;clear U H;replace hB:=Chg.keep X3 (fun f=>f) (X0.keep hB);replace Bz:=Chg.keep X3 (fun f=>f) (X0.keep Bz);replace hL:=hL.ext X0;replace hL:=hL.ext X3;replace ae:=Nat.le_trans ae X0.size;replace ae:=Nat.le_trans ae X3.size;replace E:=(E.ext X0).step X3 (fun _ _ f=>f.elim);have hw3:=E.size;have av:=hL.on (n:=s.length) qP;refine zBp (base:=base) (n:=s.length) (m:=1) (xs:=vs) (news:=[(.slice aw x.set.length ax)]) (size:=1) (bytes:=24) (v:=(.slice oa s.length oc)) qD underlying35 zCd zWW zOx rfl qD rfl av rfl (rfl) (a5.cells rfl) qS (by unfold maxLen;omega) qO (ae) ?_;intro v9 w29 ay al ar;replace hB:=al.keep (fun h=>by have:=(av.lt _ h).1;omega) hB;replace E:=E.step al (fun y hy h=>(hD y).2 (.inr h));obtain ⟨aj,ai,rfl⟩:=zBO ay;have ao:=hL.push (n:=s.length) qP bc qO (fun k h=>by have:=a0 k h;omega) ay al ar;have ag:=Nat.le_trans ae al.size;have a9:∀b,(Value.slice aj (s.length+1) ai).ownBlock=some b→D b∨w0.heap.size≤b:=fun b h=>by rcases ar b h with h|h;exact .inl ((hD b).2 (.inr h));exact .inr qO
    refine zBC (b:=bo) (o:=0) (c':=#[(.slice aj (s.length+1) ai)]) (v:=(.slice aj (s.length+1) ai)) rfl rfl rfl zHK hB qP rfl ?_;intro w4 S4;replace ao:=ao.chg S4.chg (fun b hb _ h=>by have h2:b=bo:=h;omega);replace ag:=Nat.le_trans ag S4.chg.size;replace E:=S4.step E qQ;replace hB:=S4.blk;refine zAB (zAC (zAA (qA _ rfl (zAB (zAV (zAY results67 (v:=(.bool true)) rfl (⟨fun b=>b=bo∨(Value.slice aj (s.length+1) ai).ownBlock=some b,rfl,E,⟨aj,ai,vs++[.slice aw x.set.length ax],?_,?_,?_,am,ag,?_,?_⟩,?_⟩)))))))
    ·rw[ab,List.length_append];exact hB
    ·rw[ab,List.length_append,List.map_append];exact ao
    ·intro b;rw[ab,List.length_append];exact Iff.rfl
    ·rw[ab,List.nodup_append];exact ⟨ak,qP,fun a ha b hb=>by rw[List.mem_singleton.1 hb];rintro rfl;exact ap ha⟩
    ·intro y hy;rw[ab] at hy;rcases List.mem_append.1 hy with h|h
     ·exact af y h
     ·rw[List.mem_singleton.1 h];exact aq
    ·rintro b (rfl|h)
     ·exact .inl bh
     ·exact a9 b h
  ·have a4:=g2;replace g2:=by simpa using g2
   have ab:zKT s x=s:=zLr fun _=>g2;refine zAO (zAC (zAA (qA _ rfl (zAB (zAV (zAY results67 (v:=(.bool true)) rfl ?_))))));exact ⟨D,rfl,E,by rw[ab];exact ⟨oa,oc,vs,hB,hL,hD,am,ae,ak,af⟩,fun b h=>.inl h⟩
 ·have ah:=g1;replace ah:=of_decide_eq_false ah;have ab:zKT s x=s:=zLr fun h=>by simp[h] at g1
  refine zAM rfl rfl qD (v:=.bool false) (cbk g1) (Or.inl rfl) (zAM rfl rfl qD (v:=.bool false) (cbk g1) (Or.inl rfl) (zAM rfl rfl qD (v:=.bool false) (cbk g1) (Or.inl rfl) (zAM rfl rfl qD (v:=.bool false) (cbk g1) (Or.inl rfl) (qV (zAr (v:=(.bool false)) rfl (by rw[g1];rfl)) (zAB (zAP rfl (zAO (zAC (zAA (qA _ rfl (zAB (zAV (zAY results67 (v:=(.bool true)) rfl ?_)))))))))))));exact ⟨D,rfl,E,by rw[ab];exact ⟨oa,oc,vs,hB,hL,hD,am,ae,ak,af⟩,fun b h=>.inl h⟩
theorem zVG.ext {bo base:Nat} {SR s:List (List Sp)} {D:Nat→Prop} {w w':World} (h:zVG bo base SR s D w) (e:Ext w w'):zVG bo base SR s D w':=by
 obtain ⟨oa,oc,vs,hB,hL,hD,ac,ad,ab,aa⟩:=h;exact ⟨oa,oc,vs,e.keep hB,hL.ext e,hD,ac,Nat.le_trans ad e.size,ab,aa⟩
theorem zIt {S:Type} (f:S→Re→S):∀(l:List Re) (s:S),zFs (fun s t=>(true,f s t)) l s=(true,l.foldl f s)
  | [],s=>rfl
  | t::l,s=>by simp only[zFs,if_true,List.foldl_cons];exact zIt f l _
theorem zVA (w0:World) (t:Re) (vs:List Value) (ht:zBB w0 t vs) (hv:zIq (fun s=>zBR s=0) t) (hs:t.size≤1000) :
  Ret prog 34 #[.agg vs.toArray] w0 fun v w=>zBv w v (zBT t)∧Ext w0 w:=by
 have af:=ht;obtain ⟨sa,sc,aa,ac,rfl,ag,_,_⟩:=ht.form;have ad:(zBT t).length≤1000∧∀s∈zBT t,zBR s=0:=⟨Nat.le_trans (zMw t) hs,zFa hv⟩;have hw:zCc (fun s t=>(true,zKT s t)) t []=(true,zBT t):=by rw[zIu,zIt];rfl
 have ai:zIq (fun s=>s∈zBT t) t:=zMx fun s h=>h;refine qR func34 rfl ntmps34 rfl (fun E=>(zAA (zBQ (v:=(.agg (R6 t sa sc aa ac))) (c:=(R6 t sa sc aa ac)) qD rfl rfl ?_)));intro br wr Nr;have Fr:=Nr.ge E;replace E:=E.ext Nr.ext;have Br:=Nr.blk;refine qA _ rfl (zAB (zAA (zBH (c:=#[(.slice none 0 0)]) qD zWs rfl ?_)));intro bo wo No;have Fo:=No.ge E;have Oo_br:=No.lt Br;replace Br:=No.keep Br;replace E:=E.ext No.ext;have Bo:=No.blk;refine zAB (zAA (qV (zAK (vs:=[(I6 t.kind),(.slice sa t.set.length sc),(.slice aa t.args.length ac),(I6 t.mn),(I6 t.mx),(.bool t.neg)]) rfl zBc zAw rfl (Br.cells rfl)) (qV (zBV rfl rfl) ?_)));have ae:=Bo.lt;have ab:zVG bo wo.heap.size (zBT t) [] (fun b=>b=bo) wo:=⟨none,0,[],Bo,LSt.start _ _ _ _ _,fun b=>⟨.inl,fun h=>h.elim id (fun h=>by cases h)⟩,Bo.lt,Nat.le_refl _,List.nodup_nil,fun x hx=>by cases hx⟩;refine qE rfl (zAQ func42 kQ kQ rfl) ((zVT (fun s t=>(true,zKT s t)) (zVG bo wo.heap.size (zBT t)) (zIq (fun s=>s∈zBT t)) _ wr (fun s D w hI b hb=>by obtain ⟨oa,oc,vs,hB,hL,hD,h1,h2,_,_⟩:=hI;rcases (hD b).1 hb with h|h;exact ⟨by have:=No.eq;omega,qO⟩;exact ⟨by have:=(hL.o.lt b h).1;have:=No.size;omega,(hL.o.lt b h).2⟩) (fun s D w w' hI e=>hI.ext e) (fun t h x hx=>h.a x hx) (fun s D w t vs hE hP hI hx=>zCG.mk (first:=#[]) (cap:=#[.pointer (some ⟨bo,0,none⟩)]) func67 kQ kQ rfl (zWa w bo wo.heap.size _ ad s D t vs hI hP (zBB.ext hE t hx))) t.size t (Nat.le_refl _) ai [] (fun b=>b=bo) _ _ No.ext ab (zBB.ext Nr.ext t af)).mono (R':=fun v w=>v=.bool true∧(∃oa oc vs,Blk w bo #[.slice oa (zBT t).length oc] zXk∧LSt TSs TSp 2 w wo.heap.size (.slice oa (zBT t).length oc) vs ((zBT t).map zWj))∧Chg (fun b=>b=bo) wo w) (fun v w h=>by obtain ⟨D',h1,h2,h3,_⟩:=h;rw[hw] at h1 h3;obtain ⟨oa,oc,vs,hB,hL,_⟩:=h3;exact ⟨h1,⟨oa,oc,vs,hB,hL⟩,h2⟩)) ?_;rintro _ w9 ⟨rfl,⟨oa,oc,us,ah,hL⟩,C9⟩;replace Br:=C9.keep qO Br;replace E:=E.step C9 (by intro x hx hm;omega);refine zAB (zAA (qV (zAI rfl zDY (ah.cell rfl)) (qA _ rfl (zAB (zAV (zAY results34 (v:=(.slice oa ((zBT t).length) oc)) rfl ?_))))));exact ⟨hL.spss,E⟩
end Go.Proofs
namespace Go.Proofs
open Go Go.Eng Go.Sort
set_option maxRecDepth 100000
structure RRow (S:Nat→Prop) (w:World) where
 t:Re
 vs:List Value
 h:zBw S w t vs
instance {S:Nat→Prop} {w:World}:Inhabited (RRow S w):=⟨⟨_,_,zRX S w 0⟩⟩
end Go.Proofs
namespace Go.Proofs
open Go Go.Eng Go.Sort
set_option maxRecDepth 100000
theorem zSZ {ll out:List (List Sp)} {e:Int} (h:zOd ll out e) (hv:∀l∈ll,zBR l=0) (he:e≠0):e=2:=by
 rcases h with ⟨h1,_⟩|⟨_,cs,_,⟨_,h2,_⟩|⟨_,h2,_⟩⟩
 ·exact absurd (zGq hv) h1
 ·exact h2
 ·exact absurd h2 he
theorem zMi {ll out:List (List Sp)} {e:Int} (h:zOd ll out e) (hv:∀l∈ll,zBR l=0) (he:e=0):zQq ll out∧out.length≤16:=by
 rcases h with ⟨h1,_⟩|⟨_,cs,h0,⟨_,h2,_⟩|⟨h3,h2,rfl⟩⟩
 ·exact absurd (zGq hv) h1
 ·omega
 ·refine ⟨h0,?_⟩;unfold zLE at h3;exact Nat.le_of_not_lt fun h=>h3 (.inr h)
end Go.Proofs
namespace Go.Proofs
open Go Go.Eng Go.Sort
set_option maxRecDepth 100000
def zUe (c:Int) (x:Re) (s:List Re×List Int):List Re×List Int:=
 if (zKk c x).kind=0 then (s.1,s.2++[-1]) else if (s.1.any fun y=>zPW y (zKk c x))=true then (s.1,s.2++[idx (fun y=>zPW y (zKk c x)) s.1]) else (s.1++[zKk c x],s.2++[((s.1.length:Nat):Int)])
def zTQ (cs:List (List Sp)) (x:Re) (L:List Re):List Re×List Int:=cs.foldl (fun s cl=>zUe (zBM cl) x s) (L,[])
def zLa (cs:List (List Sp)) (t:Re):Nat→List Re×List (List Int)
  | 0=>([zXc t],[])
  | i+1=>match (zLa cs t i).1[i]? with
    | none=>zLa cs t i
    | some x=>((zTQ cs x (zLa cs t i).1).1,(zLa cs t i).2++[(zTQ cs x (zLa cs t i).1).2])
def zWd (cs:List (List Sp)) (t:Re) (i:Nat):Prop:=∃x,(zLa cs t i).1[i]?=some x∧((∃cl∈cs,300<(zKk (zBM cl) x).size)∨200<(zLa cs t (i+1)).1.length)
def zXm (cs:List (List Sp)) (t:Re) (L:List Re) (rows:List (List Int)):Prop:=∃n,zLa cs t n=(L,rows)∧n=L.length∧∀j,j<n→¬zWd cs t j
end Go.Proofs
namespace Go.Proofs
open Go Go.Eng Go.Sort
set_option maxRecDepth 100000
end Go.Proofs
namespace Go.Proofs
open Go Go.Eng Go.Sort
set_option maxRecDepth 100000
theorem zTD:Siz prog 104 0:=by unfold Siz;kernel_rfl
theorem zOy:Zer prog 104 (.agg #[]):=by unfold Zer;kernel_rfl
theorem zOH (w0:World) (b1 b2:Nat):CallsD prog 69 #[.pointer (some ⟨b1,0,none⟩),.pointer (some ⟨b2,0,none⟩)] .returning w0 fun e u1 w'=>(∃r,e=.returned r∧Ext w0 w')∧u1=.returning:=by
 refine zFj (v:=.nilIface) func69 rfl ntmps69 (leT rfl) rfl rfl qD (fun _ _=>zKr) (.inl ⟨rfl,rfl,rfl⟩) ?_;have E:Chg zAh w0 w0:=Chg.refl _ _;refine qV (zMM underlying104 zOy rfl) (qM _ rfl (qV (zAa rfl rfl) (qV (zAa rfl rfl) (zAd (v:=(.agg #[])) (c:=#[]) (n:=0) qD zOy rfl zTD rfl rfl rfl qS ?_))));intro b1 w1 N1;replace E:=E.ext N1.ext;have B1:=N1.blk;refine qA _ rfl (zAB (zAA (qM _ rfl (zAB (zAP rfl (zAO (zFW results69 ?_)))))));exact E
theorem zMR (w0:World) (bd be:Nat) (x e:Int) (ya za:Option Addr) (yn yc zn zc:Nat) (h1:Blk w0 bd #[.int .i64 x,.slice ya yn yc,.slice za zn zc] 34) (h2:Blk w0 be #[.int .i64 e] 29) (hne:bd≠be) :
  CallsD prog 69 #[.pointer (some ⟨bd,0,none⟩),.pointer (some ⟨be,0,none⟩)] (.panicking lgC) w0 fun e u1 w'=>(∃r,e=.returned r∧(Blk w' bd #[.int .i64 0,.slice none 0 0,.slice none 0 0] 34∧Blk w' be #[.int .i64 2] 29∧Chg (fun y=>y=bd∨y=be) w0 w'))∧u1=.panicking [{v:=.iface 104 (.agg #[]),recovered:=true}]:=by
 have hl1:=h1.lt;have hl2:=h2.lt;refine zFj (v:=(.iface 104 (.agg #[]))) func69 rfl ntmps69 (leT rfl) rfl rfl qD (fun _ _=>zKr) (.inr ⟨[],rfl,rfl⟩) ?_;have E:Chg (fun y=>y=bd∨y=be) w0 w0:=Chg.refl _ _;refine qV (zML underlying104 rfl) (qM _ rfl (qV (zAa rfl rfl) (qV (zAa rfl rfl) (zAd (v:=(.agg #[])) (c:=#[]) (n:=0) qD zOy rfl zTD rfl rfl rfl qS ?_))));intro b1 w1 N1;have F1:=N1.ge E;have O1_bd:=N1.lt h1;have O1_be:=N1.lt h2;replace h1:=N1.keep h1;replace h2:=N1.keep h2;replace E:=E.ext N1.ext;have B1:=N1.blk;refine qA _ rfl (zAB (zAA (qM _ rfl (zAB (zAk rfl (zAF (qV (zBA (ps:=[]) (v:=(.agg #[(I6 0),(.slice none 0 0),(.slice none 0 0)])) rfl qK) (zAb (b:=bd) (o:=0) (c':=#[(I6 0),(.slice none 0 0),(.slice none 0 0)]) rfl rfl qS zAe rfl h1 qL rfl ?_))))))));intro w2 S2;replace h2:=S2.keep qO h2;replace B1:=S2.keep qO B1;replace E:=S2.step E qQ;replace h1:=S2.blk;refine zBC (b:=be) (o:=0) (c':=#[(I6 2)]) (v:=(I6 2)) rfl rfl rfl zPQ h2 qP rfl ?_;intro w3 S3;replace h1:=S3.keep qO h1;replace B1:=S3.keep qO B1;replace E:=S3.step E qQ;replace h2:=S3.blk;refine zAB (zFW results69 ?_);exact ⟨h1,h2,E⟩
def zXa (c:Nat) (cs:List (List Sp)) (x:Re) (m:Nat) (r:Value) (w:World):Prop:=
 (∃(d:Dfa) (ea:Option Addr) (ec:Nat) (na:Option Addr) (nc:Nat),trO c cs x=some d∧GoodD c d∧d.next.length≤200∧r=.tuple #[.agg #[.int .i64 d.start,.slice ea d.accept.length ec,.slice na d.next.length nc],.int .i64 0]∧zBW (fun b=>m≤b) w d [.int .i64 d.start,.slice ea d.accept.length ec,.slice na d.next.length nc])∨(trO c cs x=none∧r=.tuple #[.agg #[.int .i64 0,.slice none 0 0,.slice none 0 0],.int .i64 2])
theorem zNZ (w:World) (cap:Array Value):(callFunc 69 cap).run prog w=.ok (.enter 69 cap) w:=zFz func69 kQ kQ
theorem zTH (w0:World) (cs:List (List Sp)) (x:Re) (vs:List Value) (ca:Option Addr) (cc:Nat) (hc:1≤cs.length∧cs.length≤16) (hne:∀l∈cs,l≠[]) (hok:zFc x) (hsz:x.size≤1000000) (hC:zBv w0 (.slice ca cs.length cc) cs) (ht:zBB w0 x vs) :
  Ret prog 35 #[.agg vs.toArray,.slice ca cs.length cc] w0 fun r w=>zXa cs.length cs x w0.heap.size r w∧Ext w0 w:=by
 have ae:=ht;obtain ⟨sa,sc,aa,ac,rfl,_,_,_⟩:=ht.form;refine zRF func35 rfl ntmps35 (leT rfl) ?_;have E:Chg zAh w0 w0:=Chg.refl _ _;refine zIl (zBQ (v:=(.agg (R6 x sa sc aa ac))) (c:=(R6 x sa sc aa ac)) qD rfl rfl ?_);intro bb wb Nb;have Fb:=Nb.ge E;replace E:=E.ext Nb.ext;have Bb:=Nb.blk;refine zBH (c:=#[(I6 0),(.slice none 0 0),(.slice none 0 0)]) qD zBf rfl ?_;intro br wr Nr;have Fr:=Nr.ge E;have Or_bb:=Nr.lt Bb;replace Bb:=Nr.keep Bb;replace E:=E.ext Nr.ext;have Br:=Nr.blk;refine zBH (c:=#[(I6 0)]) qD zVO rfl ?_;intro be we Ne;have Fe:=Ne.ge E;have Oe_bb:=Ne.lt Bb;have Oe_br:=Ne.lt Br;replace Bb:=Ne.keep Bb;replace Br:=Ne.keep Br;replace E:=E.ext Ne.ext;have Be:=Ne.blk;refine zAB (zIW (zSv rfl rfl qD (zBV rfl rfl) (zOl rfl rfl (zUF rfl) (zAA (qM _ rfl (qV (zBA (ps:=[(0,(.slice ca cs.length cc))]) (v:=(.agg #[(.slice ca cs.length cc)])) rfl qK) (zBQ (v:=(.agg #[(.slice ca cs.length cc)])) (c:=#[(.slice ca cs.length cc)]) qD rfl rfl ?_)))))));intro bt wt Nt;have Ft:=Nt.ge E;have Ot_bb:=Nt.lt Bb;have Ot_br:=Nt.lt Br;have Ot_be:=Nt.lt Be;replace Bb:=Nt.keep Bb;replace Br:=Nt.keep Br;replace Be:=Nt.keep Be;replace E:=E.ext Nt.ext;have Bt:=Nt.blk;refine qA _ rfl (zAB (zAA (qM _ rfl (qV (zAK (vs:=[(I6 x.kind),(.slice sa x.set.length sc),(.slice aa x.args.length ac),(I6 x.mn),(I6 x.mx),(.bool x.neg)]) rfl zBc zAw rfl (Bb.cells rfl)) ?_))));obtain ⟨n9,ab⟩:∃n9,n9=(wt).heap.size:=⟨_,rfl⟩;have af:br<n9∧be<n9∧w0.heap.size≤n9∧w0.heap.size≤br∧w0.heap.size≤be∧br≠be:=⟨by rw[ab];exact Br.lt,by rw[ab];exact Be.lt,by rw[ab];exact E.size,qO,qO,qO⟩;refine zBd rfl rfl qD (zAQ func70 kQ kQ rfl) (((zVY cs hc hne _ x (Nat.le_refl _) hsz hok _ bt ca cc _ Bt (hC.ext E) (zBB.ext E x ae)).mono (R':=fun r w'=>(∃d,trO cs.length cs x=some d∧GoodD cs.length d∧d.next.length≤200∧zJb (fun b=>n9≤b) d r w')∧Ext _ w') (fun r w' h=>⟨by obtain ⟨d,h1,h2,h3,h4⟩:=h.1;exact ⟨d,h1,h2,h3,h4.mono fun b hb=>by rw[ab];exact hb.1⟩,h.2⟩) (fun _ h=>h))) (fun w' h=>fun a ha=>zJH (X:=fun w9=>Blk w9 br #[.int .i64 0,.slice none 0 0,.slice none 0 0] 34∧Blk w9 be #[.int .i64 2] 29∧Chg (fun y=>y=br∨y=be) w' w9) rfl (by intro h;cases h) (zNZ _ _) ((zMR _ br be _ _ _ _ _ _ _ _ (h.2.keep Br) (h.2.keep Be) af.2.2.2.2.2).mono fun e9 u9 w9 h9=>by obtain ⟨⟨r9,h1,h2⟩,h3⟩:=h9;exact ⟨⟨r9,h1⟩,by rw[h3];rfl,h2⟩) (fun w9 h9=>⟨_,zHA (vs:=[.int .i64 0,.slice none 0 0,.slice none 0 0]) results35 rfl rfl zAx zAe rfl (h9.1.cells rfl) zLW (h9.2.1.cell rfl) ha,_,rfl,.inr ⟨h.1,rfl⟩,(E.ext h.2).step h9.2.2 (fun y hy hh=>by rcases hh with hh|hh<;>omega)⟩)) ?_;rintro _ w9 ⟨⟨d,hd,gd,ad,ea,ec,na,nc,rfl,hD⟩,X9⟩;replace Bb:=X9.keep Bb;replace Br:=X9.keep Br;replace Be:=X9.keep Be;replace Bt:=X9.keep Bt;replace E:=E.ext X9;refine zAb (b:=br) (o:=0) (c':=#[(I6 d.start),(.slice ea d.accept.length ec),(.slice na d.next.length nc)]) rfl rfl qS zAe rfl Br qL rfl ?_;intro w1 S1;replace hD:=hD.put S1.chg fun y h1 h=>by have h':y=_:=h;omega
 replace Bb:=S1.keep qO Bb;replace Be:=S1.keep qO Be;replace Bt:=S1.keep qO Bt;replace E:=S1.step E qQ;replace Br:=S1.blk;refine zBC (b:=be) (o:=0) (c':=#[(I6 0)]) (v:=(I6 0)) rfl rfl rfl zPQ Be qP rfl ?_;intro w2 S2;replace hD:=hD.put S2.chg fun y h1 h=>by have h':y=_:=h;omega
 replace Bb:=S2.keep qO Bb;replace Br:=S2.keep qO Br;replace Bt:=S2.keep qO Bt;replace E:=S2.step E qQ;replace Be:=S2.blk;refine zAB (zAV ?_);exact fun a ha=>zJH (X:=Ext _) rfl (by intro h;cases h) (zNZ _ _) ((zOH _ br be).mono fun e9 u9 w9 h9=>by obtain ⟨⟨r9,h1,h2⟩,h3⟩:=h9;exact ⟨⟨r9,h1⟩,by rw[h3];rfl,h2⟩) (fun w9 h9=>⟨_,zHA (vs:=[.int .i64 d.start,.slice ea d.accept.length ec,.slice na d.next.length nc]) results35 rfl rfl zAx zAe rfl ((Ext.keep h9 Br).cells rfl) zLW ((Ext.keep h9 Be).cell rfl) ha,_,rfl,.inl ⟨d,_,_,_,_,hd,gd,ad,rfl,(hD.ext h9).mono fun b hb=>by have hb':n9≤b:=hb;omega⟩,E.ext h9⟩)
end Go.Proofs
namespace Go.Proofs
open Go Go.Eng
set_option maxRecDepth 100000
inductive Ins where
  | set (l:List (Int×Int))
  | split (x y:Nat)
  | jump (x:Nat)
  | opn (t:Nat)
  | cls (t n:Nat)
  | look (r:Re) (ng:Bool)
  | ent (n:Nat)
  | chk (n:Nat)
  | fin
end Go.Proofs
namespace Go.Proofs
open Go Go.Eng
set_option maxRecDepth 100000
def bl (m:Nat):Nat:=if m=0 then 0 else Nat.log2 m+1
end Go.Proofs
namespace Go.Proofs
open Go Go.Eng Go.Sort
set_option maxRecDepth 100000
mutual
theorem zDU:∀{t:Re},zFc t→zIq (fun s=>zBR s=0) t
  | .mk k s a m x g,h=>⟨fun hk=>((zVp (t:=.mk k s a m x g) h (by show k≠9;omega) (by show k≠10;omega) rfl).k2 hk).2,zFt (zHo h)⟩
theorem zFt:∀{ts:List Re},zEr ts→zLx (fun s=>zBR s=0) ts
  | [],_=>trivial
  | t::ts,h=>by
    simp only[zEr] at h;exact ⟨zDU h.1,zFt h.2⟩
end
end Go.Proofs
namespace Go.Proofs
open Go Go.Eng Go.Sort
set_option maxRecDepth 100000
theorem zIP {w:World} {b o:Nat} {c:Array Value} {t:TypeId} (h:Blk w b c t):w.cell? ⟨b,o,none⟩=c[o]?:=by
 unfold Blk at h;simp[World.cell?,h]
theorem zIz {w w':World} {k:Nat} {v:Value} {rows:List (List Value)} (h:zCI w k v rows) (hc:∀b o r,r∈rows→zBE w b o r→zBE w' b o r):zCI w' k v rows:=by
 obtain ⟨a,ab,hv,hl,aa,h⟩:=h;refine ⟨a,ab,hv,hl,aa,?_⟩;rcases h with h|⟨b,o,ha,h⟩
 ·exact .inl h
 ·exact .inr ⟨b,o,ha,fun i r hr=>hc _ _ r (List.mem_of_getElem? hr) (h i r hr)⟩
theorem zPK {w w':World} {br T:Nat} {x:Int} {v:Value} {cs:List (List Sp)} (h:zBv w v cs) (hne:∀l∈cs,l≠[]) (hB:Blk w br #[.int .i64 x,.slice none 0 0,.slice none 0 0] T) (c:Chg (fun y=>y=br) w w'):zBv w' v cs:=by
  obtain ⟨us,h1,h2,h3⟩:=h;have ab:∀(u:Value) (l:List Sp),zBK w u l→zBK w' u l:=fun u l h=>zIz h fun b o r hr aa=>by
    by_cases e:b=br
    · subst e;obtain ⟨s,_,rfl⟩:=List.mem_map.1 hr;have a0:=aa 0 _ rfl;have a1:=aa 1 _ rfl;rw[zIP hB] at a0 a1;exfalso
      match o with
      | 0=>simp at a1
      | 1=>simp at a0
      | 2=>simp at a0
      | o+3=>simp at a0
    · exact aa.chg c e
  refine ⟨us,zIz h1 fun b o r hr aa=>?_,h2,fun i u l hu hl=>ab u l (h3 i u l hu hl)⟩;by_cases e:b=br
  · subst e;obtain ⟨u,hu,rfl⟩:=List.mem_map.1 hr;obtain ⟨i,hi⟩:=List.getElem?_of_mem hu;obtain ⟨l,hl⟩:=zAN (l:=cs) (i:=i) (by rw[←h2];exact zAE hi);obtain ⟨a,cap,hv,_⟩:=h3 i u l hi hl;have hn:=List.length_pos_iff.2 (hne l (List.mem_of_getElem? hl));have a0:=aa 0 _ rfl;rw[zIP hB,hv] at a0;exfalso
    match o with
    | 0=>simp at a0
    | 1=>simp at a0;omega
    | 2=>simp at a0;omega
    | o+3=>simp at a0
  · exact aa.chg c e
def OfR (t:Re) (m:Nat) (r:Value) (w:World):Prop:=
 (∃e,(zCe t 40≠0∧e=zCe t 40∨zCe t 40=0∧zCy [10] t=true∧e=3∨zCe t 40=0∧zCy [10] t=false∧((∃out,zOd (zBT t) out 2)∨∃cs,zOd (zBT t) cs 0∧trO cs.length cs t=none)∧e=2)∧r=.tuple #[.agg #[.int .i64 0,.slice none 0 0,.slice none 0 0],.slice none 0 0,.int .i64 e])∨
 (zCe t 40=0∧zCy [10] t=false∧∃(cs:List (List Sp)) (d:Dfa) (ca:Option Addr) (cc:Nat) (ea:Option Addr) (ec:Nat) (na:Option Addr) (nc:Nat),zOd (zBT t) cs 0∧trO cs.length cs t=some d∧GoodD cs.length d∧d.next.length≤200∧1≤cs.length∧cs.length≤16∧
  r=.tuple #[.agg #[.int .i64 d.start,.slice ea d.accept.length ec,.slice na d.next.length nc],.slice ca cs.length cc,.int .i64 0]∧zBW (fun b=>m≤b) w d [.int .i64 d.start,.slice ea d.accept.length ec,.slice na d.next.length nc]∧zBv w (.slice ca cs.length cc) cs)
theorem zUo (w0:World) (t:Re) (vs:List Value) (ht:zBB w0 t vs) :
  Ret prog 10 #[.agg vs.toArray] w0 fun r w=>OfR t w0.heap.size r w∧Ext w0 w:=by
 have ak:=ht;obtain ⟨sa,sc,aa,ac,rfl,_,_,_⟩:=ht.form;refine qR func10 rfl ntmps10 rfl (fun E=>(zAA (zBQ (v:=(.agg (R6 t sa sc aa ac))) (c:=(R6 t sa sc aa ac)) qD rfl rfl ?_)));intro bq wq Nq;have Fq:=Nq.ge E;replace E:=E.ext Nq.ext;have Bq:=Nq.blk;refine zBH (c:=#[(I6 0),(.slice none 0 0),(.slice none 0 0)]) qD zBf rfl ?_;intro br wr Nr;have Fr:=Nr.ge E;have Or_bq:=Nr.lt Bq;replace Bq:=Nr.keep Bq;replace E:=E.ext Nr.ext;have Br:=Nr.blk;refine qA _ rfl (qA _ rfl (zAB (zAH (zAA (qV (zAK (vs:=[(I6 t.kind),(.slice sa t.set.length sc),(.slice aa t.args.length ac),(I6 t.mn),(I6 t.mx),(.bool t.neg)]) rfl zBc zAw rfl (Bq.cells rfl)) (qE rfl (zAQ func30 kQ kQ rfl) (zKN _ t _ (zBB.ext E t ak)) ?_))))));rintro _ w9 ⟨rfl,X9⟩;replace Bq:=X9.keep Bq;replace Br:=X9.keep Br;replace E:=E.ext X9;refine qA _ rfl (zAB (zAA (qM _ rfl (qV (zDA rfl rfl) (zAB (qC rfl (fun he=>?_) (fun he=>?_)))))))
 ·refine zAA (qV (zBA (ps:=[]) (v:=(.agg #[(I6 0),(.slice none 0 0),(.slice none 0 0)])) rfl qK) (qM _ rfl (zAb (b:=br) (o:=0) (c':=#[(I6 0),(.slice none 0 0),(.slice none 0 0)]) rfl rfl qS zAe rfl Br qL rfl ?_)));intro w2 S2;replace Bq:=S2.keep qO Bq;replace E:=S2.step E qQ;replace Br:=S2.blk;refine qA _ rfl (qA _ rfl (zAB (zAV (zAU (zDZ results10 (vs:=[(.int .i64 0),(.slice none 0 0),(.slice none 0 0)]) (b:=br) (v':=(.slice none 0 0)) (v'':=(.int .i64 (zCe t 40))) rfl zAx zAe rfl (Br.cells rfl) rfl rfl ?_)))));exact ⟨.inl ⟨_,.inl ⟨he,rfl⟩,rfl⟩,E⟩
 ·have af:zCe t 40=0:=qO
  obtain ⟨az,hsz⟩:=(zCK qD qD).1 af;have hv:=zDU az;have ab:=zFa hv;have a0:=zMw t;have av:=zSI ab;refine zAO (zAC (zAH (zAA (qV (zAK (vs:=[(I6 t.kind),(.slice sa t.set.length sc),(.slice aa t.args.length ac),(I6 t.mn),(I6 t.mx),(.bool t.neg)]) rfl zBc zAw rfl (Bq.cells rfl)) (zAc (ps:=[(0,(I6 10))]) (c:=#[(I6 10)]) qD rfl underlying22 zAy zDI qD qD qK ?_)))));intro bk wk Nk;have Fk:=Nk.ge E;have Ok_bq:=Nk.lt Bq;have Ok_br:=Nk.lt Br;replace Bq:=Nk.keep Bq;replace Br:=Nk.keep Br;replace E:=E.ext Nk.ext;have Bk:=Nk.blk;refine qE rfl (zAQ func31 kQ kQ rfl) (zSy _ t _ [10] _ (zBB.ext E t ak) (zEv Bk rfl qD)) ?_;rintro _ w19 ⟨rfl,am⟩;replace Bq:=am.keep Bq;replace Br:=am.keep Br;replace Bk:=am.keep Bk;replace E:=E.ext am;refine zAB (zBD rfl (fun hu=>?_) (fun hu=>?_))
  ·have a4:=hu;refine zAA (qV (zBA (ps:=[]) (v:=(.agg #[(I6 0),(.slice none 0 0),(.slice none 0 0)])) rfl qK) (zAb (b:=br) (o:=0) (c':=#[(I6 0),(.slice none 0 0),(.slice none 0 0)]) rfl rfl qS zAe rfl Br qL rfl ?_));intro w4 S4;replace Bq:=S4.keep qO Bq;replace Bk:=S4.keep qO Bk;replace E:=S4.step E qQ;replace Br:=S4.blk;refine qA _ rfl (qA _ rfl (zAB (zAV (zAU (zDZ results10 (vs:=[(.int .i64 0),(.slice none 0 0),(.slice none 0 0)]) (b:=br) (v':=(.slice none 0 0)) (v'':=(.int .i64 3)) rfl zAx zAe rfl (Br.cells rfl) rfl rfl ?_)))));exact ⟨.inl ⟨3,.inr (.inl ⟨af,hu,rfl⟩),rfl⟩,E⟩
  ·have a4:=hu;refine zAO (zAC (zAA (qV (zAK (vs:=[(I6 t.kind),(.slice sa t.set.length sc),(.slice aa t.args.length ac),(I6 t.mn),(I6 t.mx),(.bool t.neg)]) rfl zBc zAw rfl (Bq.cells rfl)) (qE rfl (zAQ func34 kQ kQ rfl) ((zVA _ t _ (zBB.ext E t ak) hv qO).mono (R':=fun v w=>(∃a c,v=.slice a (zBT t).length c∧zBv w (.slice a (zBT t).length c) (zBT t))∧Ext _ w) (fun v w h=>⟨by obtain ⟨a,c,h1,_⟩:=h.1.form;exact ⟨a,c,h1,h1▸h.1⟩,h.2⟩)) ?_))));rintro _ w29 ⟨⟨a9,c9,rfl,a1⟩,ai⟩;replace Bq:=ai.keep Bq;replace Br:=ai.keep Br;replace Bk:=ai.keep Bk;replace E:=E.ext ai;refine qE rfl (zAQ func17 kQ kQ rfl) (zQp _ _ (zBT t) a1 qO qO) ?_;rintro _ a2 ⟨⟨cs,e,ae,ca,cc,rfl,ad⟩,aj⟩;replace Bq:=aj.keep Bq;replace Br:=aj.keep Br;replace Bk:=aj.keep Bk;replace E:=E.ext aj;refine qM _ rfl (qV (zAa rfl rfl) (qV (zAa rfl rfl) (qA _ rfl (qA _ rfl (zAB (zAH (zAA (qM _ rfl (qV (zDA rfl rfl) (zAB (qC rfl (fun aw=>?_) (fun aw=>?_))))))))))))
   ·have al:=zSZ ae ab aw;refine zAA (qV (zBA (ps:=[]) (v:=(.agg #[(I6 0),(.slice none 0 0),(.slice none 0 0)])) rfl qK) (qM _ rfl (zAb (b:=br) (o:=0) (c':=#[(I6 0),(.slice none 0 0),(.slice none 0 0)]) rfl rfl qS zAe rfl Br qL rfl ?_)));intro w6 S6;replace Bq:=S6.keep qO Bq;replace Bk:=S6.keep qO Bk;replace E:=S6.step E qQ;replace Br:=S6.blk;refine qA _ rfl (qA _ rfl (zAB (zAV (zAU (zDZ results10 (vs:=[(.int .i64 0),(.slice none 0 0),(.slice none 0 0)]) (b:=br) (v':=(.slice none 0 0)) (v'':=(.int .i64 e)) rfl zAx zAe rfl (Br.cells rfl) rfl rfl ?_)))));exact ⟨.inl ⟨e,.inr (.inr ⟨af,hu,.inl ⟨cs,by rw[←al];exact ae⟩,al⟩),rfl⟩,E⟩
   ·have al:e=0:=qO
    rw[al] at ae;obtain ⟨au,ag⟩:=zMi ae ab rfl;have aq:=zSY au (zNg ab);have ax:1≤cs.length:=by
     obtain ⟨cl,hm,_⟩:=zUr (c:=0) au (zNg ab) qD qD;exact List.length_pos_of_mem hm
    refine zAO (zAC (zAA (qV (zAK (vs:=[(I6 t.kind),(.slice sa t.set.length sc),(.slice aa t.args.length ac),(I6 t.mn),(I6 t.mx),(.bool t.neg)]) rfl zBc zAw rfl (Bq.cells rfl)) (qM _ rfl ?_))));obtain ⟨n9,ao⟩:∃n9,n9=(a2).heap.size:=⟨_,rfl⟩;have hlt:w0.heap.size≤n9∧br<n9:=⟨by rw[ao];exact E.size,by rw[ao];exact Br.lt⟩;refine qE rfl (zAQ func35 kQ kQ rfl) ((zTH _ cs t _ ca cc ⟨ax,ag⟩ (fun l hl=>(aq l hl).1) az qO ad (zBB.ext E t ak)).mono (R':=fun r w=>(∃(d:Dfa) (ea:Option Addr) (ec:Nat) (na:Option Addr) (nc:Nat) (e:Int),r=.tuple #[.agg #[.int .i64 d.start,.slice ea d.accept.length ec,.slice na d.next.length nc],.int .i64 e]∧((e=0∧trO cs.length cs t=some d∧GoodD cs.length d∧d.next.length≤200∧zBW (fun b=>n9≤b) w d [.int .i64 d.start,.slice ea d.accept.length ec,.slice na d.next.length nc])∨(e=2∧trO cs.length cs t=none)))∧Ext _ w) (fun r w h=>⟨by
     rcases h.1 with ⟨d,ea,ec,na,nc,h1,h2,h3,h4,h5⟩|⟨h1,h2⟩
     ·exact ⟨d,ea,ec,na,nc,0,h4,.inl ⟨rfl,h1,h2,h3,by rw[ao];exact h5⟩⟩
     ·exact ⟨⟨0,[],[]⟩,none,0,none,0,2,h2,.inr ⟨rfl,h1⟩⟩,h.2⟩)) ?_
    rintro _ w49 ⟨⟨d,ea,ec,na,nc,e9,rfl,ay⟩,ah⟩;replace Bq:=ah.keep Bq;replace Br:=ah.keep Br;replace Bk:=ah.keep Bk;replace E:=E.ext ah;replace ad:=ad.ext ah;refine qM _ rfl (qV (zAa rfl rfl) (qV (zAa rfl rfl) (zAd (v:=(.agg #[(I6 d.start),(.slice ea d.accept.length ec),(.slice na d.next.length nc)])) (c:=#[(I6 d.start),(.slice ea d.accept.length ec),(.slice na d.next.length nc)]) (n:=3) qD zBf rfl zAe rfl rfl rfl qS ?_)));intro bd wd Nd;have Fd:=Nd.ge E;have Od_bq:=Nd.lt Bq;have Od_br:=Nd.lt Br;have Od_bk:=Nd.lt Bk;replace Bq:=Nd.keep Bq;replace Br:=Nd.keep Br;replace Bk:=Nd.keep Bk;replace ad:=ad.ext Nd.ext;replace E:=E.ext Nd.ext;have Bd:=Nd.blk;refine qA _ rfl (zAB (zAH (zAA (qM _ rfl (qV (zDA rfl rfl) (zAB (qC rfl (fun ap=>?_) (fun ap=>?_))))))))
    ·have ar:e9=2∧trO cs.length cs t=none:=by rcases ay with h|h;exact absurd h.1 ap;exact h
     refine zAA (qV (zBA (ps:=[]) (v:=(.agg #[(I6 0),(.slice none 0 0),(.slice none 0 0)])) rfl qK) (qM _ rfl (zAb (b:=br) (o:=0) (c':=#[(I6 0),(.slice none 0 0),(.slice none 0 0)]) rfl rfl qS zAe rfl Br qL rfl ?_)));intro w8 S8;replace Bq:=S8.keep qO Bq;replace Bk:=S8.keep qO Bk;replace Bd:=S8.keep qO Bd;replace E:=S8.step E qQ;replace Br:=S8.blk;refine qA _ rfl (qA _ rfl (zAB (zAV (zAU (zDZ results10 (vs:=[(.int .i64 0),(.slice none 0 0),(.slice none 0 0)]) (b:=br) (v':=(.slice none 0 0)) (v'':=(.int .i64 e9)) rfl zAx zAe rfl (Br.cells rfl) rfl rfl ?_)))));exact ⟨.inl ⟨e9,.inr (.inr ⟨af,hu,.inr ⟨cs,ae,ar.2⟩,ar.1⟩),rfl⟩,E⟩
    ·obtain ⟨_,hd,gd,a3,hD⟩:=ay.resolve_right (fun h=>ap (by rw[h.1];decide));replace hD:=hD.ext Nd.ext;have an:=Br;refine zAO (zAC (zAA (qV (zAK (vs:=[(I6 d.start),(.slice ea d.accept.length ec),(.slice na d.next.length nc)]) rfl zAx zAe rfl (Bd.cells rfl)) (qM _ rfl (zAb (b:=br) (o:=0) (c':=#[(I6 d.start),(.slice ea d.accept.length ec),(.slice na d.next.length nc)]) rfl rfl qS zAe rfl Br qL rfl ?_)))));intro w9 S9;replace hD:=hD.put S9.chg fun y h1 h=>by have h':y=_:=h;omega
     replace ad:=zPK ad (fun l hl=>(aq l hl).1) an S9.chg;replace Bq:=S9.keep qO Bq;replace Bk:=S9.keep qO Bk;replace Bd:=S9.keep qO Bd;replace E:=S9.step E qQ;replace Br:=S9.blk;refine qA _ rfl (qA _ rfl (zAB (zAV (zDZ results10 (vs:=[(.int .i64 d.start),(.slice ea d.accept.length ec),(.slice na d.next.length nc)]) (b:=br) (v':=(.slice ca cs.length cc)) (v'':=(.int .i64 0)) rfl zAx zAe rfl (Br.cells rfl) rfl rfl ?_))));exact ⟨.inr ⟨af,hu,cs,d,ca,cc,ea,ec,na,nc,ae,hd,gd,a3,ax,ag,rfl,hD.mono fun b hb=>by have hb':n9≤b:=hb;omega,ad⟩,E⟩
end Go.Proofs
namespace Go.Proofs
open Go Go.Eng Go.Sort
set_option maxRecDepth 100000
def zWi (s:List Sp) (cs:List (List Sp)):Prop:=∀x∈cs,∀o,zDd o (fun r=>inS s r && inS x r)→o=[]∨o=x
open Classical in
noncomputable def unnB (s:List Sp) (cs:List (List Sp)):Bool:=decide (zWi s cs)
open Classical in
theorem zMs {s:List Sp} {cs:List (List Sp)} (h:zWi s cs):unnB s cs=true:=decide_eq_true h
open Classical in
theorem zTc {s:List Sp} {cs:List (List Sp)} (h:¬zWi s cs):unnB s cs=false:=decide_eq_false h
theorem zMr {s l:List Sp} {cs:List (List Sp)} {k:Nat} {out:List Sp} (hx:cs[k]?=some l) (ho:zDd out (fun r=>inS s r && inS l r)) (h:out=[]∨out=l) (hno:∀(i:Nat) (x:List Sp),i<k→cs[i]?=some x→∀o,zDd o (fun r=>inS s r && inS x r)→o=[]∨o=x):∀(i:Nat) (x:List Sp),i<k+1→cs[i]?=some x→∀o,zDd o (fun r=>inS s r && inS x r)→o=[]∨o=x:=by
 intro i x hi aa o9 ab;rcases Nat.lt_or_ge i k with h1|h1
 ·exact hno i x h1 aa o9 ab
 ·have e:i=k:=qO
  subst e;rw[hx] at aa;cases aa;rw[zDd.eq ab ho fun _ _ _=>rfl];exact h
theorem zRJ (w0:World) (u v:Value) (s:List Sp) (cs:List (List Sp)) (hs:zBK w0 u s) (hC:zBv w0 v cs) (hcs:Canon s) (hcc:∀x∈cs,Canon x∧x.length≤1000) (hsl:s.length≤1000) :
  Ret prog 52 #[u,v] w0 fun r w=>r=.bool (unnB s cs)∧Ext w0 w:=by
 obtain ⟨a,c,rfl,_,hle⟩:=hC.form;refine qR func52 rfl ntmps52 rfl (fun E=>(zAA (qA _ rfl (zAB (zAH (zAA (qM _ rfl (qV (zAJ underlying35 rfl) (qM _ rfl (zAB (zAS (zAp (fun nn_ σ W1=>∃(k:Nat),(∃jj_,σ=zCT jj_ [(0,u),(8,(.slice a cs.length c)),(9,(I6 (cs.length:Int))),(10,(I6 (k:Int)))])∧Chg zAh w0 W1∧(k≤cs.length)∧(∀(i:Nat) (x:List Sp),i<k→cs[i]?=some x→∀o,zDd o (fun r=>inS s r && inS x r)→o=[]∨o=x)∧nn_=cs.length - k) (n:=cs.length - 0) ?_ ?_))))))))))))
 ·exact ⟨0,zAz.out ⟨rfl,rfl,rfl,rfl,trivial⟩,E,Nat.zero_le _,(fun i y h=>absurd h (Nat.not_lt_zero _)),rfl⟩
 ·clear E;rintro _ _ W1 ⟨k,⟨j1,rfl⟩,E,hk,ac,rfl⟩;refine zAA (qV (zBF rfl rfl) (zAB (zAH (qC rfl (fun ah=>?_) (fun ah=>?_)))))
  ·obtain ⟨l,hx⟩:=zAN (l:=cs) (i:=k) qO;obtain ⟨b,o,rfl,ag⟩:=zCY hC qO;obtain ⟨ra,rc,ab,ad⟩:=ag k l hx;have ae:=hcc l (List.mem_of_getElem? hx);refine zAO (zAC (zAH (zAS (zAA (qV (zAD (b:=b) (o:=o) (len:=cs.length) (cap:=c) (i:=k) (o':=o+k) rfl rfl rfl underlying35 zCd qO qO) (qV (zAI rfl zCZ (E.cell (fun f=>f) ab)) (qA _ rfl (zAB (zAA (qM u rfl (qM _ rfl (qE rfl (zAQ func85 kQ kQ rfl) (zSW _ _ _ s l (hs.ext E) (ad.ext E) hcs ae.1 hsl ae.2) ?_))))))))))));rintro _ w9 ⟨⟨out,ho,_,⟨oa,oc,rfl⟩,af⟩,X9⟩;replace E:=E.ext X9;refine qA _ rfl (zAB (zAA (qM _ rfl (qV (zAJ underlying23 rfl) (qV (zDB rfl rfl) (qM _ rfl ?_))))));rcases Bool.eq_false_or_eq_true (decide ((0:Int)<((out.length:Nat):Int))) with hg|hg
   ·have aa:=hg;replace aa:=of_decide_eq_true aa;refine zAG rfl rfl qD (cbk hg) (qM _ rfl (zAG rfl rfl qD (cbk hg) (qM _ rfl (zAG rfl rfl qD (cbk hg) (qE rfl (zAQ func14 kQ kQ rfl) (zSz _ _ _ out l af (ad.ext E)) ?_)))));rintro _ w19 ⟨rfl,aj⟩;replace E:=E.ext aj;refine zAG rfl rfl qD (cbk hg) (qV (zCa rfl) (qV (zAr (v:=(.bool (!(decide (out=l))))) rfl (by rw[hg];rfl)) (zAB (zBD rfl (fun he=>?_) (fun he=>?_)))))
    ·have ai:=he;replace he:=by simpa using he
     refine zAA (qA _ rfl (zAB (zAV (zAi (zAU (zAU (zAi (zAU (zAY results52 (v:=(.bool false)) rfl ?_)))))))));exact ⟨zBy (zTc fun h=>by
      rcases h l (List.mem_of_getElem? hx) out ho with h1|h1
      ·rw[h1] at aa;simp at aa
      ·simp[h1] at he).symm,E⟩
    ·have ai:=he;replace he:=by simpa using he
     refine zAO (zAR (zAC (zAF (qV (zAv rfl rfl (zBb qO)) (qM _ rfl (zAB (zAC ?_)))))));exact ⟨cs.length - (k+1),qO,k+1,zAz.out ⟨rfl,rfl,rfl,rfl,trivial⟩,E,qO,zMr hx ho (.inr (by simpa using he)) ac,rfl⟩
   ·have aa:=hg;replace aa:=of_decide_eq_false aa;refine zAM rfl rfl qD (v:=.bool false) (cbk hg) (Or.inl rfl) (zAM rfl rfl qD (v:=.bool false) (cbk hg) (Or.inl rfl) (zAM rfl rfl qD (v:=.bool false) (cbk hg) (Or.inl rfl) (zAM rfl rfl qD (v:=.bool false) (cbk hg) (Or.inl rfl) (qV (zAr (v:=(.bool false)) rfl (by rw[hg];rfl)) (zAB (zAP rfl (zAO (zAR (zAC (zAF (qV (zAv rfl rfl (zBb qO)) (qM _ rfl (zAB (zAC ?_))))))))))))));exact ⟨cs.length - (k+1),qO,k+1,zAz.out ⟨rfl,rfl,rfl,rfl,trivial⟩,E,qO,zMr hx ho (.inl (List.eq_nil_of_length_eq_zero qO)) ac,rfl⟩
  ·have hkk:k=cs.length:=qO
   refine zAn (zAT (zAT (zAg (zAC (zAA (qA _ rfl (zAB (zAV (zAY results52 (v:=(.bool true)) rfl ?_)))))))));exact ⟨zBy (zMs fun x hx=>by obtain ⟨i,hi⟩:=List.getElem?_of_mem hx;exact ac i x (by have:=zAE hi;omega) hi).symm,E⟩
theorem zUL (w0:World) (u:Value) (s:List Sp) (cs:List (List Sp)) (b:Nat) (a:Option Addr) (c:Nat) (hB:Blk w0 b #[.slice a cs.length c] 35) (hs:zBK w0 u s) (hC:zBv w0 (.slice a cs.length c) cs) (hcs:Canon s) (hcc:∀x∈cs,Canon x∧x.length≤1000) (hsl:s.length≤1000) :
  Ret prog 51 #[u,.pointer (some ⟨b,0,none⟩)] w0 fun r w=>r=.bool (!unnB s cs)∧Ext w0 w:=by
 refine qR func51 rfl ntmps51 rfl (fun E=>(zAA (qA _ rfl (zAB (zAA (qM u rfl (qV (zAI rfl zDY (hB.cell rfl)) (qE rfl (zAQ func52 kQ kQ rfl) (zRJ _ _ _ s cs (hs.ext E) (hC.ext E) hcs hcc hsl) ?_))))))));rintro _ w9 ⟨rfl,X9⟩;replace hB:=X9.keep hB;replace E:=E.ext X9;refine qV (zCa rfl) (qA _ rfl (zAB (zAV (zAY results51 (v:=(.bool (!(unnB s cs)))) rfl ?_))));exact ⟨rfl,E⟩
open Classical in
noncomputable def OvE (t:Re) (cs:List (List Sp)):Int:=if zCe t 40≠0 then zCe t 40 else if partE cs≠0 then partE cs else if zCy [10] t=true∨(zBT t).any (fun s=>!unnB s cs)=true then 3 else if trO cs.length cs t=none then 2 else 0
def OvR (t:Re) (cs:List (List Sp)) (m:Nat) (r:Value) (w:World):Prop:=∃(d:Dfa) (ea:Option Addr) (ec:Nat) (na:Option Addr) (nc:Nat),r=.tuple #[.agg #[.int .i64 d.start,.slice ea d.accept.length ec,.slice na d.next.length nc],.int .i64 (OvE t cs)]∧
 ((OvE t cs≠0∧d=⟨0,[],[]⟩∧ea=none∧ec=0∧na=none∧nc=0)∨(OvE t cs=0∧trO cs.length cs t=some d∧GoodD cs.length d∧d.next.length≤200∧zBW (fun b=>m≤b) w d [.int .i64 d.start,.slice ea d.accept.length ec,.slice na d.next.length nc]))
theorem zNL {t:Re} {cs:List (List Sp)} {m:Nat} {w:World} {e:Int} (h:OvE t cs=e) (h0:e≠0):OvR t cs m (.tuple #[.agg #[.int .i64 0,.slice none 0 0,.slice none 0 0],.int .i64 e]) w:=
 ⟨⟨0,[],[]⟩,none,0,none,0,by rw[h];rfl,.inl ⟨by rw[h];exact h0,rfl,rfl,rfl,rfl,rfl⟩⟩
theorem zFH (w0:World) (t:Re) (vs:List Value) (cs:List (List Sp)) (ca:Option Addr) (cc:Nat) (ht:zBB w0 t vs) (hC:zBv w0 (.slice ca cs.length cc) cs) :
    Ret prog 18 #[.agg vs.toArray,.slice ca cs.length cc] w0 fun r w=>OvR t cs w0.heap.size r w∧Ext w0 w:=by
  have al:=ht;obtain ⟨sa,sc,aa,ac,rfl,_,_,_⟩:=ht.form;refine qR func18 rfl ntmps18 rfl (fun E=>(zAA (zBQ (v:=(.agg (R6 t sa sc aa ac))) (c:=(R6 t sa sc aa ac)) qD rfl rfl ?_)));intro bq wq Nq;have Fq:=Nq.ge E;replace E:=E.ext Nq.ext;have Bq:=Nq.blk;refine zBQ (v:=(.slice ca cs.length cc)) (c:=#[(.slice ca cs.length cc)]) qD rfl rfl ?_;intro bx wx Nx;have Fx:=Nx.ge E;have Ox_bq:=Nx.lt Bq;replace Bq:=Nx.keep Bq;replace E:=E.ext Nx.ext;have Bx:=Nx.blk;refine zBH (c:=#[(I6 0),(.slice none 0 0),(.slice none 0 0)]) qD zBf rfl ?_;intro br wr Nr;have Fr:=Nr.ge E;have Or_bq:=Nr.lt Bq;have Or_bx:=Nr.lt Bx;replace Bq:=Nr.keep Bq;replace Bx:=Nr.keep Bx;replace E:=E.ext Nr.ext;have Br:=Nr.blk;refine qA _ rfl (zAB (zAH (zAA (qV (zAK (vs:=[(I6 t.kind),(.slice sa t.set.length sc),(.slice aa t.args.length ac),(I6 t.mn),(I6 t.mx),(.bool t.neg)]) rfl zBc zAw rfl (Bq.cells rfl)) (qE rfl (zAQ func30 kQ kQ rfl) (zKN _ t _ (zBB.ext E t al)) ?_)))));rintro _ w9 ⟨rfl,X9⟩;replace Bq:=X9.keep Bq;replace Bx:=X9.keep Bx;replace Br:=X9.keep Br;replace E:=E.ext X9;refine qA _ rfl (zAB (zAA (qM _ rfl (qV (zDA rfl rfl) (zAB (qC rfl (fun he=>?_) (fun he=>?_)))))))
  · refine zAA (qV (zBA (ps:=[]) (v:=(.agg #[(I6 0),(.slice none 0 0),(.slice none 0 0)])) rfl qK) (qM _ rfl (zAb (b:=br) (o:=0) (c':=#[(I6 0),(.slice none 0 0),(.slice none 0 0)]) rfl rfl qS zAe rfl Br qL rfl ?_)));intro w2 S2;replace Bq:=S2.keep qO Bq;replace Bx:=S2.keep qO Bx;replace E:=S2.step E qQ;replace Br:=S2.blk;refine qA _ rfl (zAB (zAV (zAU (zAu results18 (vs:=[(.int .i64 0),(.slice none 0 0),(.slice none 0 0)]) (b:=br) (v':=(.int .i64 (zCe t 40))) rfl zAx zAe rfl (Br.cells rfl) rfl ?_))));exact ⟨zNL (by unfold OvE;rw[if_pos he]) he,E⟩
  · have ax:zCe t 40=0:=qO
    obtain ⟨aq,hsz⟩:=(zCK qD qD).1 ax;have hv:=zDU aq;have ah:=zFa hv;refine zAO (zAC (zAH (zAA (qV (zAI rfl zDY (Bx.cell rfl)) (qE rfl (zAQ func49 kQ kQ rfl) (zVs _ _ cs (hC.ext E)) ?_)))));rintro _ w19 ⟨rfl,ak⟩;replace Bq:=ak.keep Bq;replace Bx:=ak.keep Bx;replace Br:=ak.keep Br;replace E:=E.ext ak;refine qA _ rfl (zAB (zAA (qM _ rfl (qV (zDA rfl rfl) (zAB (qC rfl (fun ab=>?_) (fun ab=>?_)))))))
    · refine zAA (qV (zBA (ps:=[]) (v:=(.agg #[(I6 0),(.slice none 0 0),(.slice none 0 0)])) rfl qK) (qM _ rfl (zAb (b:=br) (o:=0) (c':=#[(I6 0),(.slice none 0 0),(.slice none 0 0)]) rfl rfl qS zAe rfl Br qL rfl ?_)));intro w4 S4;replace Bq:=S4.keep qO Bq;replace Bx:=S4.keep qO Bx;replace E:=S4.step E qQ;replace Br:=S4.blk;refine qA _ rfl (zAB (zAV (zAU (zAu results18 (vs:=[(.int .i64 0),(.slice none 0 0),(.slice none 0 0)]) (b:=br) (v':=(.int .i64 (partE cs))) rfl zAx zAe rfl (Br.cells rfl) rfl ?_))));exact ⟨zNL (by unfold OvE;rw[if_neg he,if_pos ab]) ab,E⟩
    · have av:partE cs=0:=qO
      obtain ⟨h16,am,ad,aj⟩:=zOF av;have ap:=zNp am;have a1:∀l∈cs,Canon l∧l.length≤1000:=fun l hl=>⟨(zCM (ap l hl)).1,by have:=(zCM (ap l hl)).2;omega⟩;have aw:∀l∈cs,l≠[]:=fun l hl=>by
        obtain ⟨i,hi⟩:=List.getElem?_of_mem hl;have h9:=(ad i (zAE hi)).1
        rwa [List.getD,hi,Option.getD_some] at h9
      have au:1≤cs.length:=by
        have h9:=aj 0 qD qD;cases cs with
        | nil=>simp at h9
        | cons a l=>simp
      refine zAO (zAC (zAH (zAA (qV (zAK (vs:=[(I6 t.kind),(.slice sa t.set.length sc),(.slice aa t.args.length ac),(I6 t.mn),(I6 t.mx),(.bool t.neg)]) rfl zBc zAw rfl (Bq.cells rfl)) (zAc (ps:=[(0,(I6 10))]) (c:=#[(I6 10)]) qD rfl underlying22 zAy zDI qD qD qK ?_)))));intro bk wk Nk;have Fk:=Nk.ge E;have Ok_bq:=Nk.lt Bq;have Ok_bx:=Nk.lt Bx;have Ok_br:=Nk.lt Br;replace Bq:=Nk.keep Bq;replace Bx:=Nk.keep Bx;replace Br:=Nk.keep Br;replace E:=E.ext Nk.ext;have Bk:=Nk.blk;refine qE rfl (zAQ func31 kQ kQ rfl) (zSy _ t _ [10] _ (zBB.ext E t al) (zEv Bk rfl qD)) ?_;rintro _ w29 ⟨rfl,ag⟩;replace Bq:=ag.keep Bq;replace Bx:=ag.keep Bx;replace Br:=ag.keep Br;replace Bk:=ag.keep Bk;replace E:=E.ext ag;refine qM _ rfl ?_;rcases Bool.eq_false_or_eq_true (zCy [10] t) with hu|hu
      · have a2:=hu;refine zAM rfl rfl qD (v:=.bool true) (cbk hu) (Or.inl rfl) (zAM rfl rfl qD (v:=.bool true) (cbk hu) (Or.inl rfl) (zAM rfl rfl qD (v:=.bool true) (cbk hu) (Or.inl rfl) (zAM rfl rfl qD (v:=.bool true) (cbk hu) (Or.inl rfl) (qV (zAr (v:=(.bool true)) rfl (by rw[hu];rfl)) (zAB (zAk rfl (zAA (qV (zBA (ps:=[]) (v:=(.agg #[(I6 0),(.slice none 0 0),(.slice none 0 0)])) rfl qK) (zAb (b:=br) (o:=0) (c':=#[(I6 0),(.slice none 0 0),(.slice none 0 0)]) rfl rfl qS zAe rfl Br qL rfl ?_)))))))));intro w6 S6;replace Bq:=S6.keep qO Bq;replace Bx:=S6.keep qO Bx;replace Bk:=S6.keep qO Bk;replace E:=S6.step E qQ;replace Br:=S6.blk;refine qA _ rfl (zAB (zAV (zAU (zAu results18 (vs:=[(.int .i64 0),(.slice none 0 0),(.slice none 0 0)]) (b:=br) (v':=(.int .i64 3)) rfl zAx zAe rfl (Br.cells rfl) rfl ?_))));exact ⟨zNL (by unfold OvE;rw[if_neg he,if_neg ab,if_pos (.inl hu)]) qD,E⟩
      · have a2:=hu;refine zAG rfl rfl qD (cbk hu) (qV (zAK (vs:=[(I6 t.kind),(.slice sa t.set.length sc),(.slice aa t.args.length ac),(I6 t.mn),(I6 t.mx),(.bool t.neg)]) rfl zBc zAw rfl (Bq.cells rfl)) (zAG rfl rfl qD (cbk hu) (qE rfl (zAQ func34 kQ kQ rfl) ((zVA _ t _ (zBB.ext E t al) hv qO).mono (R':=fun v w=>(∃a c,v=.slice a (zBT t).length c∧zBv w (.slice a (zBT t).length c) (zBT t))∧Ext _ w) (fun v w h=>⟨by obtain ⟨a,c,h1,_⟩:=h.1.form;exact ⟨a,c,h1,h1▸h.1⟩,h.2⟩)) ?_)));rintro _ w39 ⟨⟨a9,c9,rfl,ay⟩,ae⟩;replace Bq:=ae.keep Bq;replace Bx:=ae.keep Bx;replace Br:=ae.keep Br;replace Bk:=ae.keep Bk;replace E:=E.ext ae;refine zAG rfl rfl qD (cbk hu) (qV (zBV rfl rfl) (zAG rfl rfl qD (cbk hu) (qE rfl (zAQ func50 kQ kQ rfl) (zIw _ _ _ (zBT t) (fun s=>!unnB s cs) ay (fun w u s hE hs hm=>zCG.mk (first:=#[]) (cap:=#[.pointer (some ⟨bx,0,none⟩)]) func51 kQ kQ rfl (zUL w u s cs bx ca cc (hE.keep Bx) hs (hC.ext (Ext.trans E hE)) (zCM (ah s hm)).1 a1 (by have:=(zCM (ah s hm)).2;omega)))) ?_)));rintro _ a0 ⟨rfl,ai⟩;replace Bq:=ai.keep Bq;replace Bx:=ai.keep Bx;replace Br:=ai.keep Br;replace Bk:=ai.keep Bk;replace E:=E.ext ai;refine qV (zAr (v:=(.bool ((zBT t).any (fun s=>!unnB s cs)))) rfl (by rw[hu];rfl)) (zAB (zBD rfl (fun hn=>?_) (fun hn=>?_)))
        · have az:=hn;refine zAA (qV (zBA (ps:=[]) (v:=(.agg #[(I6 0),(.slice none 0 0),(.slice none 0 0)])) rfl qK) (zAb (b:=br) (o:=0) (c':=#[(I6 0),(.slice none 0 0),(.slice none 0 0)]) rfl rfl qS zAe rfl Br qL rfl ?_));intro w8 S8;replace Bq:=S8.keep qO Bq;replace Bx:=S8.keep qO Bx;replace Bk:=S8.keep qO Bk;replace E:=S8.step E qQ;replace Br:=S8.blk;refine qA _ rfl (zAB (zAV (zAU (zAu results18 (vs:=[(.int .i64 0),(.slice none 0 0),(.slice none 0 0)]) (b:=br) (v':=(.int .i64 3)) rfl zAx zAe rfl (Br.cells rfl) rfl ?_))));exact ⟨zNL (by unfold OvE;rw[if_neg he,if_neg ab,if_pos (.inr hn)]) qD,E⟩
        · have az:=hn;have ar:¬(zCy [10] t=true∨(zBT t).any (fun s=>!unnB s cs)=true):=fun h=>h.elim (fun h=>by rw[hu] at h;cases h) (fun h=>by rw[hn] at h;cases h);refine zAO (zAC (zAA (qV (zAK (vs:=[(I6 t.kind),(.slice sa t.set.length sc),(.slice aa t.args.length ac),(I6 t.mn),(I6 t.mx),(.bool t.neg)]) rfl zBc zAw rfl (Bq.cells rfl)) (qV (zAI rfl zDY (Bx.cell rfl)) ?_))));obtain ⟨n9,ao⟩:∃n9,n9=(a0).heap.size:=⟨_,rfl⟩;have hlt:w0.heap.size≤n9∧br<n9:=⟨by rw[ao];exact E.size,by rw[ao];exact Br.lt⟩;refine qE rfl (zAQ func35 kQ kQ rfl) ((zTH _ cs t _ ca cc ⟨au,qO⟩ aw aq qO (hC.ext E) (zBB.ext E t al)).mono (R':=fun r w=>(∃(d:Dfa) (ea:Option Addr) (ec:Nat) (na:Option Addr) (nc:Nat),r=.tuple #[.agg #[.int .i64 d.start,.slice ea d.accept.length ec,.slice na d.next.length nc],.int .i64 (OvE t cs)]∧((OvE t cs≠0∧d=⟨0,[],[]⟩∧ea=none∧ec=0∧na=none∧nc=0)∨(OvE t cs=0∧trO cs.length cs t=some d∧GoodD cs.length d∧d.next.length≤200∧zBW (fun b=>n9≤b) w d [.int .i64 d.start,.slice ea d.accept.length ec,.slice na d.next.length nc])))∧Ext _ w) (fun r w h=>⟨by
            rcases h.1 with ⟨d,ea,ec,na,nc,h1,h2,h3,h4,h5⟩|⟨h1,h2⟩
            · have e0:OvE t cs=0:=by unfold OvE;rw[if_neg he,if_neg ab,if_neg ar,if_neg (by rw[h1];simp)]
              exact ⟨d,ea,ec,na,nc,by rw[e0];exact h4,.inr ⟨e0,h1,h2,h3,by rw[ao];exact h5⟩⟩
            · have e0:OvE t cs=2:=by unfold OvE;rw[if_neg he,if_neg ab,if_neg ar,if_pos h1]
              exact ⟨⟨0,[],[]⟩,none,0,none,0,by rw[e0];exact h2,.inl ⟨by rw[e0];decide,rfl,rfl,rfl,rfl,rfl⟩⟩,h.2⟩)) ?_
          rintro _ w59 ⟨⟨d,ea,ec,na,nc,rfl,an⟩,af⟩;replace Bq:=af.keep Bq;replace Bx:=af.keep Bx;replace Br:=af.keep Br;replace Bk:=af.keep Bk;replace E:=E.ext af;refine qV (zAa rfl rfl) (qV (zAa rfl rfl) (zAb (b:=br) (o:=0) (c':=#[(I6 d.start),(.slice ea d.accept.length ec),(.slice na d.next.length nc)]) rfl rfl qS zAe rfl Br qL rfl ?_));intro w9 S9;replace an:=Or.imp id (fun h=>And.intro h.1 (And.intro h.2.1 (And.intro h.2.2.1 (And.intro h.2.2.2.1 (zBW.put h.2.2.2.2 S9.chg fun y h1 h=>by have h':y=br:=h;omega))))) an;replace Bq:=S9.keep qO Bq;replace Bx:=S9.keep qO Bx;replace Bk:=S9.keep qO Bk;replace E:=S9.step E qQ;replace Br:=S9.blk;refine qA _ rfl (zAB (zAV (zAu results18 (vs:=[(.int .i64 d.start),(.slice ea d.accept.length ec),(.slice na d.next.length nc)]) (b:=br) (v':=(.int .i64 (OvE t cs))) rfl zAx zAe rfl (Br.cells rfl) rfl ?_)));exact ⟨⟨d,ea,ec,na,nc,rfl,an.imp id fun h=>⟨h.1,h.2.1,h.2.2.1,h.2.2.2.1,h.2.2.2.2.mono fun b hb=>by have hb':n9≤b:=hb;omega⟩⟩,E⟩
end Go.Proofs
namespace Go.Proofs
open Go Go.Eng Go.Sort
set_option maxRecDepth 100000
theorem Parted.union {ll cs:List (List Sp)} (h:Parted ll cs) {s:List Sp} (hs:s∈ll):zWi s cs:=fun x hx o ho=>by
  obtain ⟨k,hk⟩:=List.getElem?_of_mem hx;have hk:cs[k]?=some x:=hk;have hm:∀r,0≤r→r≤1114111→inS x r=true→inS s r=inS s (zBM x):=fun r h0 h1 hi=>by
    exact (zQA ll r (zBM x)).1 ((h.mark k x r hk h0 h1).1 hi) s hs
  by_cases hc:inS s (zBM x)=true
  · refine .inr (zDd.eq ho (zDd.self (h.can x hx)) fun r h0 h1=>?_);cases hi:inS x r with
    | false=>simp
    | true=>rw[hm r h0 h1 hi,hc];rfl
  · refine .inl (zDd.eq ho (g:=fun _=>false) ⟨Canon.nil,fun _ _ _=>rfl⟩ fun r h0 h1=>?_);cases hi:inS x r with
    | false=>simp
    | true=>rw[hm r h0 h1 hi];simpa using hc
theorem zQo {t:Re} {cs:List (List Sp)} (hok:zFc t) (h:zOd (zBT t) cs 0):Parted (zBT t) cs∧partE cs=0:=by
 have aa:=zFa (zDU hok);obtain ⟨hc,hl⟩:=zMi h aa rfl;have hp:=hc.parted (zNg aa);refine ⟨hp,zNI qO (zEB fun c hm=>zLj (hp.can c hm) ?_) ⟨hp.heads,hp.part⟩⟩;rcases h with ⟨_,h1,_⟩|⟨_,cs',hc',⟨_,h1,_⟩|⟨ab,_,rfl⟩⟩
 ·exact absurd (zEB aa) qO
 ·cases h1
 ·exact Nat.le_of_not_lt fun h2=>ab (.inl ⟨c,hm,h2⟩)
theorem zGF {t u:Re} {cs:List (List Sp)} (hok:zFc t) (h:zOd (zBT t) cs 0) (hf:zCe u 40=0) (hu:zCy [10] u=false) (hs:∀s∈zBT u,s∈zBT t):OvE u cs=if trO cs.length cs u=none then 2 else 0:=by
 obtain ⟨hp,hq⟩:=zQo hok h;unfold OvE;rw[if_neg qO,if_neg qO,if_neg];rintro (h1|h1)
 ·rw[hu] at h1;cases h1
 ·rw[List.any_eq_true] at h1;obtain ⟨s,hm,h2⟩:=h1;rw[zMs (hp.union (hs s hm))] at h2;cases h2
end Go.Proofs
namespace Go.Proofs
open Go Go.Eng Go.Sort
set_option maxRecDepth 100000
section
variable {c : Nat} {cs : List (List Sp)} {a b : Re} {x y : Dfa}
theorem zPE {k:Int} (hk:k=4∨k=7) (ha:trO c cs a=some x) (hb:trO c cs b=some y):trO c cs (.mk k [] [a,b] 0 0 false)=zIh (prsO c (decide (k=7)) x y):=by
 have hL:trL c cs [a,b]=some [x,y]:=by rw[zEN,ha,zEN,hb];simp[trL]
 show zIh (trN c cs (.mk k [] [a,b] 0 0 false))=_;rw[zRK (t:=.mk k [] [a,b] 0 0 false) (.inr hk) hL];show zIh ((opK c k x y).bind fun d'=>foldK c k d' [])=_;have ho:opK c k x y=prsO c (decide (k=7)) x y:=by unfold opK;rw[if_neg qO]
 rw[ho];cases prsO c (decide (k=7)) x y<;>rfl
theorem zTd (ha:trO c cs a=some x):trO c cs (.mk 8 [] [a] 0 0 false)=zIh (canO c fun w=>fl (beh x x.start w)):=by
 show zIh (trN c cs (.mk 8 [] [a] 0 0 false))=_;rw[zTo (t:=.mk 8 [] [a] 0 0 false) (y:=a) rfl rfl rfl,ha];rfl
end
theorem zJX:∀(l:List Re) (s:List (List Sp)),s.Nodup→(l.foldl zKT s).Nodup
  | [],s,h=>h
  | t::l,s,h=>by
    rw[List.foldl_cons];refine zJX l _ ?_;unfold zKT;split
    · rename_i h1
      rw[List.nodup_append];exact ⟨h,qP,fun p hp q hq=>by rw[List.mem_singleton] at hq;subst hq;exact fun e=>h1.2 (e▸hp)⟩
    · exact h
def zLS:List (List Sp):=[[(97,97)],[(97,98)],[(97,99)],[(97,100)],[(98,98)],[(98,99)],[(98,100)],[(99,99)],[(99,100)],[(100,100)]]
theorem zSG {l:List Sp} (h:∃lo hi:Int,l=[(lo,hi)]∧97≤lo∧lo≤hi∧hi≤100):l∈zLS:=by
 obtain ⟨lo,hi,rfl,h1,h2,h3⟩:=h;have e1:lo=97∨lo=98∨lo=99∨lo=100:=qO
 have e2:hi=97∨hi=98∨hi=99∨hi=100:=qO
 rcases e1 with rfl|rfl|rfl|rfl<;>rcases e2 with rfl|rfl|rfl|rfl<;>first|(exfalso;omega)|(unfold zLS;simp)
theorem zKD:∀(ll:List (List Sp)),(∀l∈ll,l∈zLS)→ll.flatten.length=ll.length∧∀s∈ll.flatten,97≤s.1∧s.1≤s.2∧s.2≤100
  | [],_=>⟨rfl,fun s h=>by cases h⟩
  | l::ll,h=>by
    obtain ⟨h1,h2⟩:=zKD ll fun x hx=>h x (List.mem_cons_of_mem _ hx);have h3:=h l List.mem_cons_self;have h4:l.length=1∧∀s∈l,97≤s.1∧s.1≤s.2∧s.2≤100:=by
      unfold zLS at h3;simp only[List.mem_cons,List.not_mem_nil,or_false] at h3;rcases h3 with rfl|rfl|rfl|rfl|rfl|rfl|rfl|rfl|rfl|rfl<;>simp
    refine ⟨by rw[List.flatten_cons,List.length_append,h1,h4.1,List.length_cons];omega,fun s hs=>?_⟩;rw[List.flatten_cons] at hs;rcases List.mem_append.1 hs with h5|h5
    · exact h4.2 s h5
    · exact h2 s h5
theorem zUb {ll cs:List (List Sp)} (hg:∀l∈ll,l∈zLS) (hn:ll.Nodup) (h:zQq ll cs):¬zLE cs:=by
 obtain ⟨hfl,aa⟩:=zKD ll hg;have h10:ll.length≤10:=zEO hn hg;rintro (⟨c,hc,h1⟩|h1)
 ·have:=h.short c hc;omega
 ·obtain ⟨p,hp,hl,_⟩:=h;have h2:(zCu (p.map (zBS ll))).length≤(p.map (zBS ll)).length:=zEO (zLZ _) (zOZ _);rw[List.length_map] at h2;have h3:p.length≤([0,97,98,99,100,101]:List Int).length:=zEO (hp.1.imp fun h=>Int.ne_of_lt h) fun k hk=>by
   rcases (hp.2 k).1 hk with rfl|⟨s,hs,h4⟩
   ·simp
   ·have h5:=aa s hs;have:k=97∨k=98∨k=99∨k=100∨k=101:=qO
    rcases this with rfl|rfl|rfl|rfl|rfl<;>simp
  simp at h3;omega
theorem zSr {p:Re→Prop} (t:Re):zDp p t↔p t∧∀y∈t.args,zDp p y:=by
  cases t with
  | mk k s a m x g=>
  simp only[zDp];refine and_congr Iff.rfl ?_;show zCv p a↔∀y∈a,zDp p y
  induction a with
  | nil=>simp[zCv]
  | cons z a ih=>simp[zCv,ih]
theorem zNf:∀(n:Nat) (t:Re),t.size≤n→zDp (zKb 8) t→zIq (fun s=>s∈zLS) t:=by
  intro n
  induction n with
  | zero=>intro t h;have:=t.size_pos;omega
  | succ n ih=>
  intro t hs h;obtain ⟨h1,h2⟩:=(zSr t).1 h;refine (zHY t).2 ⟨fun hk=>zSG (h1.2.2 hk),fun y hy=>?_⟩;obtain ⟨i,hi⟩:=List.getElem?_of_mem hy;have:=Re.size_arg hi;exact ih y qO (h2 y hy)
theorem zJG {k:Int} {a b:Re} (hk:k=4∨k=7) (ha:zDp (zKb 8) a) (hb:zDp (zKb 8) b):∀l∈zBT (.mk k [] [a,b] 0 0 false),l∈zLS:=
 zFa ((zHY _).2 ⟨fun h=>by have h:k=2:=h;omega,fun y hy=>by
  simp only[Re.args,List.mem_cons,List.not_mem_nil,or_false] at hy;rcases hy with rfl|rfl
  ·exact zNf _ _ (Nat.le_refl _) ha
  ·exact zNf _ _ (Nat.le_refl _) hb⟩)
theorem zHc (t:Re):(zBT t).Nodup:=zJX _ _ qP
theorem zLD {a b:Re} (ha:zDp (zKb 8) a) (hb:zDp (zKb 8) b):(zBT (.mk 4 [] [a,b] 0 0 false)).flatten.length≤10∧(zBT (.mk 4 [] [a,b] 0 0 false)).length≤10:=by
 have hg:=zJG (.inl rfl) ha hb;have h1:(zBT (.mk 4 [] [a,b] 0 0 false)).length≤10:=zEO (zHc _) hg;exact ⟨by rw[(zKD _ hg).1];exact h1,h1⟩
theorem zQB {a b:Re} {out:List (List Sp)} {e:Int} (ha:zDp (zKb 8) a) (hb:zDp (zKb 8) b) (h:zOd (zBT (.mk 4 [] [a,b] 0 0 false)) out e):e=0∧zOd (zBT (.mk 4 [] [a,b] 0 0 false)) out 0∧1≤out.length∧out.length≤16:=by
  have hg:=zJG (.inl rfl) ha hb;have hv:∀l∈zBT (.mk 4 [] [a,b] 0 0 false),zBR l=0:=fun l hl=>by
    have h1:=hg l hl;unfold zLS at h1;simp only[List.mem_cons,List.not_mem_nil,or_false] at h1;rcases h1 with rfl|rfl|rfl|rfl|rfl|rfl|rfl|rfl|rfl|rfl<;>decide
  have he:e=0:=by
    rcases h with ⟨h1,_⟩|⟨_,cs,hc,⟨h1,_⟩|⟨_,h1,_⟩⟩
    · exact absurd (zEB hv) h1
    · exact absurd h1 (zUb hg (zHc _) hc)
    · exact h1
  subst he;obtain ⟨hc,hl⟩:=zMi h hv rfl;refine ⟨rfl,h,?_,hl⟩;have hp:=(hc.parted (zNg hv)).part 0 qD qD;cases out with
  | nil=>simp at hp
  | cons x l=>simp
theorem zFx {k:Int} {a b:Re} {s:List Sp}:s∈zBT (.mk k [] [a,b] 0 0 false)↔(k=2∧s=[])∨s∈zBT a∨s∈zBT b:=by
 rw[zHV,zHV,zHV,zHY];simp only[Re.kind,Re.set,Re.args,List.mem_cons,List.not_mem_nil,or_false,forall_eq_or_imp,forall_eq];constructor
 ·intro h;apply Classical.byContradiction;intro h2;simp only[not_or,Classical.not_not] at h2;exact h ⟨fun hk e=>h2.1 ⟨hk,e.symm⟩,h2.2⟩
 ·rintro h ⟨h1,h2,h3⟩;rcases h with ⟨hk,e⟩|h|h
  ·exact h1 hk e.symm
  ·exact h h2
  ·exact h h3
theorem zPS {a:Re} {s:List Sp} (h:s∈zBT (.mk 8 [] [a] 0 0 false)):s∈zBT a:=by
 rw[zHV] at h⊢;exact fun ha=>h ((zHY _).2 ⟨fun h=>by have h:(8:Int)=2:=h;omega,fun y hy=>by simp only[Re.args,List.mem_singleton] at hy;subst hy;exact ha⟩)
theorem zVx {a:Re} (h:zFc a):zFc (.mk 8 [] [a] 0 0 false):=by
 simp only[zFc,zEr,and_true];exact ⟨by simp[zCU,zFd,okB,Re.kind,Re.set,Re.args,Re.mn,Re.mx,Re.neg],h⟩
theorem zOO {a b:Re} {cs:List (List Sp)} (ha:zFc a) (hb:zFc b) (hua:zCy [10] a=false) (hub:zCy [10] b=false) (hs:a.size+b.size≤30) (hc:zOd (zBT (.mk 4 [] [a,b] 0 0 false)) cs 0) :
  ∀u,u=a∨u=b∨u=.mk 4 [] [a,b] 0 0 false∨u=.mk 7 [] [a,b] 0 0 false∨u=.mk 8 [] [a] 0 0 false→OvE u cs=if trO cs.length cs u=none then 2 else 0:=by
 have aa:zFc (.mk 4 [] [a,b] 0 0 false):=zMS (.inr (.inl rfl)) qP (by simp[ha,hb]);have ab:zFc (.mk 7 [] [a,b] 0 0 false):=zMS (.inr (.inr rfl)) qP (by simp[ha,hb]);have ad:∀k:Int,k=4∨k=7→zCy [10] (.mk k [] [a,b] 0 0 false)=false:=fun k hk=>zPB (by rcases hk with rfl|rfl<;>rfl) (by simp[hua,hub]);have ac:∀k:Int,(Re.mk k [] [a,b] 0 0 false).size=a.size+b.size+1:=fun k=>by simp[Re.size,Re.sizes]
 have ae:(Re.mk 8 [] [a] 0 0 false).size=a.size+1:=by simp[Re.size,Re.sizes]
 have hpa:=a.size_pos;have hpb:=b.size_pos;rintro u (rfl|rfl|rfl|rfl|rfl)
 ·exact zGF aa hc ((zCK qD qD).2 ⟨ha,qO⟩) hua fun s h=>zFx.2 (.inr (.inl h))
 ·exact zGF aa hc ((zCK qD qD).2 ⟨hb,qO⟩) hub fun s h=>zFx.2 (.inr (.inr h))
 ·exact zGF aa hc ((zCK qD qD).2 ⟨aa,by rw[ac];omega⟩) (ad 4 (.inl rfl)) fun s h=>h
 ·exact zGF aa hc ((zCK qD qD).2 ⟨ab,by rw[ac];omega⟩) (ad 7 (.inr rfl)) fun s h=>zFx.2 ((zFx.1 h).imp (fun h=>absurd h.1 qD) id)
 ·exact zGF aa hc ((zCK qD qD).2 ⟨zVx ha,by rw[ae];omega⟩) (zPB rfl (by simp[hua])) fun s h=>zFx.2 (.inr (.inl (zPS h)))
end Go.Proofs
namespace Go.Proofs
open Go Go.Eng Go.Sort
set_option maxRecDepth 100000
theorem zJS (w:World):zBk w ⟨0,[],[]⟩ [.int .i64 0,.slice none 0 0,.slice none 0 0]:=⟨none,0,none,0,rfl,zCI.nil _ _ _ _,⟨[],zCI.nil _ _ _ _,rfl,fun i u l h=>by simp at h⟩⟩
theorem zMg (m:Nat) (w:World):zCi m w ⟨0,[],[]⟩ [.int .i64 0,.slice none 0 0,.slice none 0 0]:=fun _ w' _ _=>zJS w'
def DtR (o:Option Dfa) (m:Nat) (r:Value) (w:World):Prop:=∃(d:Dfa) (ea:Option Addr) (ec:Nat) (na:Option Addr) (nc:Nat) (e:Int),r=.tuple #[.agg #[.int .i64 d.start,.slice ea d.accept.length ec,.slice na d.next.length nc],.int .i64 e]∧
 zCi m w d [.int .i64 d.start,.slice ea d.accept.length ec,.slice na d.next.length nc]∧d.next.length≤200∧((e=2∧zIh o=none∧d=⟨0,[],[]⟩)∨(e=0∧zIh o=some d))
theorem DtR.no {o:Option Dfa} {m:Nat} {w:World} (h:zIh o=none):DtR o m (.tuple #[.agg #[.int .i64 0,.slice none 0 0,.slice none 0 0],.int .i64 2]) w:=
 ⟨⟨0,[],[]⟩,none,0,none,0,2,rfl,zMg m w,qP,.inl ⟨rfl,h,rfl⟩⟩
theorem zNU {d:Dfa} (h:200<d.next.length):zIh (some d)=none:=by unfold zIh;simp[h]
theorem zNT {d:Dfa} (h:d.next.length≤200):zIh (some d)=some d:=by unfold zIh;simp;omega
def PrK (ok:Bool) (c:Nat) (f:List Nat→Int) (m:Nat) (r:Value) (w:World):Prop:=∃C ca cc ma mc,r=.tuple #[.agg #[.int .i64 C.start,.slice ca C.accept.length cc,.slice ma C.next.length mc],.bool ok]∧(ok=true→zDf c f C∧zCi m w C [.int .i64 C.start,.slice ca C.accept.length cc,.slice ma C.next.length mc])
theorem zVq {ok:Bool} {c m:Nat} {f:List Nat→Int} {F:Prop} {r:Value} {w:World} (hk:ok=true↔F) (h:(F∧zOm c f m r w)∨(¬F∧zVN r)):PrK ok c f m r w:=by
 rcases h with ⟨hF,C,ca,cc,ma,mc,h1,_,_,h2,h3⟩|⟨hF,h1⟩
 ·rw[←hk.2 hF] at h2;exact ⟨C,ca,cc,ma,mc,h2,fun _=>⟨h1,h3⟩⟩
 ·have h2:ok=false:=by cases ok with|false=>rfl|true=>exact absurd (hk.1 rfl) hF
  exact ⟨⟨0,[],[]⟩,none,0,none,0,by rw[h2];exact h1,fun h=>by rw[h2] at h;cases h⟩
theorem zVX (w0:World) (c:Nat) (a b:Dfa) (av bv:List Value) (both:Bool) (ga:GoodD c a) (gb:GoodD c b) (ha:zBk w0 a av) (hb:zBk w0 b bv) (hc:1≤c∧c≤16) (hn:a.next.length≤200) (hm:b.next.length≤200) :
    Ret prog 53 #[.agg av.toArray,.agg bv.toArray,.bool both] w0 fun r w=>DtR (prsO c both a b) w0.heap.size r w∧Ext w0 w:=by
  have aw:1≤a.next.length:=by have:=ga.ok.st;omega
  have ax:1≤b.next.length:=by have:=gb.ok.st;omega
  obtain ⟨ok,hk⟩:=zNk (zIb c (zGX both a b) (a.start,b.start) 20000);have hO:ok=true→∀C,zDf c (fun w=>jnP both (beh a a.start w) (beh b b.start w)) C→prsO c both a b=some C:=fun h C hC=>by unfold prsO;rw[if_pos (hk.1 h)];exact zFL hC
  obtain ⟨nb,no,nc,aa,ac,ra,rc,rfl,an⟩:=zNN ga.ok ha aw;obtain ⟨ah,af,ag,al,am,a3,ay,rfl,ai⟩:=zNN gb.ok hb ax;refine qR func53 rfl ntmps53 rfl (fun E=>(zAA (zBQ (v:=(.agg #[(I6 a.start),(.slice aa a.accept.length ac),(.slice (some ⟨nb,no,none⟩) a.next.length nc)])) (c:=#[(I6 a.start),(.slice aa a.accept.length ac),(.slice (some ⟨nb,no,none⟩) a.next.length nc)]) qD rfl rfl ?_)));intro bp wp Np;have Fp:=Np.ge E;replace E:=E.ext Np.ext;have Bp:=Np.blk;refine zBQ (v:=(.agg #[(I6 b.start),(.slice al b.accept.length am),(.slice (some ⟨ah,af,none⟩) b.next.length ag)])) (c:=#[(I6 b.start),(.slice al b.accept.length am),(.slice (some ⟨ah,af,none⟩) b.next.length ag)]) qD rfl rfl ?_;intro bq wq Nq;have Fq:=Nq.ge E;have Oq_bp:=Nq.lt Bp;replace Bp:=Nq.keep Bp;replace E:=E.ext Nq.ext;have Bq:=Nq.blk;refine zBH (c:=#[(I6 0),(.slice none 0 0),(.slice none 0 0)]) qD zBf rfl ?_;intro br wr Nr;have Fr:=Nr.ge E;have Or_bp:=Nr.lt Bp;have Or_bq:=Nr.lt Bq;replace Bp:=Nr.keep Bp;replace Bq:=Nr.keep Bq;replace E:=E.ext Nr.ext;have Br:=Nr.blk;refine qA (I6 0) rfl (zAB (zAH (zAA (qV (zAK (vs:=[(I6 a.start),(.slice aa a.accept.length ac),(.slice (some ⟨nb,no,none⟩) a.next.length nc)]) rfl zAx zAe rfl (Bp.cells rfl)) (qE rfl (zAQ (vs:=[(.agg #[(I6 a.start),(.slice aa a.accept.length ac),(.slice (some ⟨nb,no,none⟩) a.next.length nc)])]) func36 kQ kQ rfl) (zKM _ a _ (ha.ext E)) ?_)))));rintro _ w9 ⟨rfl,X9⟩;replace Bp:=X9.keep Bp;replace Bq:=X9.keep Bq;replace Br:=X9.keep Br;replace E:=E.ext X9;refine qA (I6 (zCh a)) rfl (zAB (zAA (qM (I6 (zCh a)) rfl (qV (zDA (k:=.i64) (a:=zCh a) (b:=0) rfl rfl) (zAB ?_)))));have a4:(decide ((zCh a:Int)≠0))=false:=decide_eq_false (by rw[zHp ga.ok ⟨aw,hn⟩ hc];decide);refine zAP (cbk a4) (zAO (zAC (zAH (zAA (qV (zAK (vs:=[(I6 b.start),(.slice al b.accept.length am),(.slice (some ⟨ah,af,none⟩) b.next.length ag)]) rfl zAx zAe rfl (Bq.cells rfl)) (qE rfl (zAQ (vs:=[(.agg #[(I6 b.start),(.slice al b.accept.length am),(.slice (some ⟨ah,af,none⟩) b.next.length ag)])]) func36 kQ kQ rfl) (zKM _ b _ (hb.ext E)) ?_))))));rintro _ w19 ⟨rfl,ao⟩;replace Bp:=ao.keep Bp;replace Bq:=ao.keep Bq;replace Br:=ao.keep Br;replace E:=E.ext ao;refine qA (I6 (zCh b)) rfl (zAB (zAA (qM (I6 (zCh b)) rfl (qV (zDA (k:=.i64) (a:=zCh b) (b:=0) rfl rfl) (zAB ?_)))));have a5:(decide ((zCh b:Int)≠0))=false:=decide_eq_false (by rw[zHp gb.ok ⟨ax,hm⟩ hc];decide);refine zAP (cbk a5) (zAO (zAC (zAH (zCs 10 mixed qK ?_))));intro w3 X3 _;replace Bp:=X3.keep Bp;replace Bq:=X3.keep Bq;replace Br:=X3.keep Br;replace E:=E.ext X3;refine qT (zAZ (b:=bp) (o:=0) (o':=2) rfl underlying34 rfl zBu rfl) (qT (zAI (v:=(.slice (some ⟨nb,no,none⟩) a.next.length nc)) rfl zBi (Bp.cell rfl)) (qT (zAD (b:=nb) (o:=no) (len:=a.next.length) (cap:=nc) (i:=0) (o':=no+0) rfl rfl rfl underlying32 zBL qO qO) (qT (zAI (v:=(.slice ra c rc)) rfl zBP (E.cell (fun f=>f) an)) (qT (zAJ (ad:=ra) (n:=c) (cap:=rc) underlying22 rfl) (qT (zAZ (b:=bq) (o:=0) (o':=2) rfl underlying34 rfl zBu rfl) (qT (zAI (v:=(.slice (some ⟨ah,af,none⟩) b.next.length ag)) rfl zBi (Bq.cell rfl)) (qT (zAD (b:=ah) (o:=af) (len:=b.next.length) (cap:=ag) (i:=0) (o':=af+0) rfl rfl rfl underlying32 zBL qO qO) (qT (zAI (v:=(.slice a3 c ay)) rfl zBP (E.cell (fun f=>f) ai)) (qT (zAJ (ad:=a3) (n:=c) (cap:=ay) underlying22 rfl) (zCq (qV (zDA (k:=.i64) (a:=(c:Int)) (b:=(c:Int)) rfl rfl) (zAB ?_))))))))))));have a6:(decide ((((c:Nat):Int):Int)≠((c:Nat):Int)))=false:=decide_eq_false qO;refine zAP (cbk a6) (zAO (zAC (zAA (qV (zAK (vs:=[(I6 a.start),(.slice aa a.accept.length ac),(.slice (some ⟨nb,no,none⟩) a.next.length nc)]) rfl zAx zAe rfl (Bp.cells rfl)) (qV (zAK (vs:=[(I6 b.start),(.slice al b.accept.length am),(.slice (some ⟨ah,af,none⟩) b.next.length ag)]) rfl zAx zAe rfl (Bq.cells rfl)) (qM (.bool both) rfl ?_))))));obtain ⟨n9,aq⟩:∃n9,n9=(w3).heap.size:=⟨_,rfl⟩;have ar:w0.heap.size≤n9∧br<n9:=⟨by rw[aq];exact E.size,by rw[aq];exact Br.lt⟩;refine qE rfl (zAQ (vs:=[(.agg #[(I6 a.start),(.slice aa a.accept.length ac),(.slice (some ⟨nb,no,none⟩) a.next.length nc)]),(.agg #[(I6 b.start),(.slice al b.accept.length am),(.slice (some ⟨ah,af,none⟩) b.next.length ag)]),(.bool both)]) func86 kQ kQ rfl) ((zJm _ _ _ c a b _ _ both ga.ok gb.ok (ha.ext E) (hb.ext E) hc ⟨ga.most,gb.most⟩ ga.acc gb.acc).mono (R':=fun r w=>PrK ok c (fun w=>jnP both (beh a a.start w) (beh b b.start w)) n9 r w∧Ext _ w) (fun r w h=>⟨by rw[aq];exact zVq hk h.1,h.2⟩)) ?_;rintro _ w99 ⟨⟨C,ca,cc,ma,mc,rfl,hP⟩,ap⟩;replace Bp:=ap.keep Bp;replace Bq:=ap.keep Bq;replace Br:=ap.keep Br;replace E:=E.ext ap;refine qM (.tuple #[(.agg #[(I6 C.start),(.slice ca C.accept.length cc),(.slice ma C.next.length mc)]),(.bool ok)]) rfl (qV (zAa (vs:=#[(.agg #[(I6 C.start),(.slice ca C.accept.length cc),(.slice ma C.next.length mc)]),(.bool ok)]) (v:=(.agg #[(I6 C.start),(.slice ca C.accept.length cc),(.slice ma C.next.length mc)])) rfl rfl) (qV (zAa (vs:=#[(.agg #[(I6 C.start),(.slice ca C.accept.length cc),(.slice ma C.next.length mc)]),(.bool ok)]) (v:=(.bool ok)) rfl rfl) (zAd (v:=(.agg #[(I6 C.start),(.slice ca C.accept.length cc),(.slice ma C.next.length mc)])) (c:=#[(I6 C.start),(.slice ca C.accept.length cc),(.slice ma C.next.length mc)]) (n:=3) qD zBf rfl zAe rfl rfl rfl qS ?_)));intro bd wd Nd;have Fd:=Nd.ge E;have Od_bp:=Nd.lt Bp;have Od_bq:=Nd.lt Bq;have Od_br:=Nd.lt Br;replace Bp:=Nd.keep Bp;replace Bq:=Nd.keep Bq;replace Br:=Nd.keep Br;replace hP:=fun h=>And.intro (hP h).1 ((hP h).2.chg Nd.ext fun b f=>f.elim);replace E:=E.ext Nd.ext;have Bd:=Nd.blk;refine qA (.bool ok) rfl (zAB (zAH (zAA (qM (.bool ok) rfl ?_))));obtain ⟨e5,az⟩:∃e,(!ok)=e:=⟨_,rfl⟩;refine qV ((zCa (b:=ok) rfl).trans (by rw[az];try rfl)) (qM (.bool e5) rfl (qG (.bool e5) (nU e5 (P6 bd 2)) (by cases e5<;>first|exact gA|exact gB|exact .inl ⟨rfl,zAZ (b:=bd) (o:=0) (o':=2) rfl underlying34 rfl zBu rfl⟩) (qG (.bool e5) (nU e5 (.slice ma C.next.length mc)) (by cases e5<;>first|exact gA|exact gB|exact .inl ⟨rfl,zAI (v:=(.slice ma C.next.length mc)) rfl zBi (Bd.cell rfl)⟩) (qG (.bool e5) (nU e5 (I6 (C.next.length:Int))) (by cases e5<;>first|exact gA|exact gB|exact .inl ⟨rfl,zAJ (ad:=ma) (n:=C.next.length) (cap:=mc) underlying32 rfl⟩) ?_))));obtain ⟨e6,a2⟩:∃e,(decide ((200:Int)<((C.next.length:Nat):Int)))=e:=⟨_,rfl⟩;refine qG (.bool e5) (nU e5 (.bool e6)) (by cases e5<;>first|exact gA|exact gB|exact .inl ⟨rfl,(zDB (k:=.i64) (a:=(C.next.length:Int)) (b:=200) rfl rfl).trans (by rw[a2];try rfl)⟩) ?_;obtain ⟨e7,a1⟩:∃e,(e5 || e6)=e:=⟨_,rfl⟩;refine qV (zAr (b:=e5) (v:=.bool e7) rfl (by rw[←a1];cases e5<;>rfl)) (zAB ?_);subst a1;subst a2;subst az;refine zBD (b:=((!ok) || (decide ((200:Int)<(C.next.length:Int))))) rfl (fun aj=>?_) (fun aj=>?_)
  · have ab:=aj;refine zAA (qV (zBA (ps:=[]) (v:=(.agg #[(I6 0),(.slice none 0 0),(.slice none 0 0)])) rfl qK) (zAb (b:=br) (o:=0) (c':=#[(I6 0),(.slice none 0 0),(.slice none 0 0)]) rfl rfl qS zAe rfl Br qL rfl ?_));intro w9 S9;replace Bp:=S9.keep qO Bp;replace Bq:=S9.keep qO Bq;replace Bd:=S9.keep qO Bd;replace E:=S9.step E qQ;replace Br:=S9.blk;refine qA (I6 2) rfl (zAB (zAV (zAU (zAu results53 (vs:=[(.int .i64 0),(.slice none 0 0),(.slice none 0 0)]) (b:=br) (v':=(.int .i64 2)) rfl zAx zAe rfl (Br.cells rfl) rfl (⟨DtR.no ?_,E⟩)))));cases ae:ok with
    | false=>unfold prsO;rw[if_neg fun h=>by rw[hk.2 h] at ae;cases ae];rfl
    | true=>
      rw[hO ae C (hP ae).1];exact zNU (by rw[ae] at ab;simp at ab;omega)
  · have ab:=aj;have ae:ok=true:=by cases hq:ok with|true=>rfl|false=>rw[hq] at ab;simp at ab
    have a0:C.next.length≤200:=by rw[ae] at ab;simp at ab;omega
    obtain ⟨hC,au⟩:=hP ae;refine zAO (zAC (zAA (qV (zAK (vs:=[(I6 C.start),(.slice ca C.accept.length cc),(.slice ma C.next.length mc)]) rfl zAx zAe rfl (Bd.cells rfl)) (zAb (b:=br) (o:=0) (c':=#[(I6 C.start),(.slice ca C.accept.length cc),(.slice ma C.next.length mc)]) rfl rfl qS zAe rfl Br qL rfl ?_))));intro w10 ak;replace au:=au.chg ak.chg fun y h=>by have h':y=br:=h;omega
    replace Bp:=ak.keep qO Bp;replace Bq:=ak.keep qO Bq;replace Bd:=ak.keep qO Bd;replace E:=ak.step E qQ;replace Br:=ak.blk;refine qA (I6 0) rfl (zAB (zAV (zAu results53 (vs:=[(.int .i64 C.start),(.slice ca C.accept.length cc),(.slice ma C.next.length mc)]) (b:=br) (v':=(.int .i64 0)) rfl zAx zAe rfl (Br.cells rfl) rfl ?_)));exact ⟨⟨C,ca,cc,ma,mc,0,rfl,au.low ar.1,a0,.inr ⟨rfl,by rw[hO ae C hC];exact zNT a0⟩⟩,E⟩
theorem zWZ (w0:World) (c:Nat) (a b:Dfa) (av bv:List Value) (ga:GoodD c a) (gb:GoodD c b) (ha:zBk w0 a av) (hb:zBk w0 b bv) (hc:1≤c∧c≤16) (hn:a.next.length≤200) (hm:b.next.length≤200) :
  Ret prog 20 #[.agg av.toArray,.agg bv.toArray] w0 fun r w=>DtR (prsO c true a b) w0.heap.size r w∧Ext w0 w:=by
 have am:=ha;have ak:=hb;obtain ⟨aa,ac,na,nc,rfl,_,_⟩:=am;obtain ⟨aj,af,ae,ai,rfl,_,_⟩:=ak;refine qR func20 rfl ntmps20 rfl (fun E=>(zAA (zBQ (v:=(.agg #[(I6 a.start),(.slice aa a.accept.length ac),(.slice na a.next.length nc)])) (c:=#[(I6 a.start),(.slice aa a.accept.length ac),(.slice na a.next.length nc)]) qD rfl rfl ?_)));intro bp wp Np;have Fp:=Np.ge E;replace E:=E.ext Np.ext;have Bp:=Np.blk;refine zBQ (v:=(.agg #[(I6 b.start),(.slice aj b.accept.length af),(.slice ae b.next.length ai)])) (c:=#[(I6 b.start),(.slice aj b.accept.length af),(.slice ae b.next.length ai)]) qD rfl rfl ?_;intro bq wq Nq;have Fq:=Nq.ge E;have Oq_bp:=Nq.lt Bp;replace Bp:=Nq.keep Bp;replace E:=E.ext Nq.ext;have Bq:=Nq.blk;refine zBH (c:=#[(I6 0),(.slice none 0 0),(.slice none 0 0)]) qD zBf rfl ?_;intro br wr Nr;have Fr:=Nr.ge E;have Or_bp:=Nr.lt Bp;have Or_bq:=Nr.lt Bq;replace Bp:=Nr.keep Bp;replace Bq:=Nr.keep Bq;replace E:=E.ext Nr.ext;have Br:=Nr.blk;refine qA _ rfl (zAB (zAA (qV (zAK (vs:=[(I6 a.start),(.slice aa a.accept.length ac),(.slice na a.next.length nc)]) rfl zAx zAe rfl (Bp.cells rfl)) (qV (zAK (vs:=[(I6 b.start),(.slice aj b.accept.length af),(.slice ae b.next.length ai)]) rfl zAx zAe rfl (Bq.cells rfl)) ?_))));obtain ⟨n9,ag⟩:∃n9,n9=(wr).heap.size:=⟨_,rfl⟩;have ah:w0.heap.size≤n9∧br<n9:=⟨by rw[ag];exact E.size,by rw[ag];exact Br.lt⟩;refine qE rfl (zAQ func53 kQ kQ rfl) (zVX _ c a b _ _ true ga gb (ha.ext E) (hb.ext E) hc hn hm) ?_;rintro _ w99 ⟨⟨C,ca,cc,ma,mc,e9,rfl,ad,al,hC⟩,ab⟩;replace Bp:=ab.keep Bp;replace Bq:=ab.keep Bq;replace Br:=ab.keep Br;replace E:=E.ext ab;rw[←ag] at ad;refine qV (zAa rfl rfl) (qV (zAa rfl rfl) (zAb (b:=br) (o:=0) (c':=#[(I6 C.start),(.slice ca C.accept.length cc),(.slice ma C.next.length mc)]) rfl rfl qS zAe rfl Br qL rfl ?_));intro w1 S1;replace ad:=ad.chg S1.chg fun y h=>by have h':y=br:=h;omega
 replace Bp:=S1.keep qO Bp;replace Bq:=S1.keep qO Bq;replace E:=S1.step E qQ;replace Br:=S1.blk;refine qA _ rfl (zAB (zAV (zAu results20 (vs:=[(.int .i64 C.start),(.slice ca C.accept.length cc),(.slice ma C.next.length mc)]) (b:=br) (v':=(.int .i64 e9)) rfl zAx zAe rfl (Br.cells rfl) rfl ?_)));exact ⟨⟨C,ca,cc,ma,mc,e9,rfl,ad.low ah.1,al,hC⟩,E⟩
theorem zSQ (w0:World) (c:Nat) (a b:Dfa) (av bv:List Value) (ga:GoodD c a) (gb:GoodD c b) (ha:zBk w0 a av) (hb:zBk w0 b bv) (hc:1≤c∧c≤16) (hn:a.next.length≤200) (hm:b.next.length≤200) :
  Ret prog 19 #[.agg av.toArray,.agg bv.toArray] w0 fun r w=>DtR (prsO c false a b) w0.heap.size r w∧Ext w0 w:=by
 have am:=ha;have ak:=hb;obtain ⟨aa,ac,na,nc,rfl,_,_⟩:=am;obtain ⟨aj,af,ae,ai,rfl,_,_⟩:=ak;refine qR func19 rfl ntmps19 rfl (fun E=>(zAA (zBQ (v:=(.agg #[(I6 a.start),(.slice aa a.accept.length ac),(.slice na a.next.length nc)])) (c:=#[(I6 a.start),(.slice aa a.accept.length ac),(.slice na a.next.length nc)]) qD rfl rfl ?_)));intro bp wp Np;have Fp:=Np.ge E;replace E:=E.ext Np.ext;have Bp:=Np.blk;refine zBQ (v:=(.agg #[(I6 b.start),(.slice aj b.accept.length af),(.slice ae b.next.length ai)])) (c:=#[(I6 b.start),(.slice aj b.accept.length af),(.slice ae b.next.length ai)]) qD rfl rfl ?_;intro bq wq Nq;have Fq:=Nq.ge E;have Oq_bp:=Nq.lt Bp;replace Bp:=Nq.keep Bp;replace E:=E.ext Nq.ext;have Bq:=Nq.blk;refine zBH (c:=#[(I6 0),(.slice none 0 0),(.slice none 0 0)]) qD zBf rfl ?_;intro br wr Nr;have Fr:=Nr.ge E;have Or_bp:=Nr.lt Bp;have Or_bq:=Nr.lt Bq;replace Bp:=Nr.keep Bp;replace Bq:=Nr.keep Bq;replace E:=E.ext Nr.ext;have Br:=Nr.blk;refine qA _ rfl (zAB (zAA (qV (zAK (vs:=[(I6 a.start),(.slice aa a.accept.length ac),(.slice na a.next.length nc)]) rfl zAx zAe rfl (Bp.cells rfl)) (qV (zAK (vs:=[(I6 b.start),(.slice aj b.accept.length af),(.slice ae b.next.length ai)]) rfl zAx zAe rfl (Bq.cells rfl)) ?_))));obtain ⟨n9,ag⟩:∃n9,n9=(wr).heap.size:=⟨_,rfl⟩;have ah:w0.heap.size≤n9∧br<n9:=⟨by rw[ag];exact E.size,by rw[ag];exact Br.lt⟩;refine qE rfl (zAQ func53 kQ kQ rfl) (zVX _ c a b _ _ false ga gb (ha.ext E) (hb.ext E) hc hn hm) ?_;rintro _ w99 ⟨⟨C,ca,cc,ma,mc,e9,rfl,ad,al,hC⟩,ab⟩;replace Bp:=ab.keep Bp;replace Bq:=ab.keep Bq;replace Br:=ab.keep Br;replace E:=E.ext ab;rw[←ag] at ad;refine qV (zAa rfl rfl) (qV (zAa rfl rfl) (zAb (b:=br) (o:=0) (c':=#[(I6 C.start),(.slice ca C.accept.length cc),(.slice ma C.next.length mc)]) rfl rfl qS zAe rfl Br qL rfl ?_));intro w1 S1;replace ad:=ad.chg S1.chg fun y h=>by have h':y=br:=h;omega
 replace Bp:=S1.keep qO Bp;replace Bq:=S1.keep qO Bq;replace E:=S1.step E qQ;replace Br:=S1.blk;refine qA _ rfl (zAB (zAV (zAu results19 (vs:=[(.int .i64 C.start),(.slice ca C.accept.length cc),(.slice ma C.next.length mc)]) (b:=br) (v':=(.int .i64 e9)) rfl zAx zAe rfl (Br.cells rfl) rfl ?_)));exact ⟨⟨C,ca,cc,ma,mc,e9,rfl,ad.low ah.1,al,hC⟩,E⟩
theorem zXE (w0:World) (c:Nat) (d:Dfa) (dv:List Value) (gd:GoodD c d) (h:zBk w0 d dv) (hn:d.next.length≤200) (hc:1≤c∧c≤16) :
  Ret prog 21 #[.agg dv.toArray] w0 fun r w=>DtR (canO c fun w=>fl (beh d d.start w)) w0.heap.size r w∧Ext w0 w:=by
 have ad:=h;obtain ⟨aa,ac,na,nc,rfl,al,aj⟩:=h;have ah:1≤d.next.length:=by have:=gd.ok.st;omega
 refine qR func21 rfl ntmps21 rfl (fun E=>(zAA (zBQ (v:=(.agg #[(I6 d.start),(.slice aa d.accept.length ac),(.slice na d.next.length nc)])) (c:=#[(I6 d.start),(.slice aa d.accept.length ac),(.slice na d.next.length nc)]) qD rfl rfl ?_)));intro bq wq Nq;have Fq:=Nq.ge E;replace E:=E.ext Nq.ext;have Bq:=Nq.blk;refine zBH (c:=#[(I6 0),(.slice none 0 0),(.slice none 0 0)]) qD zBf rfl ?_;intro bo wo No;have Fo:=No.ge E;have Oo_bq:=No.lt Bq;replace Bq:=No.keep Bq;replace E:=E.ext No.ext;have Bo:=No.blk;refine qA _ rfl (zAB (zAH (zAA (qV (zAK (vs:=[(I6 d.start),(.slice aa d.accept.length ac),(.slice na d.next.length nc)]) rfl zAx zAe rfl (Bq.cells rfl)) (qE rfl (zAQ func36 kQ kQ rfl) (zKM _ d _ (ad.ext E)) ?_)))));rintro _ w9 ⟨rfl,X9⟩;replace Bq:=X9.keep Bq;replace Bo:=X9.keep Bo;replace E:=E.ext X9;refine qA _ rfl (zAB (zAA (qM _ rfl (qV (zDA rfl rfl) (zAB ?_)))));have ai:(decide ((zCh d:Int)≠0))=false:=decide_eq_false (by rw[zHp gd.ok ⟨ah,hn⟩ hc];decide);refine zAP (cbk ai) (zAO (zAC (zAA (qV (zAK (vs:=[(I6 d.start),(.slice aa d.accept.length ac),(.slice na d.next.length nc)]) rfl zAx zAe rfl (Bq.cells rfl)) ?_))));obtain ⟨n9,ak⟩:∃n9,n9=(w9).heap.size:=⟨_,rfl⟩;have af:w0.heap.size≤n9∧bo<n9:=⟨by have:=E.size;omega,by have:=Bo.lt;omega⟩;refine qE rfl (zAQ func54 kQ kQ rfl) (zQj _ d.next.length c d _ gd.ok (ad.ext E) qO) ?_;rintro _ w99 ⟨⟨C,ca,cc,ma,mc,hC,hCl,hCa,rfl,ab⟩,ag⟩;replace Bq:=ag.keep Bq;replace Bo:=ag.keep Bo;replace E:=E.ext ag;rw[←ak] at ab;refine zAd (v:=(.agg #[(I6 C.start),(.slice ca C.accept.length cc),(.slice ma C.next.length mc)])) (c:=#[(I6 C.start),(.slice ca C.accept.length cc),(.slice ma C.next.length mc)]) (n:=3) qD zBf rfl zAe rfl rfl rfl qS ?_;intro bx wx Nx;have Fx:=Nx.ge E;have Ox_bq:=Nx.lt Bq;have Ox_bo:=Nx.lt Bo;replace Bq:=Nx.keep Bq;replace Bo:=Nx.keep Bo;replace ab:=ab.chg Nx.ext fun b f=>f.elim;replace E:=E.ext Nx.ext;have Bx:=Nx.blk;refine zAB (zAH (zAA (qF bx 0 2 rfl underlying34 rfl zBu rfl (qV (zAI rfl zBi (Bx.cell rfl)) (qV (zAJ underlying32 rfl) (qV (zDB rfl rfl) (zAB (qC rfl (fun ae=>?_) (fun ae=>?_)))))))))
 ·refine zAA (qV (zBA (ps:=[]) (v:=(.agg #[(I6 0),(.slice none 0 0),(.slice none 0 0)])) rfl qK) (zAb (b:=bo) (o:=0) (c':=#[(I6 0),(.slice none 0 0),(.slice none 0 0)]) rfl rfl qS zAe rfl Bo qL rfl ?_));intro w3 S3;replace ab:=ab.chg S3.chg fun b h=>by have h':b=bo:=h;omega
  replace Bq:=S3.keep qO Bq;replace Bx:=S3.keep qO Bx;replace E:=S3.step E qQ;replace Bo:=S3.blk;refine qA _ rfl (zAB (zAV (zAU (zAu results21 (vs:=[(.int .i64 0),(.slice none 0 0),(.slice none 0 0)]) (b:=bo) (v':=(.int .i64 2)) rfl zAx zAe rfl (Bo.cells rfl) rfl ?_))));exact ⟨DtR.no (by rw[zFL hC];exact zNU qO),E⟩
 ·refine zAO (zAC (zAA (qV (zAK (vs:=[(I6 C.start),(.slice ca C.accept.length cc),(.slice ma C.next.length mc)]) rfl zAx zAe rfl (Bx.cells rfl)) (zAb (b:=bo) (o:=0) (c':=#[(I6 C.start),(.slice ca C.accept.length cc),(.slice ma C.next.length mc)]) rfl rfl qS zAe rfl Bo qL rfl ?_))));intro w4 S4;replace ab:=ab.chg S4.chg fun b h=>by have h':b=bo:=h;omega
  replace Bq:=S4.keep qO Bq;replace Bx:=S4.keep qO Bx;replace E:=S4.step E qQ;replace Bo:=S4.blk;refine qA _ rfl (zAB (zAV (zAu results21 (vs:=[(.int .i64 C.start),(.slice ca C.accept.length cc),(.slice ma C.next.length mc)]) (b:=bo) (v':=(.int .i64 0)) rfl zAx zAe rfl (Bo.cells rfl) rfl ?_)));exact ⟨⟨C,ca,cc,ma,mc,0,rfl,ab.low af.1,qO,.inr ⟨rfl,by rw[zFL hC];exact zNT qO⟩⟩,E⟩
end Go.Proofs
namespace Go.Proofs
open Go Go.Eng Go.Sort
set_option maxRecDepth 100000
theorem zID (w0:World) (a b:Dfa) (av bv:List Value) (ha:zBk w0 a av) (hb:zBk w0 b bv) (hn:a.next.length≤20000) :
  Ret prog 12 #[.agg av.toArray,.agg bv.toArray] w0 fun v w=>v=.bool (decide (a=b))∧Ext w0 w:=by
 obtain ⟨aa,ac,na,nc,rfl,hA,hR⟩:=ha;obtain ⟨ai,ah,ag,aj,rfl,al,ak⟩:=hb;refine qR func12 rfl ntmps12 rfl (fun E=>(zAA (zBQ (v:=(.agg #[(I6 a.start),(.slice aa a.accept.length ac),(.slice na a.next.length nc)])) (c:=#[(I6 a.start),(.slice aa a.accept.length ac),(.slice na a.next.length nc)]) qD rfl rfl ?_)));intro bp wp Np;replace E:=E.ext Np.ext;have Bp:=Np.blk;refine zBQ (v:=(.agg #[(I6 b.start),(.slice ai b.accept.length ah),(.slice ag b.next.length aj)])) (c:=#[(I6 b.start),(.slice ai b.accept.length ah),(.slice ag b.next.length aj)]) qD rfl rfl ?_;intro bq wq Nq;replace Bp:=Nq.keep Bp;replace E:=E.ext Nq.ext;have Bq:=Nq.blk;refine qA _ rfl (zAB (zAA (qF bp 0 0 rfl underlying34 rfl zAy rfl (qV (zAI rfl zAo (Bp.cell rfl)) (qF bq 0 0 rfl underlying34 rfl zAy rfl (qV (zAI rfl zAo (Bq.cell rfl)) (qV (zAs rfl rfl) (qM _ rfl ?_))))))));rcases Bool.eq_false_or_eq_true (decide ((a.start:Int)=b.start)) with hs|hs
 ·have ae:=hs;replace ae:=of_decide_eq_true ae;refine zAG rfl rfl qD (cbk hs) (qF bp 0 1 rfl underlying34 rfl zBL rfl (zAG rfl rfl qD (cbk hs) (qV (zAI rfl zBP (Bp.cell rfl)) (zAG rfl rfl qD (cbk hs) (qF bq 0 1 rfl underlying34 rfl zBL rfl (zAG rfl rfl qD (cbk hs) (qV (zAI rfl zBP (Bq.cell rfl)) (zAG rfl rfl qD (cbk hs) (qE rfl (zAQ func25 kQ kQ rfl) (zTR _ _ _ a.accept b.accept (hA.ext E) (al.ext E)) ?_)))))))));rintro _ w9 ⟨rfl,X9⟩;replace Bp:=X9.keep Bp;replace Bq:=X9.keep Bq;replace E:=E.ext X9;refine qV (zAr (v:=(.bool (decide (a.accept=b.accept)))) rfl (by rw[hs];rfl)) (qM _ rfl ?_);rcases Bool.eq_false_or_eq_true (decide (a.accept=b.accept)) with ad|ad
  ·have ab:=ad;replace ab:=of_decide_eq_true ab;refine zAG rfl rfl qD (cbk ad) (qF bp 0 2 rfl underlying34 rfl zBu rfl (zAG rfl rfl qD (cbk ad) (qV (zAI rfl zBi (Bp.cell rfl)) (zAG rfl rfl qD (cbk ad) (qF bq 0 2 rfl underlying34 rfl zBu rfl (zAG rfl rfl qD (cbk ad) (qV (zAI rfl zBi (Bq.cell rfl)) (zAG rfl rfl qD (cbk ad) (qE rfl (zAQ func41 kQ kQ rfl) (zSL _ _ _ a.next b.next (hR.ext E) (ak.ext E) _ _ _ _ _ _ rfl rfl rfl rfl hn) ?_)))))))));rintro _ w19 ⟨rfl,af⟩;replace Bp:=af.keep Bp;replace Bq:=af.keep Bq;replace E:=E.ext af;refine qV (zAr (v:=(.bool (decide (a.next=b.next)))) rfl (by rw[ad];rfl)) (qA _ rfl (zAB (zAV (zAY results12 (v:=(.bool (decide (a.next=b.next)))) rfl ?_))));exact ⟨zBy (by rw[Bool.eq_iff_iff,decide_eq_true_iff,decide_eq_true_iff,zFY];exact ⟨fun h=>⟨ae,ab,h⟩,fun h=>h.2.2⟩),E⟩
  ·have ab:=ad;replace ab:=of_decide_eq_false ab;refine zAM rfl rfl qD (v:=.bool false) (cbk ad) (Or.inl rfl) (zAM rfl rfl qD (v:=.bool false) (cbk ad) (Or.inl rfl) (zAM rfl rfl qD (v:=.bool false) (cbk ad) (Or.inl rfl) (zAM rfl rfl qD (v:=.bool false) (cbk ad) (Or.inl rfl) (zAM rfl rfl qD (v:=.bool false) (cbk ad) (Or.inl rfl) (qV (zAr (v:=(.bool false)) rfl (by rw[ad];rfl)) (qA _ rfl (zAB (zAV (zAY results12 (v:=(.bool false)) rfl ?_)))))))));exact ⟨zBy (by symm;rw[decide_eq_false_iff_not];intro h;rw[zFY] at h;exact ab h.2.1),E⟩
 ·have ae:=hs;replace ae:=of_decide_eq_false ae;refine zAM rfl rfl qD (v:=.bool false) (cbk hs) (Or.inl rfl) (zAM rfl rfl qD (v:=.bool false) (cbk hs) (Or.inl rfl) (zAM rfl rfl qD (v:=.bool false) (cbk hs) (Or.inl rfl) (zAM rfl rfl qD (v:=.bool false) (cbk hs) (Or.inl rfl) (zAM rfl rfl qD (v:=.bool false) (cbk hs) (Or.inl rfl) (qV (zAr (v:=(.bool false)) rfl (by rw[hs];rfl)) (qM _ rfl (zAM rfl rfl qD (v:=.bool false) rfl (Or.inl rfl) (zAM rfl rfl qD (v:=.bool false) rfl (Or.inl rfl) (zAM rfl rfl qD (v:=.bool false) rfl (Or.inl rfl) (zAM rfl rfl qD (v:=.bool false) rfl (Or.inl rfl) (zAM rfl rfl qD (v:=.bool false) rfl (Or.inl rfl) (qV (zAr rfl rfl) (qA _ rfl (zAB (zAV ?_)))))))))))))));refine zAY results12 (v:=(.bool false)) rfl ?_;exact ⟨zBy (by symm;rw[decide_eq_false_iff_not];intro h;rw[zFY] at h;exact ae h.1),E⟩
end Go.Proofs
namespace Go.Proofs
open Go Go.Eng Go.Sort
set_option maxRecDepth 100000
def zTU:List (List Sp):=[[(0,96),(98,1114111)],[(97,97)]]
theorem zUs {out:List (List Sp)} {e:Int} (h:zOd [[(97,97)]] out e):e=0∧out=zTU:=by
 have c1:Canon [((97:Int),(97:Int))]:=Canon.one (by unfold vSp;simp);rcases h with ⟨h1,_⟩|⟨_,cs,hc,hf⟩
 ·refine absurd (zEB fun l hl=>?_) h1;simp at hl;subst hl;exact zLj c1 qP
 ·obtain ⟨p,hp,hl,hm⟩:=hc;have e1:p=[0,97,98]:=zLC hp.1 qP fun x=>by
   rw[hp.2 x];unfold zLw;simp
  subst e1;have e2:zCu (([0,97,98]:List Int).map (zBS [[(97,97)]]))=[[false],[true]]:=qD
  rw[e2] at hl hm;have mk:∀r,zBS [[(97,97)]] r=[decide (97≤r) && decide (r≤97)]:=fun r=>by simp[zBS,inS]
  obtain ⟨x,y,rfl⟩:∃x y,cs=[x,y]:=by
   rcases cs with _|⟨x,_|⟨y,_|⟨z,t⟩⟩⟩<;>simp at hl;exact ⟨x,y,rfl⟩
  have h0:=hm 0 _ x rfl rfl;have h1:=hm 1 _ y rfl rfl;have ex:x=[(0,96),(98,1114111)]:=zIQ h0.1 (zQu qD qD qD qD qD) fun r r0 r1=>by
   rw[h0.2 r r0 r1,Bool.eq_iff_iff,decide_eq_true_eq,mk];simp only[zCA,zFG,Bool.or_false,Bool.or_eq_true,Bool.and_eq_true,decide_eq_true_eq,List.cons.injEq,and_true,Bool.and_eq_false_iff,decide_eq_false_iff_not];omega
  have ey:y=[(97,97)]:=zIQ h1.1 c1 fun r r0 r1=>by
   rw[h1.2 r r0 r1,Bool.eq_iff_iff,decide_eq_true_eq,mk];simp only[zCA,zFG,Bool.or_false,Bool.and_eq_true,decide_eq_true_eq,List.cons.injEq,and_true]
  subst ex;subst ey;rcases hf with ⟨h5,_⟩|⟨_,h5,h6⟩
  ·rcases h5 with ⟨c,hc,h6⟩|h6
   ·simp at hc;rcases hc with rfl|rfl<;>simp at h6
   ·simp at h6
  ·exact ⟨h5,h6⟩
def aD:Dfa:=⟨0,[-1,0],[[-1,1],[-1,-1]]⟩
theorem zWw (s:Int) (x:Nat):toD aD s x = -1∨toD aD s x=1:=by
  unfold toD aD;split
  · exact .inl rfl
  · match s.toNat,x with
    | 0,0=>exact .inl rfl
    | 0,1=>exact .inr rfl
    | 0,x+2=>exact .inl rfl
    | 1,0=>exact .inl rfl
    | 1,1=>exact .inl rfl
    | 1,x+2=>exact .inl rfl
    | n+2,x=>exact .inl rfl
theorem zXW:zDf 2 (beh (zJg zTU [(97,97)]) 0) aD:=by
  have e:zJg zTU [(97,97)]=aD:=by unfold zJg aD setRow zTU;simp[inS,zBM,List.replicate]
  rw[e];refine ⟨2,⟨⟨rfl,rfl,qD,qD,qD⟩,rfl,?_,?_,qD⟩,fun w _=>rfl,?_,?_⟩
  · intro k x h
    match k,h with
    | 0,h=>simp[aD] at h;subst h;decide
    | 1,h=>simp[aD] at h;subst h;decide
    | 2,h=>simp[aD] at h;subst h;decide
    | 3,h=>simp[aD] at h;subst h;decide
    | k+4,h=>simp[aD] at h
  · intro i hi
    match i,hi with
    | 0,_=>decide
    | 1,_=>decide
  · intro s t h1 h2 h3 h4 h;have h0:=h [] (fun x hx=>by cases hx);have hs:s=0∨s=1:=qO
    have ht:t=0∨t=1:=qO
    rcases hs with rfl|rfl<;>rcases ht with rfl|rfl
    · rfl
    · exact absurd h0 qD
    · exact absurd h0 qD
    · rfl
  · intro s x _ h;rcases zWw s x with h1|h1
    · rw[h1] at h;exact absurd h qD
    · rw[h1];exact ⟨[],(fun x hx=>by cases hx),qD⟩
def aR:Re:=.mk 2 [(97,97)] [] 0 0 false
theorem zVa:trO 2 zTU aR=some aD:=by
 have h:trN 2 zTU aR=some aD:=by rw[zVc rfl];exact zFL zXW
 exact (zJd h).1 qD
theorem of_a {m:Nat} {r:Value} {w:World} (h:OfR aR m r w):∃ea ec na nc ca cc,r=.tuple #[.agg #[.int .i64 0,.slice ea 2 ec,.slice na 2 nc],.slice ca 2 cc,.int .i64 0]:=by
 have hf:zCe aR 40=0:=(zCK qD qD).2 ⟨by unfold aR zFc;exact ⟨qD,trivial⟩,qD⟩;have hu:zCy [10] aR=false:=qD
 have hs:zBT aR=[[(97,97)]]:=qD
 rcases h with ⟨e,h1,_⟩|⟨_,_,cs,d,ca,cc,ea,ec,na,nc,h1,h2,_,_,_,_,h3,_⟩
 ·rcases h1 with ⟨h1,_⟩|⟨_,h1,_⟩|⟨_,_,h1,_⟩
  ·exact absurd hf h1
  ·rw[hu] at h1;cases h1
  ·rw[hs] at h1;rcases h1 with ⟨out,h1⟩|⟨cs,h1,h2⟩
   ·exact absurd (zUs h1).1 qD
   ·rw[(zUs h1).2] at h2;have:=zVa;rw[show (zTU.length:Nat)=2 from rfl] at h2;rw[h2] at this;cases this
 ·rw[hs] at h1;have hc:=(zUs h1).2;subst hc;rw[show (zTU.length:Nat)=2 from rfl] at h2;rw[zVa] at h2;cases h2;exact ⟨ea,ec,na,nc,ca,cc,h3⟩
end Go.Proofs
namespace Go.Proofs
open Go Go.Eng Go.Sort
set_option maxRecDepth 100000
def zWk (x:Int):Array Value:=(Value.int .u32 x::List.replicate 24 (Value.int .u32 0)).toArray
theorem zXD (w0:World) (vs:List Value) (vt:Value) (ht:zBB w0 aR vs) (htx:zBZ w0 vt [97]) :
  Ret prog 59 #[.agg vs.toArray,vt] w0 fun v w=>∃b,v=.pointer (some ⟨b,0,none⟩)∧Blk w b (zWk 2) 133∧Ext w0 w:=by
 obtain ⟨sa,sc,aa,ac,rfl,ad,ah,_⟩:=ht.form;obtain ⟨ta,tc,rfl⟩:=zCI.form htx;obtain ⟨tb,to,rfl,af⟩:=zBG (n:=1) htx qD;refine qR func59 rfl ntmps59 rfl (fun E=>(zAA (zBQ (v:=(.agg #[(I6 2),(.slice sa 1 sc),(.slice aa 0 ac),(I6 0),(I6 0),(.bool false)])) (c:=#[(I6 2),(.slice sa 1 sc),(.slice aa 0 ac),(I6 0),(I6 0),(.bool false)]) qD rfl rfl ?_)));intro br wr Nr;have Fr:=Nr.ge E;replace E:=E.ext Nr.ext;have Br:=Nr.blk;refine qA _ rfl (zAB (zAA (qM _ rfl (qV (zAJ underlying22 rfl) (qA _ rfl (zAB (zAA (qA _ rfl (zAB (zAH (zAA (qF br 0 2 rfl underlying26 rfl zFw rfl (qV (zAI rfl zEQ (Br.cell rfl)) (qV (zAJ underlying24 rfl) (qM _ rfl (zAB (zAS (zAp (fun nn_ σ W1=>∃(k:Nat),(∃jj_,σ=zCT jj_ [(1,(.slice (some ⟨tb,to,none⟩) 1 tc)),(2,(P6 br 0)),(5,(I6 1)),(26,(.slice aa 0 ac)),(27,(I6 0)),(28,(I6 (k:Int))),(6,(.slice none 0 0))])∧Chg zAh w0 W1∧Blk W1 br #[(I6 2),(.slice sa 1 sc),(.slice aa 0 ac),(I6 0),(I6 0),(.bool false)] 26∧(k=0)∧nn_=1 - k) (n:=1 - 0) ?_ ?_))))))))))))))))))
 ·exact ⟨0,zAz.out ⟨rfl,rfl,rfl,rfl,rfl,rfl,rfl,trivial⟩,E,Br,rfl,rfl⟩
 ·clear E Br;rintro _ _ W1 ⟨k,⟨j1,rfl⟩,E,Br,hk,rfl⟩;refine zAA (qV (zBF rfl rfl) (zAB (zAH ?_)));have ag:(decide ((((k:Nat):Int):Int)<0))=false:=decide_eq_false qO;refine zAP (cbk ag) (zAn (zAT (zAT (zAg (zAC (zAA (qV (zBA (ps:=[]) (v:=(.agg #[(.int .u32 0),(.int .u32 0),(.int .u32 0),(.int .u32 0),(.int .u32 0),(.int .u32 0),(.int .u32 0),(.int .u32 0),(.int .u32 0),(.int .u32 0),(.int .u32 0),(.int .u32 0),(.int .u32 0),(.int .u32 0),(.int .u32 0),(.int .u32 0),(.int .u32 0),(.int .u32 0),(.int .u32 0),(.int .u32 0),(.int .u32 0),(.int .u32 0),(.int .u32 0),(.int .u32 0),(.int .u32 0)])) rfl qK) (zBQ (v:=(.agg #[(.int .u32 0),(.int .u32 0),(.int .u32 0),(.int .u32 0),(.int .u32 0),(.int .u32 0),(.int .u32 0),(.int .u32 0),(.int .u32 0),(.int .u32 0),(.int .u32 0),(.int .u32 0),(.int .u32 0),(.int .u32 0),(.int .u32 0),(.int .u32 0),(.int .u32 0),(.int .u32 0),(.int .u32 0),(.int .u32 0),(.int .u32 0),(.int .u32 0),(.int .u32 0),(.int .u32 0),(.int .u32 0)])) (c:=#[(.int .u32 0),(.int .u32 0),(.int .u32 0),(.int .u32 0),(.int .u32 0),(.int .u32 0),(.int .u32 0),(.int .u32 0),(.int .u32 0),(.int .u32 0),(.int .u32 0),(.int .u32 0),(.int .u32 0),(.int .u32 0),(.int .u32 0),(.int .u32 0),(.int .u32 0),(.int .u32 0),(.int .u32 0),(.int .u32 0),(.int .u32 0),(.int .u32 0),(.int .u32 0),(.int .u32 0),(.int .u32 0)]) qD rfl rfl ?_))))))));intro bq wq Nq;have Fq:=Nq.ge E;have Oq_br:=Nq.lt Br;replace Br:=Nq.keep Br;replace E:=E.ext Nq.ext;have Bq:=Nq.blk;refine qA _ rfl (zAB (zAH (zAA (qF br 0 0 rfl underlying26 rfl zAy rfl (qV (zAI rfl zAo (Br.cell rfl)) (zAB (zAS (zAA (qV (zAs rfl rfl) (qA _ rfl (zAB (zAP rfl (zAA (qV (zAs rfl rfl) (qA _ rfl (zAB (zAk rfl (zAA ?_))))))))))))))))));refine qM _ rfl (qV (zAJ underlying22 rfl) (qM _ rfl (zAB (zAS ?_))));replace Bq:Blk wq bq (zWk 0) 133:=Bq;refine zAp (fun nn_ σ W3=>∃(i:Nat),(∃jj_,σ=zCT jj_ [(2,(P6 br 0)),(9,(P6 bq 0)),(49,(.slice (some ⟨tb,to,none⟩) 1 tc)),(50,(I6 1)),(51,(I6 (i:Int)))])∧Chg zAh w0 W3∧Blk W3 br #[(I6 2),(.slice sa 1 sc),(.slice aa 0 ac),(I6 0),(I6 0),(.bool false)] 26∧Blk W3 bq (zWk (if i=0 then 0 else 2)) 133∧(i≤1)∧nn_=1 - i) (n:=1 - 0) ?_ ?_
  ·exact ⟨0,zAz.out ⟨rfl,rfl,rfl,rfl,rfl,trivial⟩,E,Br,Bq,qD,rfl⟩
  ·clear E Br Bq;rintro _ _ W3 ⟨i,⟨j3,rfl⟩,E,Br,Bq,hi,rfl⟩;refine zAA (qV (zBF rfl rfl) (zAB (zAH (qC rfl (fun ai=>?_) (fun ai=>?_)))))
   ·have ab:i=0:=qO
    refine zAO (zAC (zAH (zAS (zAA (qM _ rfl (qV (zAD (b:=tb) (o:=to) (len:=1) (cap:=tc) (i:=i) (o':=to+i) rfl rfl rfl underlying22 zAy qO qO) (qV (zAI rfl zAo (E.cell (fun f=>f) (af i 97 (by rw[ab];rfl)))) (qA _ rfl (qA _ rfl (zAB (zAA (qF br 0 1 rfl underlying26 rfl zCd rfl (qV (zAI rfl zCZ (Br.cell rfl)) (qM _ rfl (qE rfl (zAQ func47 kQ kQ rfl) ((zXK _ (.slice sa 1 sc) [(97,97)] 97 (ad.ext E)).mono (R':=fun v w=>v=.bool true∧Ext _ w) (fun v w h=>⟨h.1.trans (cbk qD),h.2⟩)) ?_)))))))))))))));rintro _ w19 ⟨rfl,ae⟩;replace Br:=ae.keep Br;replace Bq:=ae.keep Bq;replace E:=E.ext ae;refine zAB (zAk rfl (zKU 7 mixed qK ?_));intro w5 X5 _;replace Br:=X5.keep Br;replace Bq:=X5.keep Bq;replace E:=E.ext X5;refine qT (zAl rfl) (qT (zAl rfl) (qT (zAl rfl) (qT (zAv rfl rfl (zBb qO)) (qT (zVm (c:=2) rfl rfl qO (by rw[ab];exact shl1 (k:=1) qO)) (qT (zBh rfl) (qT (zCB (b:=bq) (o:=0) (i:=i) (o':=i) rfl rfl rfl underlying133 zUA qO qO) (zCq (zBC (b:=bq) (o:=i) (c':=zWk (if i+1=0 then 0 else 2)) (v:=(.int .u32 2)) rfl rfl rfl zUA Bq (by subst ab;decide) (by subst ab;rfl) ?_))))))));intro w6 S6;replace Br:=S6.keep qO Br;replace E:=S6.step E qQ;replace Bq:=S6.blk;refine zAB (zAR (zAC (zAF (qV (zAv rfl rfl (zBb qO)) (qM _ rfl (zAB (zAC ?_)))))));exact ⟨1 - (i+1),qO,i+1,zAz.out ⟨rfl,rfl,rfl,rfl,rfl,trivial⟩,E,Br,Bq,qO,rfl⟩
   ·have hi1:i=1:=qO
    rw[if_neg qO] at Bq;refine zAn (zAT (zAT (zAg (zAR (zAC (zAA (qM _ rfl (qA _ rfl (zAB (zAV (zAY results59 (v:=(.pointer (some ⟨bq,0,none⟩))) rfl ?_)))))))))));exact ⟨bq,rfl,Bq,E⟩
theorem zXT:zIN aR [97]=0:=by
 have aa:zFc aR:=by unfold aR zFc;exact ⟨qD,trivial⟩
 have hf:zCe aR 40=0:=(zCK qD qD).2 ⟨aa,qD⟩;unfold zIN;rw[if_neg (by rw[hf];decide),if_neg qD,if_neg qD]
theorem zVl (w0:World) (vs:List Value) (vt:Value) (ht:zBB w0 aR vs) (htx:zBZ w0 vt [97]) :
  Ret prog 26 #[.agg vs.toArray,vt] w0 fun v w=>v=.tuple #[.bool true,.int .i64 0]∧Ext w0 w:=by
 have ab:=ht;obtain ⟨sa,sc,aa,ac,rfl,af,ae,_⟩:=ht.form;obtain ⟨ta,tc,rfl⟩:=zCI.form htx;refine qR func26 rfl ntmps26 rfl (fun E=>(zAA (zBQ (v:=(.agg #[(I6 2),(.slice sa 1 sc),(.slice aa 0 ac),(I6 0),(I6 0),(.bool false)])) (c:=#[(I6 2),(.slice sa 1 sc),(.slice aa 0 ac),(I6 0),(I6 0),(.bool false)]) qD rfl rfl ?_)));intro b1 w1 N1;replace E:=E.ext N1.ext;have B1:=N1.blk;refine qA _ rfl (qA _ rfl (zAB (zAH (zAA (qV (zAK (vs:=[(I6 2),(.slice sa 1 sc),(.slice aa 0 ac),(I6 0),(I6 0),(.bool false)]) rfl zBc zAw rfl (B1.cells rfl)) (qM _ rfl (qE rfl (zAQ func58 kQ kQ rfl) ((zRd _ aR _ _ [97] (zBB.ext E aR ab) (htx.ext E)).mono (R':=fun v w=>v=.int .i64 0∧Ext _ w) (fun v w h=>⟨h.1.trans (by rw[zXT]),h.2⟩)) ?_)))))));rintro _ w9 ⟨rfl,X9⟩;replace B1:=X9.keep B1;replace E:=E.ext X9;refine qA _ rfl (zAB (zAA (qM _ rfl (qV (zDA rfl rfl) (zAB (zAP rfl (zAO (zAC (zAA (qV (zAK (vs:=[(I6 2),(.slice sa 1 sc),(.slice aa 0 ac),(I6 0),(I6 0),(.bool false)]) rfl zBc zAw rfl (B1.cells rfl)) (qM _ rfl (qE rfl (zAQ func59 kQ kQ rfl) (zXD _ _ _ (zBB.ext E aR ab) (htx.ext E)) ?_))))))))))));rintro _ w19 ⟨bm,rfl,Bm,ad⟩;replace B1:=ad.keep B1;replace E:=E.ext ad;refine qV (zBh rfl) (qV (zCB (b:=bm) (o:=0) (i:=0) (o':=0) rfl rfl rfl underlying133 zUA qO qO) (qV (zAI rfl zWN (Bm.cell rfl)) (qM _ rfl (qV (zAJ underlying22 rfl) (qV (zIg (c:=1) rfl rfl qO qD) (qV (zJF (v:=.int .u32 1) rfl rfl qP (zSj 1 1 qD qD)) (qV (zAs rfl rfl) (qA _ rfl (qA _ rfl (zAB (zAV (zCO results26 (v:=(.bool true)) (v':=(.int .i64 0)) rfl rfl ?_))))))))))));exact ⟨rfl,E⟩
end Go.Proofs
namespace Go.Proofs
open Go Go.Eng Go.Sort
set_option maxRecDepth 100000
theorem zQQ (w0:World) (_:zMm w0):Ret prog 8 #[] w0 fun v w=>v=.bool true∧Ext w0 w:=by
 refine qR func8 rfl ntmps8 rfl (fun E=>(zAA (qA _ rfl (zAB (zAA (qV (zBA (ps:=[(0,(I6 97)),(1,(I6 97))]) (v:=(.agg #[(I6 97),(I6 97)])) rfl qK) (zAc (ps:=[(0,(.agg #[(I6 97),(I6 97)]))]) (c:=#[(I6 97),(I6 97)]) qD rfl underlying23 zBq zEG qD qD qK ?_)))))));intro bs ws Ns;replace E:=E.ext Ns.ext;have Bs:=Ns.blk;refine qV (zBA (ps:=[(0,(I6 2)),(1,(.slice (some ⟨bs,0,none⟩) 1 1))]) (v:=(.agg #[(I6 2),(.slice (some ⟨bs,0,none⟩) 1 1),(.slice none 0 0),(I6 0),(I6 0),(.bool false)])) rfl qK) (zAd (v:=(.agg #[(I6 2),(.slice (some ⟨bs,0,none⟩) 1 1),(.slice none 0 0),(I6 0),(I6 0),(.bool false)])) (c:=#[(I6 2),(.slice (some ⟨bs,0,none⟩) 1 1),(.slice none 0 0),(I6 0),(I6 0),(.bool false)]) (n:=6) qD zEH rfl zAw rfl rfl rfl qS ?_);intro ba wa Na;replace Bs:=Na.keep Bs;replace E:=E.ext Na.ext;have Ba:=Na.blk;refine zAB (zAA (qV (zAK (vs:=[(I6 2),(.slice (some ⟨bs,0,none⟩) 1 1),(.slice none 0 0),(I6 0),(I6 0),(.bool false)]) rfl zBc zAw rfl (Ba.cells rfl)) ?_));have hA:zBB (wa) aR [.int .i64 2,.slice (some ⟨bs,0,none⟩) 1 1,.slice none 0 0,.int .i64 0,.int .i64 0,.bool false]:=zBB.of (set:=[(97,97)]) (args:=[]) (zGy [(97,97)] Bs qD qD) ⟨qD,qD⟩ (.inl rfl);refine qE rfl (zAQ func10 kQ kQ rfl) ((zUo _ aR _ hA).mono (R':=fun r w=>(∃ea ec na nc ca cc,r=.tuple #[.agg #[.int .i64 0,.slice ea 2 ec,.slice na 2 nc],.slice ca 2 cc,.int .i64 0])∧Ext _ w) (fun r w h=>⟨of_a h.1,h.2⟩)) ?_;rintro _ w9 ⟨⟨ea,ec,na,nc,ca,cc,rfl⟩,X9⟩;replace Bs:=X9.keep Bs;replace Ba:=X9.keep Ba;replace hA:=zBB.ext X9 aR hA;replace E:=E.ext X9;refine qM _ rfl (qV (zAa rfl rfl) (qV (zAa rfl rfl) (qV (zAa rfl rfl) (zAd (v:=(.agg #[(I6 0),(.slice ea 2 ec),(.slice na 2 nc)])) (c:=#[(I6 0),(.slice ea 2 ec),(.slice na 2 nc)]) (n:=3) qD zBf rfl zAe rfl rfl rfl qS ?_))));intro bd wd Nd;replace Bs:=Nd.keep Bs;replace Ba:=Nd.keep Ba;replace hA:=zBB.ext Nd.ext aR hA;replace E:=E.ext Nd.ext;have Bd:=Nd.blk;refine qA _ rfl (qA _ rfl (zAB (zAA (qV (zAK (vs:=[(I6 2),(.slice (some ⟨bs,0,none⟩) 1 1),(.slice none 0 0),(I6 0),(I6 0),(.bool false)]) rfl zBc zAw rfl (Ba.cells rfl)) (zAc (ps:=[(0,(I6 97))]) (c:=#[(I6 97)]) qD rfl underlying22 zAy zDI qD qD qK ?_)))));intro bt wt Nt;replace Bs:=Nt.keep Bs;replace Ba:=Nt.keep Ba;replace Bd:=Nt.keep Bd;replace hA:=zBB.ext Nt.ext aR hA;replace E:=E.ext Nt.ext;have Bt:=Nt.blk;refine qE rfl (zAQ func26 kQ kQ rfl) (zVl _ _ _ hA (zEv Bt rfl qD)) ?_;rintro _ w19 ⟨rfl,aa⟩;replace Bs:=aa.keep Bs;replace Ba:=aa.keep Ba;replace Bd:=aa.keep Bd;replace Bt:=aa.keep Bt;replace hA:=zBB.ext aa aR hA;replace E:=E.ext aa;refine qM _ rfl (qV (zAa rfl rfl) (qV (zAa rfl rfl) (qA _ rfl (qA _ rfl (zAB (zAA (qM _ rfl (qV (zAs rfl rfl) (qM _ rfl (zAG rfl rfl qD rfl (qM _ rfl (zAG rfl rfl qD rfl (qV (zAs rfl rfl) (qV (zAr rfl rfl) (qM _ rfl ?_)))))))))))))));refine zAG rfl rfl qD rfl (qM _ rfl (qV (zAr rfl rfl) (qM _ rfl (zAG rfl rfl qD rfl (qF bd 0 2 rfl underlying34 rfl zBu rfl (zAG rfl rfl qD rfl (qV (zAI rfl zBi (Bd.cell rfl)) (zAG rfl rfl qD rfl (qV (zAJ underlying32 rfl) (zAG rfl rfl qD rfl (qV (zAs rfl rfl) (qV (zAr rfl rfl) (qA _ rfl (zAB (zAV ?_)))))))))))))));refine zAY results8 (v:=(.bool true)) rfl ?_;exact ⟨rfl,E⟩
end Go.Proofs
namespace Go.Proofs
open Go Go.Eng Go.Sort
set_option maxRecDepth 100000
theorem zVF (w0:World) (t:Re) (vs:List Value) (ht:zBB w0 t vs) :
  Ret prog 16 #[.agg vs.toArray] w0 fun v w=>(∃a c,v=.tuple #[.slice a (if zCe t 40=0 then zBT t else []).length c,.int .i64 (zCe t 40)]∧zBv w (.slice a (if zCe t 40=0 then zBT t else []).length c) (if zCe t 40=0 then zBT t else []))∧Ext w0 w:=by
 have ad:=ht;obtain ⟨sa,sc,aa,ac,rfl,_,_,_⟩:=ht.form;refine qR func16 rfl ntmps16 rfl (fun E=>(zAA (zBQ (v:=(.agg (R6 t sa sc aa ac))) (c:=(R6 t sa sc aa ac)) qD rfl rfl ?_)));intro br wr Nr;replace E:=E.ext Nr.ext;have Br:=Nr.blk;refine qA _ rfl (qA _ rfl (zAB (zAH (zAA (qV (zAK (vs:=[(I6 t.kind),(.slice sa t.set.length sc),(.slice aa t.args.length ac),(I6 t.mn),(I6 t.mx),(.bool t.neg)]) rfl zBc zAw rfl (Br.cells rfl)) (qE rfl (zAQ func30 kQ kQ rfl) (zKN _ t _ (zBB.ext E t ad)) ?_))))));rintro _ w9 ⟨rfl,X9⟩;replace Br:=X9.keep Br;replace E:=E.ext X9;refine qA _ rfl (zAB (zAA (qM _ rfl (qV (zDA rfl rfl) (zAB (qC rfl (fun he=>?_) (fun he=>?_)))))))
 ·refine zAA (qM _ rfl (qA _ rfl (qA _ rfl (zAB (zAV (zAU (zCO results16 (v:=(.slice none 0 0)) (v':=(.int .i64 (zCe t 40))) rfl rfl ?_)))))));rw[if_neg qO];exact ⟨⟨none,0,rfl,zFO _⟩,E⟩
 ·have ab:zCe t 40=0:=qO
  obtain ⟨af,hsz⟩:=(zCK qD qD).1 ab;refine zAO (zAC (zAA (qV (zAK (vs:=[(I6 t.kind),(.slice sa t.set.length sc),(.slice aa t.args.length ac),(I6 t.mn),(I6 t.mx),(.bool t.neg)]) rfl zBc zAw rfl (Br.cells rfl)) (qE rfl (zAQ func34 kQ kQ rfl) ((zVA _ t _ (zBB.ext E t ad) (zDU af) qO).mono (R':=fun v w=>(∃a c,v=.slice a (zBT t).length c∧zBv w (.slice a (zBT t).length c) (zBT t))∧Ext _ w) (fun v w h=>⟨by obtain ⟨a,c,h1,_⟩:=h.1.form;exact ⟨a,c,h1,h1▸h.1⟩,h.2⟩)) ?_))));rintro _ w19 ⟨⟨a9,c9,rfl,ag⟩,ae⟩;replace Br:=ae.keep Br;replace E:=E.ext ae;refine qA _ rfl (qA _ rfl (zAB (zAV (zCO results16 (v:=(.slice a9 ((zBT t).length) c9)) (v':=(.int .i64 0)) rfl rfl ?_))));rw[if_pos ab];exact ⟨⟨a9,c9,by rw[ab],ag⟩,E⟩
end Go.Proofs
