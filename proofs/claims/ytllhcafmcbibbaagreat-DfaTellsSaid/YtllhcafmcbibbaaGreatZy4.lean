/- Contracts and plain lemmas, part 4. -/
import Derived.Test.YtllhcafmcbibbaaGreatZy3
open Go.Proofs.Tryz
set_option maxHeartbeats 16000000
namespace Go.Proofs
open Go Go.Eng Go.Sort
set_option maxRecDepth 100000
def Ug (b:Bool):Int:=if b=true then 1 else -1
theorem M_ {cs:List (List Sp)} {s l:List Sp} {i:Nat} (h:cs[i]?=some l):(setRow cs s)[i]?=some (Ug (Cq s (BM l))):=by
 unfold setRow Ug;rw[List.getElem?_map,h];rfl
theorem NA {cs:List (List Sp)} {s:List Sp} {row:List Int} (hl:row.length=cs.length) (h:∀j,j<cs.length->row[j]?=(setRow cs s)[j]?):row=setRow cs s:=by
 refine List.ext_getElem? λj=>?_;by_cases a:j<cs.length
 .exact h j a
 .rw[List.getElem?_eq_none qO,List.getElem?_eq_none (by simp[setRow];omega)]
theorem Lz {cs:List (List Sp)} {s l:List Sp} {row:List Int} {i:Nat} (b:row.length=cs.length) (hi:cs[i]?=some l) (h:∀j,j<i->row[j]?=(setRow cs s)[j]?) {row':List Int} (a:row'=row.set i (Ug (Cq s (BM l)))):row'.length=cs.length∧∀j,j<i+1->row'[j]?=(setRow cs s)[j]?:=by
 subst a;have hlt:=AG hi;refine ⟨by simp[b],λj hj=>?_⟩;by_cases e:j=i
 .subst e;rw[List.getElem?_set_self qO,M_ hi]
 .rw[List.getElem?_set_ne (Ne.symm e)];exact h j qO
theorem SH (cs:List (List Sp)) (x:Re) (hc:1≤cs.length∧cs.length≤16) (hk:x.kind=2) (hne:∀l∈cs,l≠[]):O_ cs.length cs x:=by
  intro w0 bt ca cc vs hT hC ht;have ht0:=ht;obtain ⟨sa,sc,aa,ac,rfl,ao,a9,az⟩:=ht.form;have hcl:cs.length≤16:=hc.2;obtain ⟨cb,co,rfl,ap⟩:=Ei hC qO;refine Hj func172 rfl ntmps172 (LK rfl) ?_;have E:Chg Ab w0 w0:=Chg.refl _ _;refine Y (BP (v:=(.agg (R6 x sa sc aa ac))) (c:=(R6 x sa sc aa ac)) qD rfl rfl ?_);intro bb wb Nb;have Fb:=Nb.ge E;have Ob_bt:=Nb.lt hT;replace hT:=Nb.keep hT;replace E:=E.ext Nb.ext;have Bb:=Nb.blk;refine By (c:=#[(I6 0),(.slice none 0 0),(.slice none 0 0)]) qD Ce rfl ?_;intro br wr Nr;have Fr:=Nr.ge E;have Or_bt:=Nr.lt hT;have Or_bb:=Nr.lt Bb;replace hT:=Nr.keep hT;replace Bb:=Nr.keep Bb;replace E:=E.ext Nr.ext;have Br:=Nr.blk;refine AA (Y (qM _ rfl (qV (FX rfl) (qF bt 0 0 rfl underlying168 rfl Ls rfl (qV (AE rfl G9 (hT.cell rfl)) (qV (AL underlying69 rfl) (qA _ rfl (AA (AI (Y (qF bb 0 0 rfl underlying68 rfl Ad rfl (qV (AE rfl Ai (Bb.cell rfl)) (AA (AO (Y (qV (BF rfl rfl) (qA _ rfl (AA ?_))))))))))))))))));have bc:(decide ((x.kind:Int)=1))=false:=decide_eq_false qO;refine AW (BH bc) (Y (qV (BF rfl rfl) (qA _ rfl (AA ?_))));have bp:(decide ((x.kind:Int)=2))=true:=decide_eq_true hk;refine A7 (BH bp) (Y (qM _ rfl (Dx (n:=cs.length) (z:=(I6 0)) (bytes:=8) qD underlying22 Ad Dj BY rfl rfl rfl qO qO ?_)));intro bo wo No;have Fo:=No.ge E;have Oo_bt:=No.lt hT;have Oo_bb:=No.lt Bb;have Oo_br:=No.lt Br;replace hT:=No.keep hT;replace Bb:=No.keep Bb;replace Br:=No.keep Br;replace E:=E.ext No.ext;have Bo:=No.blk;refine qA _ rfl (AA (AI (Y (qM _ rfl (qV (FX rfl) (qF bt 0 0 rfl underlying168 rfl Ls rfl (qV (AE rfl G9 (hT.cell rfl)) (qV (AL underlying69 rfl) (qM _ rfl (AA (AO ?_)))))))))));have Bo:Az (wo) bo ((List.replicate cs.length (0:Int)).map (Value.int .i64)).toArray 3:=by rw[List.map_replicate];exact Bo
  refine Ap (fun nn_ σ W3=>∃(i:Nat) (ad:List Int),(∃jj_,σ=BK jj_ [(3,(P6 bb 0)),(4,(P6 br 0)),(5,(I6 (cs.length:Int))),(6,(.slice (some ⟨bo,0,none⟩) cs.length cs.length)),(37,(.slice (some ⟨cb,co,none⟩) cs.length cc)),(38,(I6 (cs.length:Int))),(39,(I6 (i:Int)))])∧Chg Ab w0 W3∧Az W3 bt #[(.slice (some ⟨cb,co,none⟩) cs.length cc)] 168∧Az W3 bb (R6 x sa sc aa ac) 68∧Az W3 br #[(I6 0),(.slice none 0 0),(.slice none 0 0)] 48∧Az W3 bo ((ad.map (Value.int .i64)).toArray) 3∧(i≤cs.length)∧(ad.length=cs.length)∧(∀j,j<i→ad[j]?=(setRow cs x.set)[j]?)∧nn_=cs.length - i) (n:=cs.length - 0) ?_ ?_
  · exact ⟨0,List.replicate cs.length 0,Ac.out ⟨rfl,rfl,rfl,rfl,rfl,rfl,rfl,trivial⟩,E,hT,Bb,Br,Bo,Nat.zero_le _,qP,(fun j h=>absurd h qO),rfl⟩
  · clear E hT Bb Br Bo;rintro _ _ W3 ⟨i,ad,⟨j3,rfl⟩,E,hT,Bb,Br,Bo,hi,am,au,rfl⟩;refine Y (qV (A0 rfl rfl) (AA (AI (qC rfl (fun aw=>?_) (fun aw=>?_)))))
    · obtain ⟨l,hl⟩:=AK (l:=cs) (i:=i) qO;obtain ⟨la,lc,af,ba⟩:=ap i l hl;have ag:=hne l (List.mem_of_getElem? hl);obtain ⟨lb,lo,rfl,bk⟩:=CZ ba (List.length_pos_iff.2 ag);have hll:=List.length_pos_iff.2 ag;obtain ⟨s0,al⟩:=AK (l:=l) (i:=0) qO;have a6:s0.1=BM l:=by cases l with|nil=>cases al|cons a b=>simp at al;rw[←al];rfl
      refine AM (AB (AI (AO (Y (qM _ rfl (qV (AC (b:=cb) (o:=co) (len:=cs.length) (cap:=cc) (i:=i) (o':=co+i) rfl rfl rfl underlying69 C4 qO qO) (qV (AE rfl DW (E.cell (fun f=>f) af)) (qA _ rfl (qA _ rfl (AA ?_))))))))));have a5:w0.heap.size≤W3.heap.size:=E.size;have aj:bt<W3.heap.size:=hT.lt;have ak:bb<W3.heap.size:=Bb.lt;have an:br<W3.heap.size:=Br.lt;have ai:bo<W3.heap.size:=Bo.lt;refine AI ?_;obtain ⟨a8,ab⟩:∃Fs:List Fact,Fs=[.eq (.slice (some ⟨bo,0,none⟩) cs.length cs.length),.eq (I6 (i:Int)),.eq (P6 bb 1),.eq (.slice sa x.set.length sc),.eq (.slice (some ⟨lb,lo,none⟩) l.length lc),.eq (.pointer (some ⟨lb,lo+0*2,none⟩)),.eq (.pointer (some ⟨lb,lo+0*2,none⟩)),.eq (I6 (BM l)),.eq (.bool (Cq x.set (BM l))),.eq (I6 (if Cq x.set (BM l)=true then 0 else -1)),.eq undef,.eq undef]:=⟨_,rfl⟩;refine TX [true,true,true,true,true,true,true,true,true,true,false,false] [10,11] [44,45,46,47,48,49,50,51,52,53,209,210] [[],[],[],[2],[],[4],[5],[6],[3,7],[8],[],[]] a8 ab mixed qK qK qK qK ?_ ?_
      · intro wd X0;refine DagStepsP.cons (fun s' w' X U H=>Or.inl ⟨?_,?_⟩) ?_
        · exact AQ rfl
        · exact Aq (AZ (U 6 rfl)) (Al.refl _) rfl
        refine DagStepsP.cons (fun s' w' X U H=>Or.inl ⟨?_,?_⟩) ?_
        · exact AQ rfl
        · exact Aq (AZ (U 7 rfl)) (Al.refl _) rfl
        refine DagStepsP.cons (fun s' w' X U H=>Or.inl ⟨?_,?_⟩) ?_
        · exact AQ rfl
        · exact Aq (AT (U 3 rfl) underlying68 rfl C4 rfl) (Al.refl _) rfl
        refine DagStepsP.cons (fun s' w' X U H=>Or.inl ⟨?_,?_⟩) ?_
        · exact AQ rfl
        · have bf:s' 46=(.pointer (some ⟨bb,1,none⟩)):=H 2 rfl 46 (.eq (.pointer (some ⟨bb,1,none⟩))) rfl (by rw[ab];rfl);exact Aq (AE bf DW (((X0.trans X).keep Bb).cell rfl)) (Al.refl _) rfl
        refine DagStepsP.cons (fun s' w' X U H=>Or.inl ⟨?_,?_⟩) ?_
        · exact AQ rfl
        · exact Aq (AZ (U 8 rfl)) (Al.refl _) rfl
        refine DagStepsP.cons (fun s' w' X U H=>Or.inl ⟨?_,?_⟩) ?_
        · exact AQ rfl
        · have a7:s' 48=(.slice (some ⟨lb,lo,none⟩) l.length lc):=H 4 rfl 48 (.eq (.slice (some ⟨lb,lo,none⟩) l.length lc)) rfl (by rw[ab];rfl);exact Aq (AC (i:=0) a7 rfl rfl underlying37 CJ qO qO) (Al.refl _) rfl
        refine DagStepsP.cons (fun s' w' X U H=>Or.inl ⟨?_,?_⟩) ?_
        · exact AQ rfl
        · have bi:s' 49=(.pointer (some ⟨lb,lo+0*2,none⟩)):=H 5 rfl 49 (.eq (.pointer (some ⟨lb,lo+0*2,none⟩))) rfl (by rw[ab];rfl);exact Aq (AT bi underlying94 rfl Ad rfl) (Al.refl _) rfl
        refine DagStepsP.cons (fun s' w' X U H=>Or.inl ⟨?_,?_⟩) ?_
        · exact AQ rfl
        · have a3:s' 50=(.pointer (some ⟨lb,lo+0*2,none⟩)):=H 6 rfl 50 (.eq (.pointer (some ⟨lb,lo+0*2,none⟩))) rfl (by rw[ab];rfl);exact Aq (AE a3 Ai ((by have h9:=((bk 0 s0 al).ext (Al.trans E (X0.trans X))).at0;rw[a6] at h9;exact h9))) (Al.refl _) rfl
        refine DagStepsP.cons (fun s' w' X U H=>Or.inl ⟨?_,?_⟩) ?_
        · exact AQ rfl
        · have a0:s' 47=(.slice sa x.set.length sc):=H 3 rfl 47 (.eq (.slice sa x.set.length sc)) rfl (by rw[ab];rfl);have a4:s' 51=(.int .i64 (BM l)):=H 7 rfl 51 (.eq (.int .i64 (BM l))) rfl (by rw[ab];rfl);exact DO (AV func49 kQ kQ (JF a0 a4)) ((VA _ _ x.set (BM l) (BO.ext ao (Al.trans E (X0.trans X)))))
        refine DagStepsP.cons (fun s' w' X U H=>Or.inl ⟨?_,?_⟩) ?_
        · exact AQ rfl
        · have bh:s' 52=(.bool (Cq x.set (BM l))):=H 8 rfl 52 (.eq (.bool (Cq x.set (BM l)))) rfl (by rw[ab];rfl);exact DO (AV func124 kQ kQ (NK bh)) ((Ha (Cq x.set (BM l)) _))
        refine DagStepsP.tail (DagStepsP.tail ?_);exact DagStepsP.nil
      · intro s' w5 X5 U H;obtain ⟨j5,rfl⟩:=Ac.out (σ:=s') (l:=[(3,(.pointer (some ⟨bb,0,none⟩))),(4,(.pointer (some ⟨br,0,none⟩))),(5,(.int .i64 ((cs.length:Nat):Int))),(6,(.slice (some ⟨bo,0,none⟩) cs.length cs.length)),(7,(.int .i64 ((i:Nat):Int))),(37,(.slice (some ⟨cb,co,none⟩) cs.length cc)),(38,(.int .i64 ((cs.length:Nat):Int))),(39,(.int .i64 ((i:Nat):Int))),(44,(.slice (some ⟨bo,0,none⟩) cs.length cs.length)),(45,(.int .i64 ((i:Nat):Int))),(53,(.int .i64 (if Cq x.set (BM l)=true then 0 else -1)))]) ⟨U 3 rfl,U 4 rfl,U 5 rfl,U 6 rfl,U 7 rfl,U 37 rfl,U 38 rfl,U 39 rfl,(show s' 44=(.slice (some ⟨bo,0,none⟩) cs.length cs.length) from H 0 rfl 44 (.eq (.slice (some ⟨bo,0,none⟩) cs.length cs.length)) rfl (by rw[ab];rfl)),(show s' 45=(.int .i64 ((i:Nat):Int)) from H 1 rfl 45 (.eq (.int .i64 ((i:Nat):Int))) rfl (by rw[ab];rfl)),(show s' 53=(.int .i64 (if Cq x.set (BM l)=true then 0 else -1)) from H 9 rfl 53 (.eq (.int .i64 (if Cq x.set (BM l)=true then 0 else -1))) rfl (by rw[ab];rfl)),trivial⟩;clear U H;replace hT:=X5.keep hT;replace Bb:=X5.keep Bb;replace Br:=X5.keep Br;replace Bo:=X5.keep Bo;replace E:=E.ext X5;refine qV (AC (b:=bo) (o:=0) (len:=cs.length) (cap:=cs.length) (i:=i) (o':=0+i) rfl rfl rfl underlying22 Ad qO qO) (A9 (b:=bo) (o:=0+i) (c':=((ad.set i (if Cq x.set (BM l)=true then 0 else -1)).map (Value.int .i64)).toArray) (v:=(I6 (if Cq x.set (BM l)=true then 0 else -1))) rfl rfl rfl Ad Bo (by simp;omega) (DC _) ?_);intro w6 S6;replace hT:=S6.keep qO hT;replace Bb:=S6.keep qO Bb;replace Br:=S6.keep qO Br;replace E:=S6.step E qQ;replace Bo:=S6.blk;refine AA (AB (Y (qM _ rfl (qM _ rfl (qV (AC (b:=bo) (o:=0) (len:=cs.length) (cap:=cs.length) (i:=i) (o':=0+i) rfl rfl rfl underlying22 Ad qO qO) (qV (AE (v:=(I6 (if Cq x.set (BM l)=true then 0 else -1))) rfl Ai (Bo.cell (by simp[List.getElem?_set_self,am,AG hl]))) ?_))))));refine qV (BF rfl rfl) (AA (qC rfl (fun hq=>?_) (fun hq=>?_)))
        · refine AJ (qM _ rfl (qM _ rfl (qV (AC (b:=bo) (o:=0) (len:=cs.length) (cap:=cs.length) (i:=i) (o':=0+i) rfl rfl rfl underlying22 Ad qO qO) (A9 (b:=bo) (o:=0+i) (c':=(((ad.set i (if Cq x.set (BM l)=true then 0 else -1)).set i 1).map (Value.int .i64)).toArray) (v:=(I6 1)) rfl rfl rfl Ad Bo (by simp;omega) (DC _) ?_))));intro w8 S8;replace hT:=S8.keep qO hT;replace Bb:=S8.keep qO Bb;replace Br:=S8.keep qO Br;replace E:=S8.step E qQ;replace Bo:=S8.blk;have hb:Cq x.set (BM l)=true:=by cases e:Cq x.set (BM l);rw[e] at hq;simp at hq;rfl
          obtain ⟨h5,h6⟩:=Lz (row':=(ad.set i (if Cq x.set (BM l)=true then 0 else -1)).set i 1) am hl au (by rw[hb,List.set_set];rfl);refine AA (AN (AB (AJ (qV (Ar rfl rfl (A5 qO)) (qM _ rfl (AA (AB ?_)))))));exact ⟨cs.length - (i+1),qO,i+1,(ad.set i (if Cq x.set (BM l)=true then 0 else -1)).set i 1,Ac.out ⟨rfl,rfl,rfl,rfl,rfl,rfl,rfl,trivial⟩,E,hT,Bb,Br,Bo,qO,h5,h6,rfl⟩
        · have hb:Cq x.set (BM l)=false:=by cases e:Cq x.set (BM l);rfl;rw[e] at hq;simp at hq
          obtain ⟨h5,h6⟩:=Lz (row':=ad.set i (if Cq x.set (BM l)=true then 0 else -1)) am hl au (by rw[hb];rfl);refine AM (AN (AB (AJ (qV (Ar rfl rfl (A5 qO)) (qM _ rfl (AA (AB ?_)))))));exact ⟨cs.length - (i+1),qO,i+1,ad.set i (if Cq x.set (BM l)=true then 0 else -1),Ac.out ⟨rfl,rfl,rfl,rfl,rfl,rfl,rfl,trivial⟩,E,hT,Bb,Br,Bo,qO,h5,h6,rfl⟩
    · have hii:i=cs.length:=qO
      have ar:=NA am (fun j hj=>au j qO);subst ar;refine Ak (AP (AP (Ae (AB (Y (Ah (ps:=[(0,(I6 (-1))),(1,(I6 0))]) (c:=#[(I6 (-1)),(I6 0)]) qD rfl underlying22 Ad BY qD qD qK ?_))))));intro be we Ne;have Fe:=Ne.ge E;have Oe_bt:=Ne.lt hT;have Oe_bb:=Ne.lt Bb;have Oe_br:=Ne.lt Br;have Oe_bo:=Ne.lt Bo;replace hT:=Ne.keep hT;replace Bb:=Ne.keep Bb;replace Br:=Ne.keep Br;replace Bo:=Ne.keep Bo;replace E:=E.ext Ne.ext;have Be:=Ne.blk;refine qM _ rfl (Ah (ps:=[(0,(I6 (-1)))]) (c:=#[(I6 (-1))]) qD rfl underlying22 Ad BY qD qD qK ?_);intro bm wm Nm;have Fm:=Nm.ge E;have Om_bt:=Nm.lt hT;have Om_bb:=Nm.lt Bb;have Om_br:=Nm.lt Br;have Om_bo:=Nm.lt Bo;have Om_be:=Nm.lt Be;replace hT:=Nm.keep hT;replace Bb:=Nm.keep Bb;replace Br:=Nm.keep Br;replace Bo:=Nm.keep Bo;replace Be:=Nm.keep Be;replace E:=E.ext Nm.ext;have Bm:=Nm.blk;refine qM _ rfl ?_;obtain ⟨n9,ah⟩:∃n9,n9=(wm).heap.size:=⟨_,rfl⟩;have aw:br<n9∧w0.heap.size≤n9∧bo<n9∧be<n9:=⟨by rw[ah];exact Br.lt,by rw[ah];exact E.size,by rw[ah];exact Bo.lt,by rw[ah];exact Be.lt⟩;refine qE rfl (AV func125 kQ kQ rfl) (I0 _ bm 1 cs.length (-1) _ Bm hc.1 qO) ?_;rintro _ w9 ⟨⟨g,rfl,a2,hG⟩,X9⟩;replace hT:=X9.keep hT;replace Bb:=X9.keep Bb;replace Br:=X9.keep Br;replace Bo:=X9.keep Bo;replace Be:=X9.keep Be;replace Bm:=X9.keep Bm;replace E:=E.ext X9;have hgg:n9≤g:=by rw[ah];exact a2
      refine Ah (ps:=[(0,(.slice (some ⟨bo,0,none⟩) cs.length cs.length)),(1,(.slice (some ⟨g,0,none⟩) cs.length cs.length))]) (c:=#[(.slice (some ⟨bo,0,none⟩) cs.length cs.length),(.slice (some ⟨g,0,none⟩) cs.length cs.length)]) qD rfl underlying46 Ay DY qD qD qK ?_;intro bn wn Nn;have Fn:=Nn.ge E;have On_bt:=Nn.lt hT;have On_bb:=Nn.lt Bb;have On_br:=Nn.lt Br;have On_bo:=Nn.lt Bo;have On_be:=Nn.lt Be;have On_bm:=Nn.lt Bm;have On_g:=Nn.lt hG;replace hT:=Nn.keep hT;replace Bb:=Nn.keep Bb;replace Br:=Nn.keep Br;replace Bo:=Nn.keep Bo;replace Be:=Nn.keep Be;replace Bm:=Nn.keep Bm;replace hG:=Nn.keep hG;replace E:=E.ext Nn.ext;have Bn:=Nn.blk;refine qV (B' (ps:=[(1,(.slice (some ⟨be,0,none⟩) 2 2)),(2,(.slice (some ⟨bn,0,none⟩) 2 2))]) (v:=(.agg #[(I6 0),(.slice (some ⟨be,0,none⟩) 2 2),(.slice (some ⟨bn,0,none⟩) 2 2)])) rfl qK) ?_;obtain ⟨n8,aq⟩:∃n8,n8=(wn).heap.size:=⟨_,rfl⟩;have a1:br<n8∧w0.heap.size≤n8:=⟨by rw[aq];exact Br.lt,by rw[aq];exact E.size⟩;have ay:(setRow cs x.set).length=cs.length:=by simp[setRow]
      refine qE rfl (AV func126 kQ kQ rfl) ((Jk _ 2 cs.length (FW cs x.set) _ (MW cs x.set).ok (Pv (S:=fun _=>True) (d:=FW cs x.set) (vs:=[.slice (some ⟨bo,0,none⟩) cs.length cs.length,.slice (some ⟨g,0,none⟩) cs.length cs.length]) Be Bn trivial trivial rfl ⟨(by decide:2≤1000000),(by decide:2≤1000000)⟩ (fun i u l hu hi=>by
        match i with
        | 0=>simp only[FW,List.getElem?_cons_zero,Option.some.injEq] at hu hi;subst hu;subst hi;exact ⟨bo,_,by rw[ay],trivial,by rw[ay];omega,Bo⟩
        | 1=>simp only[FW,List.getElem?_cons_zero,List.getElem?_cons_succ,Option.some.injEq] at hu hi;subst hu;subst hi;exact ⟨g,_,by rw[List.length_replicate],trivial,by rw[List.length_replicate];omega,hG⟩
        | i+2=>simp[FW] at hi)).at' ⟨qD,hc⟩ (MW cs x.set).acc).mono (R':=fun r w'=>Uq cs.length (beh (FW cs x.set) 0) 2 n8 r w'∧Al _ w') (fun r w' h=>by rw[aq];exact h)) ?_
      rintro _ bd ⟨⟨C,ca,ax,ma,mc,av,hCl,bj,rfl,bg⟩,ae⟩;replace hT:=ae.keep hT;replace Bb:=ae.keep Bb;replace Br:=ae.keep Br;replace Bo:=ae.keep Bo;replace Be:=ae.keep Be;replace Bm:=ae.keep Bm;replace hG:=ae.keep hG;replace Bn:=ae.keep Bn;replace E:=E.ext ae;have hD:Cp (fun b=>n8≤b) bd C _:=(Cp.of_new bg).mono fun b hb=>by have:=hb.1;omega
      refine A8 (b:=br) (o:=0) (c':=#[(I6 C.start),(.slice ca C.accept.length ax),(.slice ma C.next.length mc)]) rfl rfl qS Aw rfl Br qL rfl ?_;intro w9 S9;replace hD:=hD.put S9.chg fun y h1 h=>by have h':y=br:=h;omega
      replace hT:=S9.keep qO hT;replace Bb:=S9.keep qO Bb;replace Bo:=S9.keep qO Bo;replace Be:=S9.keep qO Be;replace Bm:=S9.keep qO Bm;replace hG:=S9.keep qO hG;replace Bn:=S9.keep qO Bn;replace E:=S9.step E qQ;replace Br:=S9.blk;refine AA (AS (A1 (AU (GU (C5 results172 (vs:=[(.int .i64 C.start),(.slice ca C.accept.length ax),(.slice ma C.next.length mc)]) (b:=br) rfl BB Aw rfl (Br.cells rfl) ?_)))));exact ⟨⟨_,by rw[Ti hk];exact Il av,(Kh av qO bj),_,_,_,_,rfl,(Cp.chg hD (Chg.refl Ab _) fun _ _ _ f=>f).mono fun b hb=>⟨qO,hb.2⟩⟩,E⟩
end Go.Proofs
namespace Go.Proofs
open Go Go.Eng Go.Sort
set_option maxRecDepth 100000
theorem QS:DD prog 164 0:=by unfold DD;kernel_rfl
theorem M3:D_ prog 164 (.agg #[]):=by unfold D_;kernel_rfl
theorem ND (a:World) (b g:Nat):CallsD prog 136 #[.pointer (some ⟨b,0,none⟩),.pointer (some ⟨g,0,none⟩)] .returning a λe f w'=>(∃r,e=.returned r∧Al a w')∧f=.returning:=by
 refine Gh (v:=.nilIface) func136 O ntmps136 (LK O) O O qD (λ_ _=>KK) (.inl ⟨O,O,O⟩) ?_;have E:Chg Ab a a:=Chg.refl _ _;refine qV (L7 underlying164 M3 O) (qM _ O (qV (Aj O O) (qV (Aj O O) (A6 (v:=(.agg #[])) (c:=#[]) (n:=0) qD M3 O QS O O O qS ?_))));intro b w1 d;replace E:=E.ext d.ext;have B1:=d.blk;refine qA _ O (AA (Y (qM _ O (AA (AW O (AM (EQ results136 ?_)))))));exact E
theorem ME (w0:World) (bd be:Nat) (x e:Int) (ya za:Option Addr) (yn yc zn zc:Nat) (h1:Az w0 bd #[.int .i64 x,.slice ya yn yc,.slice za zn zc] 48) (h2:Az w0 be #[.int .i64 e] 27) (hne:bd≠be) :
  CallsD prog 136 #[.pointer (some ⟨bd,0,none⟩),.pointer (some ⟨be,0,none⟩)] (.panicking VU) w0 fun e u1 w'=>(∃r,e=.returned r∧(Az w' bd #[.int .i64 0,.slice none 0 0,.slice none 0 0] 48∧Az w' be #[.int .i64 2] 27∧Chg (fun y=>y=bd∨y=be) w0 w'))∧u1=.panicking [{v:=.iface 164 (.agg #[]),recovered:=true}]:=by
 have hl1:=h1.lt;have hl2:=h2.lt;refine Gh (v:=(.iface 164 (.agg #[]))) func136 rfl ntmps136 (LK rfl) rfl rfl qD (fun _ _=>KK) (.inr ⟨[],rfl,rfl⟩) ?_;have E:Chg (fun y=>y=bd∨y=be) w0 w0:=Chg.refl _ _;refine qV (L6 underlying164 rfl) (qM _ rfl (qV (Aj rfl rfl) (qV (Aj rfl rfl) (A6 (v:=(.agg #[])) (c:=#[]) (n:=0) qD M3 rfl QS rfl rfl rfl qS ?_))));intro b1 w1 N1;have F1:=N1.ge E;have O1_bd:=N1.lt h1;have O1_be:=N1.lt h2;replace h1:=N1.keep h1;replace h2:=N1.keep h2;replace E:=E.ext N1.ext;have B1:=N1.blk;refine qA _ rfl (AA (Y (qM _ rfl (AA (A7 rfl (AJ (qV (B' (ps:=[]) (v:=(.agg #[(I6 0),(.slice none 0 0),(.slice none 0 0)])) rfl qK) (A8 (b:=bd) (o:=0) (c':=#[(I6 0),(.slice none 0 0),(.slice none 0 0)]) rfl rfl qS Aw rfl h1 qL rfl ?_))))))));intro w2 S2;replace h2:=S2.keep qO h2;replace B1:=S2.keep qO B1;replace E:=S2.step E qQ;replace h1:=S2.blk;refine A9 (b:=be) (o:=0) (c':=#[(I6 2)]) (v:=(I6 2)) rfl rfl rfl Lu h2 qP rfl ?_;intro w3 S3;replace h1:=S3.keep qO h1;replace B1:=S3.keep qO B1;replace E:=S3.step E qQ;replace h2:=S3.blk;refine AA (EQ results136 ?_);exact ⟨h1,h2,E⟩
def VQ (c:Nat) (cs:List (List Sp)) (x:Re) (m:Nat) (r:Value) (w:World):Prop:=
 (∃(d:Dfa) (ea:Option Addr) (ec:Nat) (na:Option Addr) (nc:Nat),trO c cs x=some d∧GoodD c d∧d.next.length<=200∧r=.tuple #[.agg #[.int .i64 d.start,.slice ea d.accept.length ec,.slice na d.next.length nc],.int .i64 0]∧Cp (λb=>m<=b) w d [.int .i64 d.start,.slice ea d.accept.length ec,.slice na d.next.length nc])∨(trO c cs x=none∧r=.tuple #[.agg #[.int .i64 0,.slice none 0 0,.slice none 0 0],.int .i64 2])
theorem MT (w:World) (cap:Array Value):(callFunc 136 cap).run prog w=.ok (.enter 136 cap) w:=Gi func136 kQ kQ
theorem UF (w0:World) (cs:List (List Sp)) (x:Re) (vs:List Value) (ca:Option Addr) (cc:Nat) (hof:K1 cs.length cs x) (hC:Ck w0 (.slice ca cs.length cc) cs) (ht:CG w0 x vs) :
  CB prog 83 #[.agg vs.toArray,.slice ca cs.length cc] w0 fun r w=>VQ cs.length cs x w0.heap.size r w∧Al w0 w:=by
 have ae:=ht;obtain ⟨sa,sc,aa,ac,rfl,_,_,_⟩:=ht.form;refine QE func83 rfl ntmps83 (LK rfl) ?_;have E:Chg Ab w0 w0:=Chg.refl _ _;refine Js (BP (v:=(.agg (R6 x sa sc aa ac))) (c:=(R6 x sa sc aa ac)) qD rfl rfl ?_);intro bb wb Nb;have Fb:=Nb.ge E;replace E:=E.ext Nb.ext;have Bb:=Nb.blk;refine By (c:=#[(I6 0),(.slice none 0 0),(.slice none 0 0)]) qD Ce rfl ?_;intro br wr Nr;have Fr:=Nr.ge E;have Or_bb:=Nr.lt Bb;replace Bb:=Nr.keep Bb;replace E:=E.ext Nr.ext;have Br:=Nr.blk;refine By (c:=#[(I6 0)]) qD Tf rfl ?_;intro be we Ne;have Fe:=Ne.ge E;have Oe_bb:=Ne.lt Bb;have Oe_br:=Ne.lt Br;replace Bb:=Ne.keep Bb;replace Br:=Ne.keep Br;replace E:=E.ext Ne.ext;have Be:=Ne.blk;refine AA (Ib (R4 rfl rfl qD (B7 rfl rfl) (OF rfl rfl (Sb rfl) (Y (qM _ rfl (qV (B' (ps:=[(0,(.slice ca cs.length cc))]) (v:=(.agg #[(.slice ca cs.length cc)])) rfl qK) (BP (v:=(.agg #[(.slice ca cs.length cc)])) (c:=#[(.slice ca cs.length cc)]) qD rfl rfl ?_)))))));intro bt wt Nt;have Ft:=Nt.ge E;have Ot_bb:=Nt.lt Bb;have Ot_br:=Nt.lt Br;have Ot_be:=Nt.lt Be;replace Bb:=Nt.keep Bb;replace Br:=Nt.keep Br;replace Be:=Nt.keep Be;replace E:=E.ext Nt.ext;have Bt:=Nt.blk;refine qA _ rfl (AA (Y (qM _ rfl (qV (Aa (vs:=[(I6 x.kind),(.slice sa x.set.length sc),(.slice aa x.args.length ac),(I6 x.mn),(I6 x.mx),(.bool x.neg)]) rfl DK Ca rfl (Bb.cells rfl)) ?_))));obtain ⟨n9,ab⟩:∃n9,n9=(wt).heap.size:=⟨_,rfl⟩;have af:br<n9∧be<n9∧w0.heap.size≤n9∧w0.heap.size≤br∧w0.heap.size≤be∧br≠be:=⟨by rw[ab];exact Br.lt,by rw[ab];exact Be.lt,by rw[ab];exact E.size,qO,qO,qO⟩;refine Ey rfl rfl qD (AV func137 kQ kQ rfl) (((hof _ bt ca cc _ Bt (hC.ext E) (CG.ext E x ae)).mono (R':=fun r w'=>(∃d,trO cs.length cs x=some d∧GoodD cs.length d∧d.next.length≤200∧Lk (fun b=>n9≤b) d r w')∧Al _ w') (fun r w' h=>⟨by obtain ⟨d,h1,h2,h3,h4⟩:=h.1;exact ⟨d,h1,h2,h3,h4.mono fun b hb=>by rw[ab];exact hb.1⟩,h.2⟩) (fun _ h=>h))) (fun w' h=>fun a ha=>JI (X:=fun w9=>Az w9 br #[.int .i64 0,.slice none 0 0,.slice none 0 0] 48∧Az w9 be #[.int .i64 2] 27∧Chg (fun y=>y=br∨y=be) w' w9) rfl (by intro h;cases h) (MT _ _) ((ME _ br be _ _ _ _ _ _ _ _ (h.2.keep Br) (h.2.keep Be) af.2.2.2.2.2).mono fun e9 u9 w9 h9=>by obtain ⟨⟨r9,h1,h2⟩,h3⟩:=h9;exact ⟨⟨r9,h1⟩,by rw[h3];rfl,h2⟩) (fun w9 h9=>⟨_,HK (vs:=[.int .i64 0,.slice none 0 0,.slice none 0 0]) results83 rfl rfl BB Aw rfl (h9.1.cells rfl) JX (h9.2.1.cell rfl) ha,_,rfl,.inr ⟨h.1,rfl⟩,(E.ext h.2).step h9.2.2 (fun y hy hh=>by rcases hh with hh|hh<;>omega)⟩)) ?_;rintro _ w9 ⟨⟨d,hd,gd,ad,ea,ec,na,nc,rfl,hD⟩,X9⟩;replace Bb:=X9.keep Bb;replace Br:=X9.keep Br;replace Be:=X9.keep Be;replace Bt:=X9.keep Bt;replace E:=E.ext X9;refine A8 (b:=br) (o:=0) (c':=#[(I6 d.start),(.slice ea d.accept.length ec),(.slice na d.next.length nc)]) rfl rfl qS Aw rfl Br qL rfl ?_;intro w1 S1;replace hD:=hD.put S1.chg fun y h1 h=>by have h':y=_:=h;omega
 replace Bb:=S1.keep qO Bb;replace Be:=S1.keep qO Be;replace Bt:=S1.keep qO Bt;replace E:=S1.step E qQ;replace Br:=S1.blk;refine A9 (b:=be) (o:=0) (c':=#[(I6 0)]) (v:=(I6 0)) rfl rfl rfl Lu Be qP rfl ?_;intro w2 S2;replace hD:=hD.put S2.chg fun y h1 h=>by have h':y=_:=h;omega
 replace Bb:=S2.keep qO Bb;replace Br:=S2.keep qO Br;replace Bt:=S2.keep qO Bt;replace E:=S2.step E qQ;replace Be:=S2.blk;refine AA (AS ?_);exact fun a ha=>JI (X:=Al _) rfl (by intro h;cases h) (MT _ _) ((ND _ br be).mono fun e9 u9 w9 h9=>by obtain ⟨⟨r9,h1,h2⟩,h3⟩:=h9;exact ⟨⟨r9,h1⟩,by rw[h3];rfl,h2⟩) (fun w9 h9=>⟨_,HK (vs:=[.int .i64 d.start,.slice ea d.accept.length ec,.slice na d.next.length nc]) results83 rfl rfl BB Aw rfl ((Al.keep h9 Br).cells rfl) JX ((Al.keep h9 Be).cell rfl) ha,_,rfl,.inl ⟨d,_,_,_,_,hd,gd,ad,rfl,(hD.ext h9).mono fun b hb=>by have hb':n9≤b:=hb;omega⟩,E.ext h9⟩)
end Go.Proofs
namespace Go.Proofs
open Go Go.Eng
set_option maxRecDepth 100000
inductive Ins where
  | set (l:List (Int×Int))
  | split (x y:Nat)
  | jump (x:Nat)
  | opn (t:Nat)
  | cls (t n:Nat)
  | look (r:Re) (ng:Bool)
  | ent (n:Nat)
  | chk (n:Nat)
  | fin
end Go.Proofs
namespace Go.Proofs
open Go Go.Eng
set_option maxRecDepth 100000
mutual
def J2:Re->List Re
  | .mk k set args mn mx ng=>.mk k set args mn mx ng::E5 args
def E5:List Re->List Re
  | []=>[]
  | t::ts=>J2 t++E5 ts
end
theorem LD (t:Re):J2 t=t::E5 t.args:=by cases t;simp only[J2,Re.args]
mutual
theorem L_:∀(t:Re),(J2 t).length=t.size
 | .mk k set args mn mx ng=>by simp only[J2,Re.size,List.length_cons,KN args]
theorem KN:∀(a:List Re),(E5 a).length=Re.sizes a
 | []=>by simp[E5,Re.sizes]
 | t::a=>by simp only[E5,Re.sizes,List.length_append,L_ t,KN a]
end
end Go.Proofs
namespace Go.Proofs
open Go Go.Eng
set_option maxRecDepth 100000
section
variable {S : Type} (F : S → Re → Bool × S)
def E0:List Re->S->Bool×S
  | [],s=>(true,s)
  | t::ts,s=>if (F s t).1 then E0 ts (F s t).2 else (false,(F s t).2)
theorem HD:∀(a b:List Re) (s:S),E0 F (a++b) s=if (E0 F a s).1 then E0 F b (E0 F a s).2 else (false,(E0 F a s).2)
 | [],b,s=>by simp[E0]
 | x::a,b,s=>by
  simp only[List.cons_append,E0];split
  .exact HD a b _
  .simp
mutual
theorem Iq:∀(t:Re) (s:S),CY F t s=E0 F (J2 t) s
 | .mk k set args mn mx ng,s=>by
  rw[Ee,LD];simp only[E0,Re.args];rw[IG args]
theorem IG:∀(a:List Re) (s:S),Cf F a s=E0 F (E5 a) s
 | [],s=>by simp only[Cf,E5,E0]
 | t::a,s=>by
  rw[DG];simp only[E5];rw[HD,<-Iq t,<-IG a]
end
end
end Go.Proofs
namespace Go.Proofs
open Go Go.Eng
set_option maxRecDepth 100000
def bl (m:Nat):Nat:=if m=0 then 0 else Nat.log2 m+1
end Go.Proofs
namespace Go.Proofs
open Go Go.Eng
set_option maxRecDepth 100000
theorem Qf (S:Nat->Prop) (w:World) (k:Int):OG S w (.mk k [] [] 0 0 false) [.int .i64 k,.slice none 0 0,.slice none 0 0,.int .i64 0,.int .i64 0,.bool false]:=
 OG.of (CS.nil _ _ _ _ _) qP (.inl O)
end Go.Proofs
namespace Go.Proofs
open Go Go.Eng Go.Sort
set_option maxRecDepth 100000
structure PreN (k:Int) (s:List (Int×Int)) (a:List Re) (m x:Int) (g:Bool):Prop where
 ks:k=0∨k=1∨k=2∨k=3∨k=4∨k=5∨k=6∨k=7∨k=8
 ng:g=false
 st:k≠2->s=[]
 mm:k≠6->m=0∧x=0
 k2:k=2->s≠[]∧BT s=0
 none:k=0∨k=1∨k=2->a=[]
 one:k=5∨k=6∨k=8->a.length=1
 rep:k=6->0<=m∧m<=x∧x<=8
end Go.Proofs
namespace Go.Proofs
open Go Go.Eng Go.Sort
set_option maxRecDepth 100000
theorem UB {t:Re} (h:G5 t) (h9:t.kind≠9) (f:t.kind≠10) {a:List Re} (m:a.length=t.args.length):PreN t.kind t.set a t.mn t.mx t.neg:=by
 have b:=Gk h;have c:=MJ b;have j:=(PX h).2.2;simp only[IM,Bool.and_eq_true,Bool.or_eq_true,decide_eq_true_eq,Bool.not_eq_true'] at j;obtain ⟨⟨⟨⟨e,n⟩,f3⟩,f4⟩,l⟩:=j;have hk:=c.k;refine ⟨qO,?_,λd=>?_,λg=>⟨qO,qO⟩,λd=>⟨c.sett d,?_⟩,λh0=>?_,λh1=>by rw[m];exact c.one qO,λg=>c.rep g⟩
 .rcases l with h|h
  .exact absurd h f
  .exact h
 .rcases n with h|h
  .exact absurd h d
  .exact List.eq_nil_of_length_eq_zero qO
 .unfold DZ at b;split at b
  .cases b
  split at b
  .cases b
  first|rw[if_pos d] at b|skip
  by_cases i:BT t.set=0
  .exact i
  .rw[if_pos i] at b;exact b
 .unfold PZ at e;rw[if_neg qO,if_neg qO] at e;have:=of_decide_eq_true e;exact List.eq_nil_of_length_eq_zero qO
end Go.Proofs
namespace Go.Proofs
open Go Go.Eng Go.Sort
set_option maxRecDepth 100000
mutual
def Gx (P:List (Int×Int)->Prop):Re->Prop
  | .mk k s a _ _ _=>(k=2->P s)∧IV P a
def IV (P:List (Int×Int)->Prop):List Re->Prop
  | []=>True
  | t::ts=>Gx P t∧IV P ts
end
section
variable {P : List (Int × Int) → Prop}
theorem P9 {a:List Re}:IV P a↔∀t∈a,Gx P t:=by
 induction a with
 | nil=>simp[IV]
 | cons t a ih=>simp only[IV,ih,List.mem_cons,forall_eq_or_imp]
theorem Gx.s {t:Re} (h:Gx P t):t.kind=2->P t.set:=by cases t;exact h.1
theorem Gx.a {t:Re} (h:Gx P t):∀x∈t.args,Gx P x:=by cases t;exact P9.1 h.2
end
end Go.Proofs
namespace Go.Proofs
open Go Go.Eng Go.Sort
theorem MI {α:Type} [DecidableEq α]:∀{l m:List α},l.Nodup->(∀x∈l,x∈m)->l.length<=m.length
 | [],_,_,_=>Nat.zero_le _
 | x::l,m,hd,h=>by
  have a:=List.nodup_cons.1 hd;have b:=h x List.mem_cons_self;have d:=MI (l:=l) (m:=m.erase x) a.2 λy c=>(List.mem_erase_of_ne (show y≠x from λe=>a.1 (by rw[<-e];exact c))).2 (h y (List.mem_cons_of_mem _ c));rw[List.length_erase_of_mem b] at d;have:=List.length_pos_of_mem b;simp only[List.length_cons];omega
structure FirstAt (l:List (List Bool)) (ks:List (List Bool)) (js:List Nat):Prop where
 len:js.length=ks.length
 lt:js.Pairwise (· < ·)
 at':∀(k j:Nat) key,js[k]?=some j->ks[k]?=some key->l[j]?=some key∧∀i,i<j->l[i]?≠some key
theorem RS (l:List (List Bool)):∃g,FirstAt l (DX l) g∧(∀j∈g,j<l.length)∧∀m∈l,m∈DX l:=by
 suffices h:∀n,n<=l.length->∃g,FirstAt (l.take n) (DX (l.take n)) g∧(∀j∈g,j<n)∧∀m∈l.take n,m∈DX (l.take n) by
  have:=h l.length (Nat.le_refl _)
  rwa [List.take_length] at this
 intro n
 induction n with
 | zero=>intro _;exact ⟨[],⟨O,List.Pairwise.nil,λk j c h=>by simp at h⟩,λj h=>(by cases h),λm h=>(by simp at h)⟩
 | succ n ih=>
  intro hn;obtain ⟨g,o,t,y⟩:=ih qO;obtain ⟨x,B⟩:=AK (l:=l) (i:=n) qO;rw[Ec B,IN];have u:(l.take n).length=n:=by simp;omega
  have e:∀(i:Nat) c,i<n->((l.take n++[x])[i]?=some c↔(l.take n)[i]?=some c):=λi c hi=>by rw[List.getElem?_append_left qO]
  unfold Hh;split
  .rename_i f
   refine ⟨g,⟨o.len,o.lt,λk j c d p=>?_⟩,λj z=>by have:=t j z;omega,λm h=>?_⟩
   .have q:=t j (List.mem_of_getElem? d);obtain ⟨r,v⟩:=o.at' k j c d p;exact ⟨(e j c q).2 r,λi hi w=>v i hi ((e i c qO).1 w)⟩
   .rcases List.mem_append.1 h with d|d
    .exact y m d
    .rw[List.mem_singleton] at d;rw[d];exact f
  .rename_i f
   refine ⟨g++[n],⟨by simp[o.len],?_,λk j c d p=>?_⟩,λj z=>?_,λm h=>?_⟩
   .rw[List.pairwise_append];exact ⟨o.lt,List.pairwise_singleton _ _,λa C b s=>by rw[List.mem_singleton] at s;subst s;exact t a C⟩
   .rcases Nat.lt_or_ge k g.length with r|r
    .rw[List.getElem?_append_left r] at d;rw[List.getElem?_append_left (by rw[<-o.len];exact r)] at p;have q:=t j (List.mem_of_getElem? d);obtain ⟨v,w⟩:=o.at' k j c d p;exact ⟨(e j c q).2 v,λi hi A=>w i hi ((e i c qO).1 A)⟩
    .rw[List.getElem?_append_right r] at d;rw[List.getElem?_append_right (by rw[<-o.len];exact r)] at p;have v:=AG d;simp at v;rw[show k - g.length=0 by omega] at d;rw[show k - (DX (l.take n)).length=0 by have:=o.len;omega] at p;simp at d p;subst d;subst p;refine ⟨by rw[List.getElem?_append_right qO,u,Nat.sub_self];rfl,λi hi w=>f (y _ (List.mem_of_getElem? ((e i _ hi).1 w)))⟩
   .rcases List.mem_append.1 z with d|d
    .have:=t j d;omega
    .rw[List.mem_singleton] at d;omega
   .rcases List.mem_append.1 h with d|d
    .exact List.mem_append_left _ (y m d)
    .exact List.mem_append_right _ d
theorem NU {c:List Sp} {m:Int} (h:Canon c) (b:Cq c m=true) (g:∀r,0<=r->r<m->Cq c r=false):c≠[]∧BM c=m:=by
 cases c with
 | nil=>cases b
 | cons s l=>
  refine ⟨λe=>(by cases e),?_⟩;have d:=h.head;unfold EL at d;show s.1=m;rcases Int.lt_trichotomy s.1 m with a|a|a
  .have:=g s.1 qO a;have f:Cq (s::l) s.1=true:=F0.2 ⟨s,List.mem_cons_self,Int.le_refl _,d.2.1⟩;rw[this] at f;cases f
  .exact a
  .rw[Ga h a] at b;cases b
structure Parted (ll cs:List (List Sp)):Prop where
 can:∀c∈cs,Canon c
 part:RG cs
 heads:RM cs
 mark:∀(k:Nat) c r,cs[k]?=some c->0<=r->r<=1114111->(Cq c r=true↔BQ ll r=BQ ll (BM c))
 low:∀c∈cs,0<=BM c∧BM c<=1114111
 inj:∀(i j:Nat) c d,cs[i]?=some c->cs[j]?=some d->BQ ll (BM c)=BQ ll (BM d)->i=j
theorem Me.parted {u cs:List (List Sp)} (h:Me u cs) (L:∀s∈u.flatten,EL s):Parted u cs:=by
 obtain ⟨p,S,hl,hm⟩:=h;obtain ⟨U,C,hb,T⟩:=RS (p.map (BQ u));have n:∀(k:Nat) c,cs[k]?=some c->∃f j lo,(DX (p.map (BQ u)))[k]?=some f∧U[k]?=some j∧p[j]?=some lo∧BQ u lo=f∧GG c (λr=>decide (BQ u r=f))∧c≠[]∧BM c=lo∧0<=lo∧lo<=1114111:=by
  intro k c o;obtain ⟨f,w⟩:=AK (l:=DX (p.map (BQ u))) (i:=k) (by have:=AG o;omega);obtain ⟨j,t⟩:=AK (l:=U) (i:=k) (by have:=AG w;have:=C.len;omega);obtain ⟨F,y⟩:=C.at' k j f t w;rw[List.getElem?_map] at F;obtain ⟨lo,g,Q⟩:=Option.map_eq_some_iff.1 F;have A:=hm k f c w o;have G:=EC S L (List.mem_of_getElem? g);obtain ⟨e1,e2⟩:=NU (m:=lo) A.1 (by rw[A.2 lo G.1 G.2];exact decide_eq_true Q) λr E J=>by
   rw[A.2 r E qO,decide_eq_false_iff_not];intro hr;obtain ⟨i,li,B,H,_,h6⟩:=Hr S L j (by have:=AG g;omega) r E (by rw[Tk g];exact J);have ac:i<j:=by
    rcases Nat.lt_or_ge i j with h7|h7
    .exact h7
    .exfalso;have h8:lo<=li:=by
      rcases Nat.lt_or_ge j i with W|W
      .have q:=AG g;have v:=AG B;rw[List.getElem?_eq_getElem q] at g;rw[List.getElem?_eq_getElem v] at B;cases g;cases B;exact Int.le_of_lt (List.pairwise_iff_getElem.1 S.1 j i q v W)
      .obtain rfl:i=j:=qO
       rw[g] at B;cases B;exact Int.le_refl _
     omega
   exact y i ac (by rw[List.getElem?_map,B,Option.map_some,<-h6,hr])
  exact ⟨f,j,lo,w,t,g,Q,A,e1,e2,G.1,G.2⟩
 have Z:∀(i j:Nat) f,(DX (p.map (BQ u)))[i]?=some f->(DX (p.map (BQ u)))[j]?=some f->i=j:=by
  intro i j f hi t;obtain ⟨a,V⟩:=AK (l:=U) (i:=i) (by have:=AG hi;have:=C.len;omega);obtain ⟨b,D⟩:=AK (l:=U) (i:=j) (by have:=AG t;have:=C.len;omega);obtain ⟨F,y⟩:=C.at' i a f V hi;obtain ⟨x,B⟩:=C.at' j b f D t;have af:a=b:=by
   rcases Nat.lt_trichotomy a b with H|H|H
   .exact absurd F (B a H)
   .exact H
   .exact absurd x (y b H)
  subst af;have v:=AG V;have q:=AG D;rw[List.getElem?_eq_getElem v] at V;rw[List.getElem?_eq_getElem q] at D;have e:=(Option.some.inj V).trans (Option.some.inj D).symm;rcases Nat.lt_trichotomy i j with x|x|x
  .have:=List.pairwise_iff_getElem.1 C.lt i j v q x;omega
  .exact x
  .have:=List.pairwise_iff_getElem.1 C.lt j i q v x;omega
 have K:∀(i j:Nat) c d,cs[i]?=some c->cs[j]?=some d->BQ u (BM c)=BQ u (BM d)->i=j:=by
  intro i j c d o hd Q;obtain ⟨f,_,lo,F,_,_,y,_,_,x,_⟩:=n i c o;obtain ⟨key',_,ah,X,_,_,ae,_,_,ab,_⟩:=n j d hd;rw[x,ab,y,ae] at Q;subst Q;exact Z i j f F X
 have M:∀(k:Nat) c r,cs[k]?=some c->0<=r->r<=1114111->(Cq c r=true↔BQ u r=BQ u (BM c)):=by
  intro k c r o E J;obtain ⟨f,_,lo,_,_,_,y,A,_,x,_⟩:=n k c o;rw[A.2 r E J,decide_eq_true_eq,x,y]
 refine ⟨?_,?_,?_,M,?_,K⟩
 .intro c o;obtain ⟨k,w⟩:=List.getElem?_of_mem o;obtain ⟨_,_,_,_,_,_,_,A,_⟩:=n k c w;exact A.1
 .intro r E J;obtain ⟨lo,g,ag⟩:=Qm S L E J;have aa:=T (BQ u lo) (List.mem_map.2 ⟨lo,g,O⟩);obtain ⟨k,w⟩:=List.getElem?_of_mem aa;obtain ⟨c,o⟩:=AK (l:=cs) (i:=k) (by have:=AG w;omega);have A:=hm k _ c w o;have F:Cq c r=true:=by rw[A.2 r E J];exact decide_eq_true ag
  have I:∀(j:Nat) d,cs[j]?=some d->Cq d r=true->j=k:=λj d hd y=>
   K j k d c hd o (((M j d r hd E J).1 y).symm.trans ((M k c r o E J).1 F))
  have hkl:=AG o;rw[show cs=cs.take k++c::cs.drop (k+1) by rw[<-Gm o,List.take_append_drop],List.countP_append,List.countP_cons,F];have z1:(cs.take k).countP (λl=>Cq l r)=0:=by
   rw[List.countP_eq_zero];intro d hd y;obtain ⟨j,t⟩:=List.getElem?_of_mem hd;have q:=AG t;simp at q;rw[List.getElem?_take_of_lt qO] at t;have:=I j d t y;omega
  have z2:(cs.drop (k+1)).countP (λl=>Cq l r)=0:=by
   rw[List.countP_eq_zero];intro d hd y;obtain ⟨j,t⟩:=List.getElem?_of_mem hd;rw[List.getElem?_drop] at t;have:=I _ d t y;omega
  rw[z1,z2];rfl
 .intro k w;obtain ⟨c,o⟩:=AK w;obtain ⟨_,j,lo,_,t,g,_,_,ad,hh,h0,_⟩:=n k c o;have R:cs.getD k []=c:=by simp[List.getD,o]
  refine ⟨by rw[R];exact ad,?_⟩;rw[R,hh];cases k with
  | zero=>show (-1:Int)<lo;omega
  | succ k=>
   obtain ⟨d,hd⟩:=AK (l:=cs) (i:=k) qO;obtain ⟨_,j',ah,_,N,z,_,_,_,ai,_⟩:=n k d hd;have P:cs.getD k []=d:=by simp[List.getD,hd]
   show BM (cs.getD k [])<lo;rw[P,ai];have a1:=AG t;have a2:=AG N;rw[List.getElem?_eq_getElem a1] at t;rw[List.getElem?_eq_getElem a2] at N;cases t;cases N;have W:=List.pairwise_iff_getElem.1 C.lt k (k+1) a2 a1 qO;have b1:=AG g;have b2:=AG z;rw[List.getElem?_eq_getElem b1] at g;rw[List.getElem?_eq_getElem b2] at z;cases g;cases z;exact List.pairwise_iff_getElem.1 S.1 _ _ b2 b1 W
 .intro c o;obtain ⟨k,w⟩:=List.getElem?_of_mem o;obtain ⟨_,_,lo,_,_,_,_,_,_,x,B,H⟩:=n k c w;rw[x];exact ⟨B,H⟩
end Go.Proofs
namespace Go.Proofs
open Go Go.Eng Go.Sort
set_option maxRecDepth 100000
def Gc (s:List (List Sp)) (t:Re):List (List Sp):=if t.kind=2∧t.set∉s then s++[t.set] else s
def C' (t:Re):List (List Sp):=(J2 t).foldl Gc []
theorem Jq {x:List Sp}:∀{l:List Re} {s:List (List Sp)},x∈l.foldl Gc s↔x∈s∨∃t∈l,t.kind=2∧x=t.set
  | [],s=>qP
  | t::l,s=>by
    rw[List.foldl_cons,Jq];have e:x∈Gc s t↔x∈s∨(t.kind=2∧x=t.set):=by
      unfold Gc;split
      · rename_i h
        simp[h.1]
      · rename_i h
        constructor
        · exact .inl
        · rintro (h1|⟨h1,rfl⟩)
          · exact h1
          · exact Classical.byContradiction λh2=>h ⟨h1,h2⟩
    rw[e];constructor
    · rintro ((h|h)|⟨u,hu,h⟩)
      · exact .inl h
      · exact .inr ⟨t,qP,h⟩
      · exact .inr ⟨u,by simp[hu],h⟩
    · rintro (h|⟨u,hu,h⟩)
      · exact .inl (.inl h)
      · rcases List.mem_cons.1 hu with rfl|hu
        · exact .inl (.inr h)
        · exact .inr ⟨u,hu,h⟩
theorem Mq:∀(l:List Re) (s:List (List Sp)),(l.foldl Gc s).length<=s.length+l.length
 | [],s=>qP
 | t::l,s=>by
  have h:=Mq l (Gc s t);have h2:(Gc s t).length<=s.length+1:=by
   unfold Gc;split
   .simp
   .omega
  rw[List.foldl_cons,List.length_cons];omega
mutual
theorem Mp {P:List Sp->Prop}:∀{t:Re},(∀u∈J2 t,u.kind=2->P u.set)->Gx P t
 | .mk k s a m x g,h=>by
  rw[LD] at h;exact ⟨h (.mk k s a m x g) qP,Kx λu b=>h u (by simp only[List.mem_cons];exact .inr b)⟩
theorem Kx {P:List Sp->Prop}:∀{b:List Re},(∀u∈E5 b,u.kind=2->P u.set)->IV P b
 | [],_=>trivial
 | t::b,h=>by
  simp only[E5,List.mem_append] at h;exact ⟨Mp λu a=>h u (.inl a),Kx λu a=>h u (.inr a)⟩
end
mutual
theorem L9 {P:List Sp->Prop}:∀{t:Re},Gx P t->∀u∈J2 t,u.kind=2->P u.set
 | .mk k s a m x g,h,u,b=>by
  rw[LD] at b;rcases List.mem_cons.1 b with rfl|b
  .exact h.1
  .exact KM h.2 u b
theorem KM {P:List Sp->Prop}:∀{b:List Re},IV P b->∀u∈E5 b,u.kind=2->P u.set
 | [],_,u,a=>by simp[E5] at a
 | t::b,h,u,a=>by
  simp only[E5,List.mem_append] at a;rcases a with a|a
  .exact L9 h.1 u a
  .exact KM h.2 u a
end
theorem QW {P:List Sp->Prop} {t:Re} (h:∀s∈C' t,P s):Gx P t:=
 Mp λu b a=>h u.set (Jq.2 (.inr ⟨u,b,a,O⟩))
theorem Mo {P:List Sp->Prop} {t:Re} (h:Gx P t):∀s∈C' t,P s:=λs hs=>by
 rcases Jq.1 hs with a|⟨u,b,c,rfl⟩
 .cases a
 .exact L9 h u b c
theorem Lw (t:Re):(C' t).length<=t.size:=by
 have:=Mq (J2 t) [];rw[L_] at this;simpa[C'] using this
theorem Rn:∀(l:List (Int×Int)) (p:Option Int),EG p l=0->∀s∈l,EL s:=by
 intro l
 induction l with
 | nil=>simp
 | cons a l ih=>
  intro p h s hs;rw[Ds] at h;by_cases b:FB a=false
  .rw[if_pos b] at h;simp at h
  rw[if_neg b] at h;have c:EG (some a.2) l=0:=by
   split at h
   .split at h
    .simp at h
    .exact h
   .simpa using h
  rcases List.mem_cons.1 hs with rfl|hs
  .simp[FB] at b;exact ⟨qO,qO,qO⟩
  .exact ih _ c s hs
theorem Jj {s:List Sp} (h:BT s=0):(∀p∈s,EL p)∧s.length<=16:=by
 unfold BT at h;split at h
 .cases h
 .exact ⟨Rn _ _ h,qO⟩
theorem HA:∀{a:List (List Sp)},(∀l∈a,BT l=0)->IB a=0
 | [],_=>rfl
 | l::a,h=>by
  unfold IB;rw[if_neg (by simp[h l qP])];exact HA λx b=>h x (by simp[b])
theorem RQ {a:List (List Sp)} (h:∀l∈a,BT l=0):∀s∈a.flatten,EL s:=λs hs=>by
 obtain ⟨l,c,b⟩:=List.mem_flatten.1 hs;exact (Jj (h l c)).1 s b
theorem RR {a:List (List Sp)} (h:∀l∈a,BT l=0):a.flatten.length<=16*a.length:=by
 induction a with
 | nil=>simp
 | cons l a ih=>
  have h1:=(Jj (h l qP)).2;have h2:=ih λx b=>h x (by simp[b]);rw[List.flatten_cons,List.length_append,List.length_cons];omega
theorem TN {b cs:List (List Sp)} {c:Int} (h:Me b cs) (d:∀s∈b.flatten,EL s) (j:0<=c) (f:c<=1114111):∃cl∈cs,∀s∈b,Cq s c=Cq s (BM cl):=by
 have g:=h.parted d;have h2:=g.part c j f;obtain ⟨cl,i,e⟩:=List.countP_pos_iff.1 (show 0<cs.countP λl=>Cq l c by omega);obtain ⟨k,m⟩:=List.mem_iff_getElem?.1 i;have a:=(g.mark k cl c m j f).1 e;refine ⟨cl,i,λs hs=>?_⟩;unfold BQ at a;exact List.map_inj_left.1 a s hs
theorem Rj {b cs:List (List Sp)} (h:Me b cs) (a:∀s∈b.flatten,EL s):∀cl∈cs,cl≠[]∧0<=BM cl∧BM cl<=1114111:=λcl e=>by
 have d:=h.parted a;obtain ⟨k,f⟩:=List.mem_iff_getElem?.1 e;have c:=(d.heads k (AG f)).1;rw[List.getD_eq_getElem?_getD,f] at c;exact ⟨c,d.low cl e⟩
end Go.Proofs
namespace Go.Proofs
open Go Go.Eng Go.Sort
set_option maxRecDepth 100000
theorem La:∀{a:List (List Sp)} {k:Nat} {l:List Sp},(∀x∈a.take k,BT x=0)->a[k]?=some l->BT l≠0->IB a=BT l
 | [],_,_,_,h,_=>by simp at h
 | x::a,0,l,_,h,hc=>by simp at h;subst h;unfold IB;rw[if_pos hc]
 | x::a,k+1,l,hz,h,hc=>by
  unfold IB;rw[if_neg (by simpa using hz x qP)];exact La (k:=k) (λy b=>hz y (by simp[b])) (by simpa using h) hc
theorem IA:∀{a:List (List Sp)},(∀x∈a,BT x=0)->IB a=0
 | [],_=>rfl
 | x::a,h=>by
  unfold IB;rw[if_neg (by simpa using h x qP)];exact IA λy b=>h y (by simp[b])
theorem Qo {w:World} {base e size n c:Nat} {a:Option Addr} {xs:List Value} (h:w.ownsRow base e size (.slice a n c) n xs):n<=c∧c<=9223372036854775807:=by
 rcases h.2 with ⟨i,h0⟩|⟨g,cap,cur,f,_,_,d,b,_⟩
 .simp only[Value.slice.injEq] at i;omega
 .simp only[Value.slice.injEq] at f;obtain ⟨_,_,rfl⟩:=f;exact ⟨d,b⟩
def Up (w:World) (r:Value) (out:List (List Sp)) (e:Int):Prop:=∃a c,r=.tuple #[.slice a out.length c,.int .i64 e]∧Ck w (.slice a out.length c) out
theorem GL (w:World):Ck w (.slice none 0 0) []:=⟨[],BO.nil _ _ _ _,O,λi u l h=>by simp at h⟩
theorem Qg {a:List (List Sp)} {i:Nat} {l:List Sp} (h:a[i]?=some l):IY (a.take (i+1)).flatten=IY (a.take i).flatten++l.flatMap λs=>[s.1,s.2+1]:=by
 rw[Hw h];unfold IY;rw[List.flatMap_append,List.cons_append]
theorem Qh {l:List Sp} {j:Nat} {s:Sp} (h:l[j]?=some s):(l.take (j+1)).flatMap (λs=>[s.1,s.2+1])=(l.take j).flatMap (λs=>[s.1,s.2+1])++[s.1,s.2+1]:=by
 rw[Ec h,List.flatMap_append];simp
theorem Ri {p q:List Int} {i:Nat} {c:Int} (d:q=p∨q=p++[1114112]) (a:q[i]?=some c) (e:∀x∈p,x<=1114111):(c<=1114111->p[i]?=some c)∧(1114111<c->p.length<=i):=by
 rcases d with rfl|rfl
 .exact ⟨λ_=>a,λh=>absurd (e c (List.mem_of_getElem? a)) qO⟩
 .rcases Nat.lt_or_ge i p.length with b|b
  .rw[List.getElem?_append_left b] at a;exact ⟨λ_=>a,λh=>absurd (e c (List.mem_of_getElem? a)) qO⟩
  .rw[List.getElem?_append_right b] at a;have f:=AG a;simp at f;rw[show i - p.length=0 by omega] at a;simp at a;exact ⟨λh=>qO,λ_=>b⟩
theorem Oy {p q:List Int} (a:q=p∨q=p++[1114112]):p.length<=q.length∧q.length<=p.length+1:=by
 rcases a with rfl|rfl<;>simp
theorem Rg {p q:List Int} {i:Nat} {c:Int} (d:q=p∨q=p++[1114112]) (hi:i<=p.length) (a:q[i]?=some c):nx p i=c:=by
 unfold nx;rcases d with rfl|rfl
 .rw[a];rfl
 .rcases Nat.lt_or_ge i p.length with b|b
  .rw[List.getElem?_append_left b] at a;rw[a];rfl
  .rw[List.getElem?_append_right b] at a;rw[show i - p.length=0 by omega] at a;simp at a;rw[List.getElem?_eq_none b];simpa using a
theorem Rh {p q:List Int} {i:Nat} (a:q=p∨q=p++[1114112]) (hi:q.length<=i):nx p i=1114112:=by
 have:=Oy a;unfold nx;rw[List.getElem?_eq_none qO];rfl
theorem CSt.on {w:World} {base n:Nat} {b:Value} {vs:List Value} {a:List (List Sp)} (h:CSt w base b vs a) (c:n=a.length):w.ownsRow base PA 1 b n vs:=by subst c;exact h.o
theorem QP {a:List (List Sp)} {c:List (List Bool)} {m:List Bool} (hl:a.length=c.length) (f:m∉c):∀(j:Nat) q,(a++[[]])[j]?=some q->a[j]?=some q∨(j=c.length∧q=[]∧m∉c):=by
 intro j q b;rcases Nat.lt_or_ge j a.length with d|d
 .left;rwa [List.getElem?_append_left d] at b
 .right;rw[List.getElem?_append_right d] at b;have e:=AG b;simp at e;rw[show j - a.length=0 by omega] at b;simp at b;exact ⟨qO,by simp[b],f⟩
theorem QQ {vs:List Value} {z:Nat} (h:∀(i:Nat) v b,vs[i]?=some v->v.ownBlock=some b->b<z):∀(i:Nat) v b,(vs++[.slice none 0 0])[i]?=some v->v.ownBlock=some b->b<z:=by
 intro i v b a d;rcases Nat.lt_or_ge i vs.length with c|c
 .rw[List.getElem?_append_left c] at a;exact h i v b a d
 .rw[List.getElem?_append_right c] at a;have e:=AG a;simp at e;rw[show i - vs.length=0 by omega] at a;simp at a;subst a;cases d
def DH (ll:List (List Sp)) (c:Int) (e:Nat):List Int:=(BQ (ll.take e) c).map LY++List.replicate (ll.length - e) 0
theorem MN (a:List (List Sp)) (c:Int):DH a c 0=List.replicate a.length 0:=by simp[DH,BQ]
theorem NI {a:List (List Sp)} {c:Int} {e:Nat} (h:e<=a.length):(DH a c e).length=a.length:=by
 simp[DH,BQ];omega
theorem MO {a:List (List Sp)} {c:Int} {e:Nat} {l:List Sp} (h:a[e]?=some l):DH a c (e+1)=(DH a c e).set e (LY (Cq l c)):=by
 have hl:=AG h;unfold DH BQ;rw[Ec h,show a.length - e=(a.length - (e+1))+1 by omega,List.replicate_succ,List.map_append,List.map_append,List.append_assoc];have b:(((a.take e).map λl=>Cq l c).map LY).length=e:=by simp;omega
 rw[List.set_append_right _ _ qO,b,Nat.sub_self];simp
theorem MP {a:List (List Sp)} {c:Int} {e:Nat} {l:List Sp} (h:a[e]?=some l) (hi:Cq l c=false):DH a c (e+1)=DH a c e:=by
 have hl:=AG h;unfold DH BQ;rw[Ec h,show a.length - e=(a.length - (e+1))+1 by omega,List.replicate_succ,List.map_append,List.map_append,List.append_assoc];simp[hi,LY]
theorem NJ (a:List (List Sp)) (c:Int):DH a c a.length=(BQ a c).map LY:=by simp[DH]
theorem TL (a:World) (g c n:Nat) (l q:List Int) (d:Sort.Holds (Value.int .i64) a g 0 l.toArray) (f:l.length<=c∧c<=9223372036854775807) (e:l.length=n) (b:q=Lib.compact l) :
 CB prog 116 #[.slice (some ⟨g,0,none⟩) n c] a λr w=>r=.slice (some ⟨g,0,none⟩) q.length c∧A2 w r q∧Chg (λx=>x=g) a w:=by
 subst e;subst b;exact TM a g c l d f
theorem TP (w0:World) (v:Value) (ll:List (List Sp)) (h:Ck w0 v ll) (hL:ll.flatten.length≤1048576) (hL2:ll.length≤1048576) :
  CB prog 81 #[v] w0 fun r w=>(∃out e,N0 ll out e∧Up w r out e)∧Al w0 w:=by
 obtain ⟨a,c,rfl,_,hle⟩:=h.form;obtain ⟨base,ef⟩:∃base,base=w0.heap.size:=⟨_,rfl⟩;refine qR func81 rfl ntmps81 rfl (fun E=>(Y (qA _ rfl (qA _ rfl (AA (AI (Y (qM _ rfl (qV (AL underlying69 rfl) (qM _ rfl (AA (AO (Ap (fun nn_ σ W1=>∃(k:Nat),(∃jj_,σ=BK jj_ [(0,(.slice a ll.length c)),(23,(.slice a ll.length c)),(24,(I6 (ll.length:Int))),(25,(I6 (k:Int)))])∧Chg Ab w0 W1∧(k≤ll.length)∧(∀l∈ll.take k,BT l=0)∧nn_=ll.length - k) (n:=ll.length - 0) ?_ ?_)))))))))))))
 ·exact ⟨0,Ac.out ⟨rfl,rfl,rfl,rfl,trivial⟩,E,Nat.zero_le _,qP,rfl⟩
 ·clear E;rintro _ _ W1 ⟨k,⟨j1,rfl⟩,E,hk,hz,rfl⟩;refine Y (qV (A0 rfl rfl) (AA (AI (qC rfl (fun en=>?_) (fun en=>?_)))))
  ·obtain ⟨l,hx⟩:=AK (l:=ll) (i:=k) qO;obtain ⟨b,o,rfl,b5⟩:=Ei h qO;obtain ⟨ra,rc,af,ao⟩:=b5 k l hx;refine AM (AB (AI (AO (Y (qV (AC (b:=b) (o:=o) (len:=ll.length) (cap:=c) (i:=k) (o':=o+k) rfl rfl rfl underlying69 C4 qO qO) (qV (AE rfl DW (E.cell (fun f=>f) af)) (qA _ rfl (AA (Y (qM _ rfl (qE rfl (AV func63 kQ kQ rfl) (L1 _ _ l (ao.ext E)) ?_)))))))))));rintro _ w9 ⟨rfl,X9⟩;replace E:=E.ext X9;refine qA _ rfl (AA (Y (qM _ rfl (qV (CE rfl rfl) (AA (qC rfl (fun hc=>?_) (fun hc=>?_)))))))
   ·refine Y (qM _ rfl (qA _ rfl (qA _ rfl (AA (AS (A1 (AU (AU (A1 (AU (B_ results81 (v:=(.slice none 0 0)) (v':=(.int .i64 (BT l))) rfl rfl ?_)))))))))));exact ⟨⟨[],BT l,.inl ⟨by rw[La hz hx hc];exact hc,(La hz hx hc).symm,rfl⟩,none,0,rfl,GL _⟩,E⟩
   ·refine AM (AN (AB (AJ (qV (Ar rfl rfl (A5 qO)) (qM _ rfl (AA (AB ?_)))))));exact ⟨ll.length - (k+1),qO,k+1,Ac.out ⟨rfl,rfl,rfl,rfl,trivial⟩,E,qO,(fun y hy=>by rw[Ec hx] at hy;rcases List.mem_append.1 hy with h1|h1;exact hz y h1;rw[List.mem_singleton] at h1;subst h1;omega),rfl⟩
  ·have e7:k=ll.length:=qO
   rw[e7,List.take_length] at hz;have bh:=IA hz;have a6:∀s∈ll.flatten,EL s:=fun s hs=>by obtain ⟨l,hl,hs⟩:=List.mem_flatten.1 hs;exact (LV (hz l hl)).1.ok s hs
   refine Ak (AP (AP (Ae (AB (Y (Ah (ps:=[(0,(I6 0))]) (c:=#[(I6 0)]) qD rfl underlying22 Ad BY qD qD qK ?_))))));intro bq wq Nq;have Fq:=Nq.ge E;replace E:=E.ext Nq.ext;have Bq:=Nq.blk;refine qA _ rfl (AA (AI (Y (qM _ rfl (qV (AL underlying69 rfl) (qM _ rfl (AA (AO ?_))))))));have b4:=FL (base:=base) Bq qO;have du:base≤wq.heap.size:=by have:=E.size;omega
   refine Ap (fun nn_ σ W4=>∃(i:Nat) (la:Option Addr) (lc:Nat) (n:Nat) (rs:List Int),(∃jj_,σ=BK jj_ [(0,(.slice a ll.length c)),(36,(.slice a ll.length c)),(37,(I6 (ll.length:Int))),(38,(I6 (i:Int))),(7,(.slice la n lc))])∧Chg Ab w0 W4∧(i≤ll.length)∧(rs=IY (ll.take i).flatten)∧(n=rs.length)∧(W4.ownsRow base Ta 1 (.slice la n lc) n (rs.map (Value.int .i64)))∧(base≤W4.heap.size)∧nn_=ll.length - i) (n:=ll.length - 0) ?_ ?_
   ·exact ⟨0,some ⟨bq,0,none⟩,1,1,[0],Ac.out ⟨rfl,rfl,rfl,rfl,rfl,trivial⟩,E,Nat.zero_le _,rfl,rfl,b4,du,rfl⟩
   ·clear E;rintro _ _ W4 ⟨i,la,lc,n,rs,⟨j4,rfl⟩,E,hi,b7,hn,aj,fr,rfl⟩;refine Y (qV (A0 rfl rfl) (AA (AI (qC rfl (fun cy=>?_) (fun cy=>?_)))))
    ·obtain ⟨l,hx⟩:=AK (l:=ll) (i:=i) qO;obtain ⟨b,o,rfl,b5⟩:=Ei h qO;obtain ⟨ra,rc,af,ao⟩:=b5 i l hx;have e0:=Sv ll (i+1);rw[Hw hx,List.length_append] at e0;have dn:=I3 (ll.take i).flatten;rw[←b7] at dn;refine AM (AB (AI (AO (Y (qV (AC (b:=b) (o:=o) (len:=ll.length) (cap:=c) (i:=i) (o':=o+i) rfl rfl rfl underlying69 C4 qO qO) (qV (AE rfl DW (E.cell (fun f=>f) af)) (qA _ rfl (AA (Y (qM _ rfl (qV (AL underlying37 rfl) (qM _ rfl (AA (AO (Ap (fun nn_ σ W6=>∃(j:Nat) (bw:Option Addr) (cd:Nat) (n2:Nat),(∃jj_,σ=BK jj_ [(0,(.slice (some ⟨b,o,none⟩) ll.length c)),(36,(.slice (some ⟨b,o,none⟩) ll.length c)),(37,(I6 (ll.length:Int))),(38,(I6 (i:Int))),(42,(.slice ra l.length rc)),(43,(I6 (l.length:Int))),(44,(I6 (j:Int))),(7,(.slice bw n2 cd))])∧Chg Ab w0 W6∧(j≤l.length)∧(n2=rs.length+2*j)∧(W6.ownsRow base Ta 1 (.slice bw n2 cd) n2 ((rs++(l.take j).flatMap fun s=>[s.1,s.2+1]).map (Value.int .i64)))∧(base≤W6.heap.size)∧nn_=l.length - j) (n:=l.length - 0) ?_ ?_)))))))))))))))
     ·exact ⟨0,la,lc,n,Ac.out ⟨rfl,rfl,rfl,rfl,rfl,rfl,rfl,rfl,trivial⟩,E,Nat.zero_le _,qO,(by simpa using aj),fr,rfl⟩
     ·clear E;rintro _ _ W6 ⟨j,bw,cd,n2,⟨j6,rfl⟩,E,hj,hn2,ac,ah,rfl⟩;refine Y (qV (A0 rfl rfl) (AA (AI (qC rfl (fun c9=>?_) (fun c9=>?_)))))
      ·obtain ⟨s,hs⟩:=AK (l:=l) (i:=j) qO;obtain ⟨sb,so,rfl,ex⟩:=CZ ao qO;have fm:=a6 s (List.mem_flatten.2 ⟨l,List.mem_of_getElem? hx,List.mem_of_getElem? hs⟩);unfold EL at fm;have ec:=ac;refine AM (AB (AI (AO (Y (qV (AC (b:=sb) (o:=so) (len:=l.length) (cap:=rc) (i:=j) (o':=so+j*2) rfl rfl rfl underlying37 CJ qO qO) (qV (Aa rfl GF CJ rfl ((ex j s hs).ext E)) (A6 (v:=(.agg #[(I6 s.1),(I6 s.2)])) (c:=#[(I6 s.1),(I6 s.2)]) (n:=2) qD FF rfl CJ rfl rfl rfl qS ?_)))))));intro bt wt Nt;have Ft:=Nt.ge E;replace ac:=Am ac Nt.ext;replace ah:=Nat.le_trans ah Nt.ext.size;replace E:=E.ext Nt.ext;have Bt:=Nt.blk;refine AA (AJ (qM _ rfl (qF bt 0 0 rfl underlying94 rfl Ad rfl (qV (AE rfl Ai (Bt.cell rfl)) (qF bt 0 1 rfl underlying94 rfl Ad rfl (qV (AE rfl Ai (Bt.cell rfl)) (qV (Ar rfl rfl (A5 qO)) (Ah (ps:=[(0,(I6 s.1)),(1,(I6 (s.2+1)))]) (c:=#[(I6 s.1),(I6 (s.2+1))]) qD rfl underlying22 Ad BY qD qD qK ?_))))))));intro b8 w8 N8;have F8:=N8.ge E;have O8_bt:=N8.lt Bt;replace Bt:=N8.keep Bt;replace ac:=Am ac N8.ext;replace ah:=Nat.le_trans ah N8.ext.size;replace E:=E.ext N8.ext;have B8:=N8.blk;refine BU (base:=base) (n:=n2) (m:=2) (xs:=((rs++(l.take j).flatMap fun s=>[s.1,s.2+1]).map (Value.int .i64))) (news:=[(I6 s.1),(I6 (s.2+1))]) (size:=1) (bytes:=8) (v:=(.slice bw n2 cd)) qD underlying22 Ad Dj BY rfl qD rfl ac rfl (rfl) (B8.cells rfl) qS (by unfold maxLen;omega) qO (ah) ?_;intro v9 fg ed dy Dv9;replace E:=E.step dy (fun x hx h=>absurd (ac.lt x h).1 qO);obtain ⟨fh,fo,rfl⟩:=BD ed;refine qA _ rfl (AA (AN (AB (AJ (qV (Ar rfl rfl (A5 qO)) (qM _ rfl (AA (AB ?_))))))));exact ⟨l.length - (j+1),qO,j+1,fh,fo,n2+2,Ac.out ⟨rfl,rfl,rfl,rfl,rfl,rfl,rfl,rfl,trivial⟩,E,qO,qO,(by rw[Qh hs,←List.append_assoc];simpa using ed),Nat.le_trans ah dy.size,rfl⟩
      ·have ew:j=l.length:=qO
       rw[ew,List.take_length] at ac;refine Ak (AP (AP (Ae (AN (AB (AJ (qV (Ar rfl rfl (A5 qO)) (qM _ rfl (AA (AB ?_))))))))));exact ⟨ll.length - (i+1),qO,i+1,bw,cd,n2,IY (ll.take (i+1)).flatten,Ac.out ⟨rfl,rfl,rfl,rfl,rfl,trivial⟩,E,qO,rfl,(by rw[I3,Hw hx,List.length_append];omega),(by rw[Qg hx,←b7];exact ac),ah,rfl⟩
    ·have ff:i=ll.length:=qO
     rw[ff,List.take_length] at b7;have dn:=I3 ll.flatten;rw[←b7] at dn;obtain ⟨dx,eb⟩:n≤lc∧lc≤9223372036854775807:=Qo aj;obtain ⟨g,rfl,hgb,hgc⟩:=BS aj qO;have hgl:=aj.lt g rfl;obtain ⟨q,hq⟩:∃q,q=Lib.compact (rs.mergeSort RC):=⟨_,rfl⟩;obtain ⟨ez,dw⟩:q.Pairwise (· < ·)∧∀x,x∈q↔x∈IY ll.flatten:=by rw[hq,←b7];exact Ji rs
     obtain ⟨p,hP,bp⟩:=Rf a6 ez dw;subst hn;refine Ak (AP (AP (Ae (AB (Y (qM _ rfl (qE rfl (AV func115 kQ kQ rfl) (SN _ base g lc rs aj qO) ?_)))))));rintro _ w31 ⟨rfl,em,d0⟩;replace E:=E.step d0 (fun x hx hm=>absurd (aj.lt g rfl).1 qO);refine AA (Y (qM _ rfl (qE rfl (AV func116 kQ kQ rfl) (TL _ g lc rs.length (rs.mergeSort RC) q em (by simp;omega) qP hq) ?_)));rintro _ ek ⟨rfl,eh,dz⟩;replace E:=E.step dz (fun x hx hm=>absurd (aj.lt g rfl).1 qO);refine qA _ rfl (AA (Y (qA _ rfl (AA (Y (EB GI Cd qD ?_))))));intro bm wm Nm;have Fm:=Nm.ge E;replace E:=E.ext Nm.ext;intro Mm;refine qA _ rfl (AA (AI (Y (qM _ rfl (qV (AL underlying22 rfl) (qM _ rfl (AA (AO ?_))))))));obtain ⟨n1,fk⟩:∃n,n=wm.heap.size:=⟨_,rfl⟩;have fp:CS (fun b=>b=g) wm 1 (.slice (some ⟨g,0,none⟩) q.length lc) (q.map Dh):=CS.mk (eh.ext Nm.ext) rfl;have ey:bm<n1:=by have:=Mm.lt;omega
     have fu:g<bm:=by have:=dz.size;have:=d0.size;have:=Nm.eq;omega
     have e8:w0.heap.size≤n1:=by have:=E.size;omega
     have d3:∀x∈p,x≤1114111:=fun x hx=>(EC hP a6 hx).2;have hpl:p.length≤1114112:=Sc hP.1 (fun x hx=>EC hP a6 hx);have hql:=Oy bp;have eo:∀x∈q,0≤x∧x≤1114112:=fun x hx=>by rcases I2.1 ((dw x).1 hx) with h1|⟨s,hs,h1⟩;omega;have:=a6 s hs;unfold EL at this;omega
     refine Ap (fun nn_ σ W9=>∃(i2:Nat) (ks:List (List Bool)) (aa:List (List Sp)) (vs:List Value) (oa:Option Addr) (oc:Nat) (on:Nat),(∃jj_,σ=BK jj_ [(0,(.slice a ll.length c)),(7,(.slice (some ⟨g,0,none⟩) q.length lc)),(13,(.map (some bm))),(63,(.slice (some ⟨g,0,none⟩) q.length lc)),(64,(I6 (q.length:Int))),(65,(I6 (i2:Int))),(12,(.slice oa on oc))])∧Chg Ab w0 W9∧BZ W9 bm GI Cd (Dp ks 0)∧(GInv ll p i2 ks aa)∧(i2≤p.length)∧(CSt W9 n1 (.slice oa on oc) vs aa)∧(on=aa.length)∧(CS (fun b=>b=g) W9 1 (.slice (some ⟨g,0,none⟩) q.length lc) (q.map Dh))∧(n1≤W9.heap.size)∧nn_=p.length - i2) (n:=p.length - 0) ?_ ?_
     ·exact ⟨0,[],[],[],none,0,0,Ac.out ⟨rfl,rfl,rfl,rfl,rfl,rfl,rfl,trivial⟩,E,Mm,GInv.start hP a6,Nat.zero_le _,CSt.start _ _,rfl,fp,qO,rfl⟩
     ·clear E Mm;rintro _ _ W9 ⟨i2,ks,aa,vs,oa,oc,on,⟨j9,rfl⟩,E,Mm,hG,hi2,hC,aw,hI,db,rfl⟩;refine Y (qV (A0 rfl rfl) (AA (AI (qC rfl (fun dg=>?_) (fun dg=>?_)))))
      ·obtain ⟨c1,dl⟩:=AK (l:=q) (i:=i2) qO;obtain ⟨qb,qo,bs,e6⟩:=Ao (l:=q) hI.at qO;simp only[Option.some.injEq,Addr.mk.injEq,and_true] at bs;obtain ⟨rfl,rfl⟩:=bs;refine AM (AB (AI (AO (Y (qM _ rfl (qV (AC (b:=g) (o:=0) (len:=q.length) (cap:=lc) (i:=i2) (o':=0+i2) rfl rfl rfl underlying22 Ad qO qO) (qV (AE rfl Ai (e6 i2 c1 dl)) (qA _ rfl (qA _ rfl (AA (AI (Y (qM _ rfl (qV (CU rfl rfl) (AA (qC rfl (fun ch=>?_) (fun ch=>?_)))))))))))))))))
       ·have c5:i2=p.length:=by have:=(Ri bp dl d3).2 ch;omega
        have a1:=hG;rw[c5] at a1;have cx:=hC.join;have b6:=hG.cnt;have dv:=hG.len;refine Ak (AP (Pk qD (AP (AP (Ae (AB (AI (Y (qM _ rfl (qV (AL underlying69 rfl) (qM _ rfl (AA (AO (Ap (fun nn_ σ cm=>∃(k3:Nat) (cs:List (List Sp)) (us:List Value),(∃jj_,σ=BK jj_ [(12,(.slice oa on oc)),(133,(I6 (on:Int))),(134,(I6 (k3:Int)))])∧Chg Ab w0 cm∧(k3≤aa.length)∧(JSt cm n1 (.slice oa on oc) us aa cs k3)∧(∀c∈cs,c.length≤16)∧(n1≤cm.heap.size)∧nn_=aa.length - k3) (n:=aa.length - 0) ?_ ?_))))))))))))))
        ·exact ⟨0,[],vs,Ac.out ⟨rfl,rfl,rfl,trivial⟩,E,Nat.zero_le _,cx,qP,db,rfl⟩
        ·clear E;rintro _ _ cm ⟨k3,cs,us,⟨j12,rfl⟩,E,e5,hJ,b2,et,rfl⟩;refine Y (qV (A0 rfl rfl) (AA (AI (qC rfl (fun bc=>?_) (fun bc=>?_)))))
         ·obtain ⟨o1,ag⟩:=AK (l:=aa) (i:=k3) qO;obtain ⟨u1,b9⟩:=AK (l:=us) (i:=k3) (by have:=hJ.len;omega);obtain ⟨⟨ua,uc,rfl⟩,cp⟩:=hJ.rst k3 u1 o1 (Nat.le_refl _) b9 ag;have au:=hJ.o;rw[←aw] at au;obtain ⟨gg,rfl,d5,cu⟩:=BS au qO;have a0:=au.lt gg rfl;have c3:=(a1.ok k3 o1 ag);refine AM (AB (AI (AO (Y (qM _ rfl (qA _ rfl (AA (Y (qM _ rfl (qM _ rfl (qM _ rfl (qM _ rfl (qV (AC (b:=gg) (o:=0) (len:=on) (cap:=oc) (i:=k3) (o':=0+k3) rfl rfl rfl underlying69 C4 qO qO) (qV (AE (v:=(.slice ua o1.length uc)) rfl DW ((by have h1:=(au.cells (g:=gg) rfl) k3 _ b9;rwa [Addr.add_lit] at h1))) (qE rfl (AV func132 kQ kQ rfl) (RF _ _ o1 cp.at qO c3.1) ?_)))))))))))))));rintro _ eu ⟨⟨j1,cf,⟨⟨ja,jc,rfl⟩,c7⟩⟩,a2⟩;replace E:=E.ext a2;obtain ⟨bz,am,d4⟩:=Ig (Am au a2);refine qV (AC (b:=gg) (o:=0) (len:=on) (cap:=oc) (i:=k3) (o':=0+k3) rfl rfl rfl underlying69 C4 qO qO) ?_;have aq:=am;have az:True:=trivial;refine A9 (b:=gg) (o:=0+k3) (c':=bz.setIfInBounds (0+k3) (.slice ja j1.length jc)) (v:=(.slice ja j1.length jc)) rfl rfl rfl C4 am qO (rfl) ?_;intro w14 cq;replace az:=cq;replace E:=cq.step E qQ;replace am:=cq.blk;refine AA (Y (qM _ rfl (qM _ rfl (qV (AC (b:=gg) (o:=0) (len:=on) (cap:=oc) (i:=k3) (o':=0+k3) rfl rfl rfl underlying69 C4 qO qO) (qV (AE rfl DW (am.cell (by rw[Array.getElem?_setIfInBounds_self_of_lt qO]))) ?_)))));refine qV (AL underlying37 rfl) (qV (CU rfl rfl) (AA (qC rfl (fun c2=>?_) (fun c2=>?_))))
          ·refine Y (qA _ rfl (qA _ rfl (AA (AS (A1 (AU (AU (A1 (AU (B_ results81 (v:=(.slice none 0 0)) (v':=(.int .i64 2)) rfl rfl ?_))))))))));obtain ⟨cF,dc,dm⟩:=Ks a1 hP ag cf qO;exact ⟨⟨[],2,.inr ⟨bh,cF,dc,.inl ⟨dm,rfl,rfl⟩⟩,none,0,rfl,GL _⟩,E⟩
          ·refine AM (AN (AB (AJ (qV (Ar rfl rfl (A5 qO)) (qM _ rfl (AA (AB ?_)))))));exact ⟨aa.length - (k3+1),qO,k3+1,cs++[j1],us.set k3 (.slice ja j1.length jc),Ac.out ⟨rfl,rfl,rfl,trivial⟩,E,qO,(by have hS:=JSt.step (hJ.ext a2) aw ag (⟨⟨_,_,rfl⟩,c7⟩:Jv _ _ _ j1) a0.2 cf aq (by simpa using az);exact hS),(fun c hc=>by rcases List.mem_append.1 hc with h1|h1;exact b2 c h1;rw[List.mem_singleton] at h1;subst h1;omega),(by have:=a2.size;have:=az.chg.size;omega),rfl⟩
         ·have ai:k3=aa.length:=qO
          have av:=a1.done hP (by rw[hJ.cl,ai]) hJ.jn;have ao:=hJ.done ai;have ax:cs.length=on:=by rw[hJ.cl,ai,aw]
          refine Ak (AP (AP (Ae (AB (AI (Y (qM _ rfl (qV (AL underlying69 rfl) (qV (CU rfl rfl) (AA (qC rfl (fun a8=>?_) (fun a8=>?_))))))))))))
          ·refine Y (qA _ rfl (qA _ rfl (AA (AS (AU (B_ results81 (v:=(.slice none 0 0)) (v':=(.int .i64 2)) rfl rfl ?_))))));exact ⟨⟨[],2,.inr ⟨bh,cs,av,.inl ⟨.inr qO,rfl,rfl⟩⟩,none,0,rfl,GL _⟩,E⟩
          ·refine AM (AB (Y (qM _ rfl (qA _ rfl (qA _ rfl (AA (AS (B_ results81 (v:=(.slice oa on oc)) (v':=(.int .i64 0)) rfl rfl ?_))))))));rw[←ax] at ao;exact ⟨⟨cs,0,.inr ⟨bh,cs,av,.inr ⟨fun dh=>by rcases dh with ⟨c,h1,h2⟩|h2;have:=b2 c h1;omega;omega,rfl,rfl⟩⟩,oa,oc,by rw[ax],ao⟩,E⟩
       ·have E6:Chg Ab W9 W9:=Chg.refl _ _;obtain ⟨z0,es⟩:∃z0,z0=(W9).heap.size:=⟨_,rfl⟩;have cc:∀(i:Nat) v b,vs[i]?=some v→v.ownBlock=some b→b<z0:=fun i v b hv hb=>by obtain ⟨l,hl⟩:=hC.some hv;have:=((hC.inn i v l hv hl).lt b hb).2;omega
        have d6:=(Ri bp dl d3).1 qO;have hlp:=AG d6;refine AM (AB (Y (qM _ rfl (qV (B' (ps:=[(0,(I6 c1)),(1,(I6 1114111))]) (v:=(.agg #[(I6 c1),(I6 1114111)])) rfl qK) (A6 (v:=(.agg #[(I6 c1),(I6 1114111)])) (c:=#[(I6 c1),(I6 1114111)]) (n:=2) qD FF rfl CJ rfl rfl rfl qS ?_)))));intro bx wx Nx;have Fx:=Nx.ge E;have Fx_E6:=Nx.ge E6;have Ox_bm:=Nx.ltM Mm;replace Mm:=Nx.keepM Mm;replace E:=E.ext Nx.ext;have Bx:=Nx.blk;replace E6:=E6.ext Nx.ext;refine AA (Ex (fun σ cb=>∃(hi:Int),(∃jj_,σ=BK jj_ [(0,(.slice a ll.length c)),(7,(.slice (some ⟨g,0,none⟩) q.length lc)),(12,(.slice oa on oc)),(13,(.map (some bm))),(15,(I6 c1)),(16,(P6 bx 0)),(63,(.slice (some ⟨g,0,none⟩) q.length lc)),(64,(I6 (q.length:Int))),(65,(I6 (i2:Int)))])∧Chg Ab w0 cb∧Chg Ab W9 cb∧BZ cb bm GI Cd (Dp ks 0)∧Az cb bx (#[Value.int .i64 c1,Value.int .i64 hi]) 94∧(hi=nx p (i2+1) - 1)) ?_ ?_)
        ·skip
         refine Y (qM _ rfl (qV (Ar rfl rfl (A5 qO)) (qM _ rfl (qV (AL underlying22 rfl) (qV (A0 rfl rfl) (AA (qC rfl (fun fs=>?_) (fun fs=>?_))))))))
         ·obtain ⟨d1,dt⟩:=AK (l:=q) (i:=i2+1) qO;have hdn:=Rg bp qO dt;have hdb:=eo d1 (List.mem_of_getElem? dt);refine AJ (qM _ rfl (qM _ rfl (qV (Ar rfl rfl (A5 qO)) (qV (AC (b:=g) (o:=0) (len:=q.length) (cap:=lc) (i:=i2+1) (o':=0+(i2+1)) rfl rfl qO underlying22 Ad qO qO) (qV (AE rfl Ai (((hI.chg E6 fun _ _ f=>f).at |> fun hh=>by obtain ⟨qb,qo,ea,fa⟩:=Ao (l:=q) hh qO;simp only[Option.some.injEq,Addr.mk.injEq,and_true] at ea;obtain ⟨rfl,rfl⟩:=ea;exact fa (i2+1) d1 dt))) (qV (GO (k:=.i64) (a:=d1) (b:=1) (c:=d1 - 1) rfl rfl (A5 qO)) (qF bx 0 1 rfl underlying94 rfl Ad rfl (A9 (b:=bx) (o:=1) (c':=#[(I6 c1),(I6 (d1 - 1))]) (v:=(I6 (d1 - 1))) rfl rfl rfl Ad Bx qP rfl ?_))))))));intro w19 ci;replace Mm:=ci.keepM qO Mm;replace E:=ci.step E qQ;replace E6:=ci.step E6 (Or.inl qO);replace Bx:=ci.blk;refine AA (AB ?_);exact ⟨d1 - 1,Ac.out ⟨rfl,rfl,rfl,rfl,rfl,rfl,rfl,rfl,rfl,trivial⟩,E,E6,Mm,Bx,qO⟩
         ·refine AM (AB ?_);exact ⟨1114111,Ac.out ⟨rfl,rfl,rfl,rfl,rfl,rfl,rfl,rfl,rfl,trivial⟩,E,E6,Mm,Bx,(by rw[Rh bp qO];rfl)⟩
        ·clear E E6 Mm Bx;rintro _ cb ⟨hi,⟨j17,rfl⟩,E,E6,Mm,Bx,fb⟩;refine Y (qM _ rfl (qV (AL underlying69 rfl) (Dx (n:=ll.length) (z:=(.int .u8 0)) (bytes:=1) qD underlying162 K8 Ue SB rfl rfl rfl qO qO ?_)));intro bk wk Nk;have Fk:=Nk.ge E;have Fk_E6:=Nk.ge E6;have Ok_bm:=Nk.ltM Mm;have Ok_bx:=Nk.lt Bx;replace Mm:=Nk.keepM Mm;replace Bx:=Nk.keep Bx;replace E:=E.ext Nk.ext;have Bk:=Nk.blk;replace E6:=E6.ext Nk.ext;refine qA _ rfl (AA (AI (Y (qM _ rfl (qV (AL underlying69 rfl) (qM _ rfl (AA (AO ?_))))))));rw[show (List.replicate ll.length (Value.int .u8 0))=(DH ll c1 0).map (Value.int .u8) from by rw[MN,List.map_replicate]] at Bk;refine Ap (fun nn_ σ bj=>∃(e1:Nat),(∃jj_,σ=BK jj_ [(0,(.slice a ll.length c)),(7,(.slice (some ⟨g,0,none⟩) q.length lc)),(12,(.slice oa on oc)),(13,(.map (some bm))),(15,(I6 c1)),(16,(P6 bx 0)),(17,(.slice (some ⟨bk,0,none⟩) ll.length ll.length)),(63,(.slice (some ⟨g,0,none⟩) q.length lc)),(64,(I6 (q.length:Int))),(65,(I6 (i2:Int))),(89,(.slice a ll.length c)),(90,(I6 (ll.length:Int))),(91,(I6 (e1:Int)))])∧Chg Ab w0 bj∧Chg Ab W9 bj∧BZ bj bm GI Cd (Dp ks 0)∧Az bj bx #[(I6 c1),(I6 hi)] 94∧Az bj bk (((DH ll c1 e1).map (Value.int .u8)).toArray) 5∧(e1≤ll.length)∧nn_=ll.length - e1) (n:=ll.length - 0) ?_ ?_
         ·exact ⟨0,Ac.out ⟨rfl,rfl,rfl,rfl,rfl,rfl,rfl,rfl,rfl,rfl,rfl,rfl,rfl,trivial⟩,E,E6,Mm,Bx,Bk,Nat.zero_le _,rfl⟩
         ·clear E E6 Mm Bx Bk;rintro _ _ bj ⟨e1,⟨j20,rfl⟩,E,E6,Mm,Bx,Bk,e3,rfl⟩;refine Y (qV (A0 rfl rfl) (AA (AI (qC rfl (fun c6=>?_) (fun c6=>?_)))))
          ·obtain ⟨l6,cr⟩:=AK (l:=ll) (i:=e1) qO;obtain ⟨b,o,rfl,b5⟩:=Ei h qO;obtain ⟨ra,rc,af,ao⟩:=b5 e1 l6 cr;refine AM (AB (AI (AO (Y (qM _ rfl (qV (AC (b:=b) (o:=o) (len:=ll.length) (cap:=c) (i:=e1) (o':=o+e1) rfl rfl rfl underlying69 C4 qO qO) (qV (AE rfl DW (E.cell (fun f=>f) af)) (qA _ rfl (qA _ rfl (AA (Y (qM _ rfl (qM _ rfl (qE rfl (AV func49 kQ kQ rfl) (VA _ _ l6 c1 (ao.ext E)) ?_))))))))))))));rintro _ w51 ⟨rfl,ce⟩;replace Mm:=ce.keepM Mm;replace Bx:=ce.keep Bx;replace Bk:=ce.keep Bk;replace E:=E.ext ce;replace E6:=E6.ext ce;refine AA (As rfl (fun bv=>?_) (fun bv=>?_))
           ·have cw:=bv;have hml:=NI (c:=c1) e3;refine AJ (qM _ rfl (qM _ rfl (qV (AC (b:=bk) (o:=0) (len:=ll.length) (cap:=ll.length) (i:=e1) (o':=0+e1) rfl rfl rfl underlying162 K8 qO qO) (A9 (b:=bk) (o:=0+e1) (c':=((DH ll c1 (e1+1)).map (Value.int .u8)).toArray) (v:=(.int .u8 1)) rfl rfl rfl K8 Bk (by simp;omega) (by rw[MO cr,bv];simp[LY,List.map_set]) ?_))));intro w23 b0;replace Mm:=b0.keepM qO Mm;replace Bx:=b0.keep qO Bx;replace E:=b0.step E qQ;replace E6:=b0.step E6 (Or.inl qO);replace Bk:=b0.blk;refine AA (AN (AB (AJ (qV (Ar rfl rfl (A5 qO)) (qM _ rfl (AA (AB ?_)))))));exact ⟨ll.length - (e1+1),qO,e1+1,Ac.out ⟨rfl,rfl,rfl,rfl,rfl,rfl,rfl,rfl,rfl,rfl,rfl,rfl,rfl,trivial⟩,E,E6,Mm,Bx,Bk,qO,rfl⟩
           ·have cw:=bv;have de:DH ll c1 (e1+1)=DH ll c1 e1:=MP cr bv;rw[←de] at Bk;refine AM (AN (AB (AJ (qV (Ar rfl rfl (A5 qO)) (qM _ rfl (AA (AB ?_)))))));exact ⟨ll.length - (e1+1),qO,e1+1,Ac.out ⟨rfl,rfl,rfl,rfl,rfl,rfl,rfl,rfl,rfl,rfl,rfl,rfl,rfl,trivial⟩,E,E6,Mm,Bx,Bk,qO,rfl⟩
          ·have eg:e1=ll.length:=qO
           rw[eg,NJ] at Bk;refine Ak (AP (AP (Ae (AB (Y (qM _ rfl (qM _ rfl (qV (De underlying162 underlying5 underlying9 rfl Bk (by simp[BQ])) (BV (v:=(.tuple #[(I6 ((A3 (Dp ks 0) (F7 (BQ ll c1))).getD 0)),(.bool ((A3 (Dp ks 0) (F7 (BQ ll c1))).isSome))])) rfl rfl qD (FK (k:=(F7 (BQ ll c1))) (z:=0) underlying161 (GQ underlying9) BY Mm rfl rfl) (qM _ rfl (qV (Aj rfl rfl) (qV (Aj rfl rfl) (qA _ rfl (qA _ rfl (AA ?_)))))))))))))));have ay:=hC.ext E6;have bi:=hI.chg E6 fun _ _ f=>f;have bb:=Nat.le_trans db E6.size;have b6:=hG.cnt;have bu:on=ks.length:=by rw[aw,hG.len]
           refine Ex (fun σ a4=>∃(kk:Nat) (bf:List (List Bool)) (ad:List (List Sp)) (ca:List Value) (ct:Option Addr) (al ak:Nat),(∃jj_,σ=BK jj_ [(0,(.slice a ll.length c)),(7,(.slice (some ⟨g,0,none⟩) q.length lc)),(13,(.map (some bm))),(16,(P6 bx 0)),(63,(.slice (some ⟨g,0,none⟩) q.length lc)),(64,(I6 (q.length:Int))),(65,(I6 (i2:Int))),(12,(.slice ct ak al)),(20,(I6 (kk:Int)))])∧Chg Ab w0 a4∧BZ a4 bm GI Cd (Dp bf 0)∧Az a4 bx #[(I6 c1),(I6 hi)] 94∧Az a4 bk ((((BQ ll c1).map LY).map (Value.int .u8)).toArray) 5∧(bf=Hh ks (BQ ll c1))∧(ad.length=bf.length)∧(∀(j:Nat) q,ad[j]?=some q→aa[j]?=some q∨(j=ks.length∧q=[]∧BQ ll c1∉ks))∧(bf[kk]?=some (BQ ll c1))∧(CSt a4 n1 (.slice ct ak al) ca ad)∧(ak=ad.length)∧(CS (fun b=>b=g) a4 1 (.slice (some ⟨g,0,none⟩) q.length lc) (q.map Dh))∧(n1≤a4.heap.size)∧(∀(i:Nat) v b,ca[i]?=some v→v.ownBlock=some b→b<z0)) ?_ ?_
           ·skip
            refine Y (qM _ rfl (qV (CM rfl) (AA (As rfl (fun ae=>?_) (fun ae=>?_)))))
            ·have b1:=ae;replace ae:=by simpa using ae
             have fi:A3 (Dp ks 0) (F7 (BQ ll c1))=none:=by simpa using ae
             obtain ⟨b3,dq⟩:=NN fi;refine Y (qM _ rfl (qV (AL underlying69 rfl) (qA _ rfl (AA (Y (qM _ rfl (qM _ rfl (qV (De underlying162 underlying5 underlying9 rfl Bk (by simp[BQ])) (qM _ rfl (Dk (k:=(F7 (BQ ll c1))) (v:=(on:Int)) underlying161 (GQ underlying9) Mm rfl rfl rfl ?_))))))))));intro w26 bn fd;replace bb:=Nat.le_trans bb bn.chg.size;replace ay:=ay.chg bn.chg fun b h1 _ h2=>absurd h2 qO;replace bi:=bi.chg bn.chg fun b h1 h2=>by subst h1;omega
             replace Bx:=bn.keep qO Bx;replace Bk:=bn.keep qO Bk;replace E:=bn.step E qQ;replace Mm:=fd;refine AA (AJ (qM _ rfl (Ah (ps:=[(0,(.slice none 0 0))]) (c:=#[(.slice none 0 0)]) qD rfl underlying69 C4 OM qD qD qK ?_)));intro b27 w27 an;have F27:=an.ge E;have O27_bm:=an.ltM Mm;have O27_bx:=an.lt Bx;have O27_bk:=an.lt Bk;replace Mm:=an.keepM Mm;replace Bx:=an.keep Bx;replace Bk:=an.keep Bk;replace ay:=ay.ext an.ext;replace bi:=bi.chg an.ext fun _ _ f=>f;replace bb:=Nat.le_trans bb an.ext.size;replace E:=E.ext an.ext;have fq:=an.blk;refine BU (base:=n1) (n:=on) (m:=1) (xs:=vs) (news:=[(.slice none 0 0)]) (size:=1) (bytes:=24) (v:=(.slice oa on oc)) qD underlying69 C4 Tn OM rfl qD rfl (ay.on aw) rfl (rfl) (fq.cells rfl) qS (by unfold maxLen;omega) qO (bb) ?_;intro v7 w59 d9 be e9;replace Mm:=be.keepM (fun h=>by have:=(ay.o.lt _ h).1;omega) Mm;replace Bx:=be.keep (fun h=>by have:=(hC.o.lt _ h).2;omega) Bx;replace Bk:=be.keep (fun h=>by have:=(hC.o.lt _ h).2;omega) Bk;replace E:=E.step be (fun x hx h=>absurd ((ay.on aw).lt x h).1 qO);obtain ⟨er,e2,rfl⟩:=BD d9;rw[bu,dq] at Mm;refine qA _ rfl (AA (AB ?_));exact ⟨on,ks++[BQ ll c1],aa++[[]],vs++[.slice none 0 0],er,e2,on+1,Ac.out ⟨rfl,rfl,rfl,rfl,rfl,rfl,rfl,rfl,rfl,trivial⟩,E,Mm,Bx,Bk,(by unfold Hh;rw[if_neg b3]),(by simp;omega),QP hG.len b3,(by rw[bu];simp),ay.push (by rw[←aw];exact d9) be e9,(by simp;omega),bi.chg be fun b h1 h2=>by subst h1;have:=(ay.o.lt _ h2).1;omega,Nat.le_trans bb be.size,QQ cc⟩
            ·have b1:=ae;replace ae:=by simpa using ae
             have e4:(A3 (Dp ks 0) (F7 (BQ ll c1))).isSome=true:=by simpa using ae
             obtain ⟨v9,ee⟩:=Option.isSome_iff_exists.1 e4;obtain ⟨j9,rfl,d8⟩:=Pe ee;rw[show (A3 (Dp ks 0) (F7 (BQ ll c1))).getD 0=((j9:Nat):Int) from by rw[ee];rfl];refine AM (AB ?_);exact ⟨j9,ks,aa,vs,oa,oc,on,Ac.out ⟨rfl,rfl,rfl,rfl,rfl,rfl,rfl,rfl,rfl,trivial⟩,E,Mm,Bx,Bk,(by unfold Hh;rw[if_pos (List.mem_of_getElem? d8)]),qO,(fun j q h=>.inl h),d8,ay,aw,bi,bb,cc⟩
           ·clear E Mm Bx Bk;rintro _ a4 ⟨kk,bf,ad,ca,ct,al,ak,⟨j24,rfl⟩,E,Mm,Bx,Bk,cv,cz,bo,bd,a5,a9,ep,ei,d7⟩;obtain ⟨o1,ag⟩:=AK (l:=ad) (i:=kk) (by have:=AG bd;omega);obtain ⟨v1,ba⟩:=AK (l:=ca) (i:=kk) (by have:=a5.len;have:=AG bd;omega);obtain ⟨va,vc,rfl⟩:=BD (a5.inn kk v1 o1 ba ag);have hko:=AG ag;have fe:o1.length≤i2:=by rcases bo kk o1 ag with h1|⟨_,h1,_⟩;exact (hG.ok kk o1 h1).2;subst h1;exact Nat.zero_le _
            obtain ⟨gg,rfl,d5,cu⟩:=BS (a5.on a9) qO;have a0:=a5.o.lt gg rfl;have a3:=a5.inn kk _ o1 ba ag;obtain ⟨h0,fj⟩:∃h0,h0=(a4).heap.size:=⟨_,rfl⟩;obtain ⟨c0,ab⟩:∃Fs:List (FactT ((fun y=>(Value.slice va o1.length vc).ownBlock=some y))),Fs=[.eq (.slice (some ⟨gg,0,none⟩) ak al),.eq (I6 (kk:Int)),.eq (.slice (some ⟨gg,0,none⟩) ak al),.eq (I6 (kk:Int)),.eq (.pointer (some ⟨gg,0+kk,none⟩)),.eq (.slice va o1.length vc),.eq (.agg #[(I6 c1),(I6 hi)]),.till (Ct Ll #[.int .i64 c1,.int .i64 hi] 0) (JH _ _ _),.own (CW n1 Ll 2 (o1.length+1) ((o1.map CD).flatten++[Value.int .i64 c1,Value.int .i64 hi]) (.slice va o1.length vc) h0) (Jo _ _ _ _ _ _ _)]:=⟨_,rfl⟩;refine Gt ((fun y=>(Value.slice va o1.length vc).ownBlock=some y)) 9 8 [121,122,123,124,125,126,127,128,129] [[],[],[],[],[2,3],[4],[],[6],[5,7]] c0 ab rfl mixed qK qK qK ?_ ?_
            ·intro wd X0;refine DagStepsT.cons (fun s' w' X U H=>?_) ?_
             ·exact AR (AZ (U 12 rfl)) (Chg.refl _ _) rfl
             refine DagStepsT.cons (fun s' w' X U H=>?_) ?_
             ·exact AR (AZ (U 20 rfl)) (Chg.refl _ _) rfl
             refine DagStepsT.cons (fun s' w' X U H=>?_) ?_
             ·exact AR (AZ (U 12 rfl)) (Chg.refl _ _) rfl
             refine DagStepsT.cons (fun s' w' X U H=>?_) ?_
             ·exact AR (AZ (U 20 rfl)) (Chg.refl _ _) rfl
             refine DagStepsT.cons (fun s' w' X U H=>?_) ?_
             ·have c8:s' 123=(.slice (some ⟨gg,0,none⟩) ak al):=H 2 rfl 123 (.eq (.slice (some ⟨gg,0,none⟩) ak al)) rfl (by rw[ab];rfl);have di:s' 124=(.int .i64 ((kk:Nat):Int)):=H 3 rfl 124 (.eq (.int .i64 ((kk:Nat):Int))) rfl (by rw[ab];rfl);exact AR (AC (i:=kk) c8 di rfl underlying69 C4 qO qO) (Chg.refl _ _) rfl
             refine DagStepsT.cons (fun s' w' X U H=>?_) ?_
             ·have dk:s' 125=(.pointer (some ⟨gg,0+kk,none⟩)):=H 4 rfl 125 (.eq (.pointer (some ⟨gg,0+kk,none⟩))) rfl (by rw[ab];rfl);exact AR (AE dk DW (by have h1:=cu kk _ ba;exact (Al.cell X (X0.cell h1)))) (Chg.refl _ _) rfl
             refine DagStepsT.cons (fun s' w' X U H=>?_) ?_
             ·exact AR (Aa (U 16 rfl) GF CJ rfl ((Chg.keep X (fun h=>by have:=d7 kk _ _ ba h;omega) (X0.keep Bx)).cells rfl)) (Chg.refl _ _) rfl
             refine DagStepsT.cons (fun s' w' X U H=>?_) ?_
             ·have da:s' 127=(.agg #[(.int .i64 c1),(.int .i64 hi)]):=H 6 rfl 127 (.eq (.agg #[(.int .i64 c1),(.int .i64 hi)])) rfl (by rw[ab];rfl);exact Cl underlying37 CJ FF da qD qD qK (Nat.zero_le _)
             refine DagStepsT.cons (fun s' w' X U H=>?_) ?_
             ·have c4:s' 126=(.slice va o1.length vc):=H 5 rfl 126 (.eq (.slice va o1.length vc)) rfl (by rw[ab];rfl);obtain ⟨fc,dp,df,_⟩:=(show (.till (Ct Ll #[.int .i64 c1,.int .i64 hi] 0) (JH _ _ _):FactT ((fun y=>(Value.slice va o1.length vc).ownBlock=some y))).In (s' 128) w' from FactT.at_false (H 7 rfl 128 (.till (Ct Ll #[.int .i64 c1,.int .i64 hi] 0) (JH _ _ _)) rfl (by rw[ab];rfl)));exact CL underlying37 CJ O0 FF rfl qD c4 (Am (Am a3 X0) X) dp rfl (df.cells rfl) qS (by unfold maxLen;omega) qO (by have:=X0.size;have:=X.size;omega) (fun y h=>h) (by have:=X0.size;have:=X.size;omega)
             exact DagStepsT.nil
            ·intro s' fn ft X0 cn U H;have co:s' 121=(.slice (some ⟨gg,0,none⟩) ak al):=H 0 121 (.eq (.slice (some ⟨gg,0,none⟩) ak al)) rfl (by rw[ab];rfl);have dd:s' 122=(.int .i64 ((kk:Nat):Int)):=H 1 122 (.eq (.int .i64 ((kk:Nat):Int))) rfl (by rw[ab];rfl);obtain ⟨⟨ar,ap,a7⟩,br,cg⟩:=(show (.own (CW n1 Ll 2 (o1.length+1) ((o1.map CD).flatten++[Value.int .i64 c1,Value.int .i64 hi]) (.slice va o1.length vc) h0) (Jo _ _ _ _ _ _ _):FactT ((fun y=>(Value.slice va o1.length vc).ownBlock=some y))).In (s' 129) ft from H 8 129 (.own (CW n1 Ll 2 (o1.length+1) ((o1.map CD).flatten++[Value.int .i64 c1,Value.int .i64 hi]) (.slice va o1.length vc) h0) (Jo _ _ _ _ _ _ _)) rfl (by rw[ab];rfl));obtain ⟨j28,rfl⟩:=Ac.out (σ:=s') (l:=[(0,(.slice a ll.length c)),(7,(.slice (some ⟨g,0,none⟩) q.length lc)),(12,(.slice (some ⟨gg,0,none⟩) ak al)),(13,(.map (some bm))),(63,(.slice (some ⟨g,0,none⟩) q.length lc)),(64,(.int .i64 ((q.length:Nat):Int))),(65,(.int .i64 ((i2:Nat):Int))),(121,(.slice (some ⟨gg,0,none⟩) ak al)),(122,(.int .i64 ((kk:Nat):Int))),(129,(.slice ar (o1.length+1) ap))]) ⟨U 0 rfl,U 7 rfl,U 12 rfl,U 13 rfl,U 63 rfl,U 64 rfl,U 65 rfl,co,dd,a7,trivial⟩;clear U H;replace Mm:=Chg.keepM cn (fun h=>by have:=(a3.lt _ h).1;omega) (X0.keepM Mm);replace Bx:=Chg.keep cn (fun h=>by have:=d7 kk _ _ ba h;omega) (X0.keep Bx);have cj:=Chg.trans (Al.chg X0) cn;replace E:=(E.ext X0).step cn (fun y hy h=>by have:=(a3.lt _ h).1;omega);obtain ⟨bz,am,d4⟩:=Ig (Av (a5.on a9) cj (fun b hb hm=>a5.apo kk _ _ ba hm hb));have dj:=ep.chg cj fun b h1 h2=>by subst h1;have:=(a3.lt _ h2).1;omega
             have dr:=Nat.le_trans ei cj.size;refine qV (AC (b:=gg) (o:=0) (len:=ak) (cap:=al) (i:=kk) (o':=0+kk) rfl rfl rfl underlying69 C4 qO qO) ?_;have aq:=am;have az:True:=trivial;refine A9 (b:=gg) (o:=0+kk) (c':=bz.setIfInBounds (0+kk) (.slice ar (o1.length+1) ap)) (v:=(.slice ar (o1.length+1) ap)) rfl rfl rfl C4 am qO (rfl) ?_;intro fg bg;replace dj:=dj.chg bg.chg fun b h1 h2=>by subst h1;omega
             replace dr:=Nat.le_trans dr bg.chg.size;replace az:=bg;replace Mm:=bg.keepM qO Mm;replace E:=bg.step E qQ;replace am:=bg.blk;have ej:=a5.grow a9 ba ag (x:=(c1,hi)) (v':=.slice ar (o1.length+1) ap) (by rw[a7] at br;simpa[CD] using br) cj (by rw[a7,fj] at cg;exact cg) aq (by simpa using az);refine AA (AN (AB (AJ (qV (Ar rfl rfl (A5 qO)) (qM _ rfl (AA (AB ?_)))))));exact ⟨p.length - (i2+1),qO,i2+1,bf,ad.set kk (o1++[(c1,hi)]),ca.set kk (.slice ar (o1.length+1) ap),some ⟨gg,0,none⟩,al,ak,Ac.out ⟨rfl,rfl,rfl,rfl,rfl,rfl,rfl,trivial⟩,E,Mm,(by rw[fb];exact hG.step hP a6 d6 cv cz bo bd ag),qO,ej,(by simp;omega),dj,dr,rfl⟩
      ·have c5:i2=p.length:=qO
       have a1:=hG;rw[c5] at a1;have cx:=hC.join;have b6:=hG.cnt;have dv:=hG.len;refine Ak (AP (AP (Ae (AB (AI (Y (qM _ rfl (qV (AL underlying69 rfl) (qM _ rfl (AA (AO (Ap (fun nn_ σ ck=>∃(k3:Nat) (cs:List (List Sp)) (us:List Value),(∃jj_,σ=BK jj_ [(12,(.slice oa on oc)),(133,(I6 (on:Int))),(134,(I6 (k3:Int)))])∧Chg Ab w0 ck∧(k3≤aa.length)∧(JSt ck n1 (.slice oa on oc) us aa cs k3)∧(∀c∈cs,c.length≤16)∧(n1≤ck.heap.size)∧nn_=aa.length - k3) (n:=aa.length - 0) ?_ ?_))))))))))))
       ·exact ⟨0,[],vs,Ac.out ⟨rfl,rfl,rfl,trivial⟩,E,Nat.zero_le _,cx,qP,db,rfl⟩
       ·clear E;rintro _ _ ck ⟨k3,cs,us,⟨j30,rfl⟩,E,e5,hJ,b2,et,rfl⟩;refine Y (qV (A0 rfl rfl) (AA (AI (qC rfl (fun bc=>?_) (fun bc=>?_)))))
        ·obtain ⟨o1,ag⟩:=AK (l:=aa) (i:=k3) qO;obtain ⟨u1,b9⟩:=AK (l:=us) (i:=k3) (by have:=hJ.len;omega);obtain ⟨⟨ua,uc,rfl⟩,cp⟩:=hJ.rst k3 u1 o1 (Nat.le_refl _) b9 ag;have au:=hJ.o;rw[←aw] at au;obtain ⟨gg,rfl,d5,cu⟩:=BS au qO;have a0:=au.lt gg rfl;have c3:=(a1.ok k3 o1 ag);refine AM (AB (AI (AO (Y (qM _ rfl (qA _ rfl (AA (Y (qM _ rfl (qM _ rfl (qM _ rfl (qM _ rfl (qV (AC (b:=gg) (o:=0) (len:=on) (cap:=oc) (i:=k3) (o':=0+k3) rfl rfl rfl underlying69 C4 qO qO) (qV (AE (v:=(.slice ua o1.length uc)) rfl DW ((by have h1:=(au.cells (g:=gg) rfl) k3 _ b9;rwa [Addr.add_lit] at h1))) (qE rfl (AV func132 kQ kQ rfl) (RF _ _ o1 cp.at qO c3.1) ?_)))))))))))))));rintro _ eu ⟨⟨j1,cf,⟨⟨ja,jc,rfl⟩,c7⟩⟩,a2⟩;replace E:=E.ext a2;obtain ⟨bz,am,d4⟩:=Ig (Am au a2);refine qV (AC (b:=gg) (o:=0) (len:=on) (cap:=oc) (i:=k3) (o':=0+k3) rfl rfl rfl underlying69 C4 qO qO) ?_;have aq:=am;have az:True:=trivial;refine A9 (b:=gg) (o:=0+k3) (c':=bz.setIfInBounds (0+k3) (.slice ja j1.length jc)) (v:=(.slice ja j1.length jc)) rfl rfl rfl C4 am qO (rfl) ?_;intro ek ds;replace az:=ds;replace E:=ds.step E qQ;replace am:=ds.blk;refine AA (Y (qM _ rfl (qM _ rfl (qV (AC (b:=gg) (o:=0) (len:=on) (cap:=oc) (i:=k3) (o':=0+k3) rfl rfl rfl underlying69 C4 qO qO) (qV (AE rfl DW (am.cell (by rw[Array.getElem?_setIfInBounds_self_of_lt qO]))) ?_)))));refine qV (AL underlying37 rfl) (qV (CU rfl rfl) (AA (qC rfl (fun c2=>?_) (fun c2=>?_))))
         ·refine Y (qA _ rfl (qA _ rfl (AA (AS (A1 (AU (AU (A1 (AU (B_ results81 (v:=(.slice none 0 0)) (v':=(.int .i64 2)) rfl rfl ?_))))))))));obtain ⟨cF,dc,dm⟩:=Ks a1 hP ag cf qO;exact ⟨⟨[],2,.inr ⟨bh,cF,dc,.inl ⟨dm,rfl,rfl⟩⟩,none,0,rfl,GL _⟩,E⟩
         ·refine AM (AN (AB (AJ (qV (Ar rfl rfl (A5 qO)) (qM _ rfl (AA (AB ?_)))))));exact ⟨aa.length - (k3+1),qO,k3+1,cs++[j1],us.set k3 (.slice ja j1.length jc),Ac.out ⟨rfl,rfl,rfl,trivial⟩,E,qO,(by have hS:=JSt.step (hJ.ext a2) aw ag (⟨⟨_,_,rfl⟩,c7⟩:Jv _ _ _ j1) a0.2 cf aq (by simpa using az);exact hS),(fun c hc=>by rcases List.mem_append.1 hc with h1|h1;exact b2 c h1;rw[List.mem_singleton] at h1;subst h1;omega),(by have:=a2.size;have:=az.chg.size;omega),rfl⟩
        ·have ai:k3=aa.length:=qO
         have av:=a1.done hP (by rw[hJ.cl,ai]) hJ.jn;have ao:=hJ.done ai;have ax:cs.length=on:=by rw[hJ.cl,ai,aw]
         refine Ak (AP (AP (Ae (AB (AI (Y (qM _ rfl (qV (AL underlying69 rfl) (qV (CU rfl rfl) (AA (qC rfl (fun a8=>?_) (fun a8=>?_))))))))))))
         ·refine Y (qA _ rfl (qA _ rfl (AA (AS (AU (B_ results81 (v:=(.slice none 0 0)) (v':=(.int .i64 2)) rfl rfl ?_))))));exact ⟨⟨[],2,.inr ⟨bh,cs,av,.inl ⟨.inr qO,rfl,rfl⟩⟩,none,0,rfl,GL _⟩,E⟩
         ·refine AM (AB (Y (qM _ rfl (qA _ rfl (qA _ rfl (AA (AS (B_ results81 (v:=(.slice oa on oc)) (v':=(.int .i64 0)) rfl rfl ?_))))))));rw[←ax] at ao;exact ⟨⟨cs,0,.inr ⟨bh,cs,av,.inr ⟨fun dh=>by rcases dh with ⟨c,h1,h2⟩|h2;have:=b2 c h1;omega;omega,rfl,rfl⟩⟩,oa,oc,by rw[ax],ao⟩,E⟩
end Go.Proofs
namespace Go.Proofs
open Go Go.Eng Go.Sort
set_option maxRecDepth 100000
theorem M6 (m:World) (v fv:Value) (d:List (List Sp)) (p:List Sp->Bool) (h:Ck m v d) (D:∀(w:World) (u:Value) (l:List Sp),Al m w->BW w u l->l∈d->CQ prog fv #[u] w λr w'=>r=.bool (p l)∧Al w w') :
 CB prog 148 #[v,fv] m λr w=>r=.int .i64 (NS p d)∧Al m w:=by
 obtain ⟨a,c,rfl,_,hle⟩:=h.form;refine qR func148 O ntmps148 O (λE=>(Y (qA _ O (AA (AI (Y (qM _ O (qV (AL underlying69 O) (qM _ O (AA (AO (Ap (λnn_ σ A=>∃(k:Nat),(∃jj_,σ=BK jj_ [(0,(.slice a d.length c)),(1,fv),(7,(I6 (d.length:Int))),(8,(I6 (k:Int)))])∧Chg Ab m A∧(k<=d.length)∧(∀(i:Nat) (y:List Sp),i<k->d[i]?=some y->p y=false)∧nn_=d.length - k) (n:=d.length - 0) ?_ ?_))))))))))))
 .exact ⟨0,Ac.out ⟨O,O,O,O,trivial⟩,E,Nat.zero_le _,(λi y h=>absurd h (Nat.not_lt_zero _)),O⟩
 .clear E;rintro _ _ A ⟨k,⟨j1,rfl⟩,E,hk,g,rfl⟩;refine Y (qV (A0 O O) (AA (AI (qC O (λt=>?_) (λt=>?_)))))
  .obtain ⟨l,q⟩:=AK (l:=d) (i:=k) qO;obtain ⟨b,o,rfl,s⟩:=Ei h qO;obtain ⟨ra,rc,e,z⟩:=s k l q;refine AM (AB (AI (AO (Y (qM _ O (qA _ O (AA (Y (qM _ O (qM _ O (qM _ O (qV (AC (b:=b) (o:=o) (len:=d.length) (cap:=c) (i:=k) (o':=o+k) O O O underlying69 C4 qO qO) (qV (AE O DW (E.cell (λf=>f) e)) (DU qD O O (D _ _ l E (z.ext E) (List.mem_of_getElem? q)) ?_))))))))))))));rintro _ w9 ⟨rfl,C⟩;replace E:=E.ext C;refine AA (As O (λj=>?_) (λj=>?_))
   .have x:=j;refine Y (qM _ O (qA _ O (AA (AS (A1 (AU (AU (A1 (AU (AY results148 (v:=(.int .i64 ((k:Nat):Int))) O ?_))))))))));exact ⟨BJ (Ii q j g).symm,E⟩
   .have x:=j;refine AM (AN (AB (AJ (qV (Ar O O (A5 qO)) (qM _ O (AA (AB ?_)))))));exact ⟨d.length - (k+1),qO,k+1,Ac.out ⟨O,O,O,O,trivial⟩,E,qO,GA q j g,O⟩
  .have hkk:k=d.length:=qO
   refine Ak (AP (AP (Ae (AB (Y (qA _ O (AA (AS (AY results148 (v:=(.int .i64 (-1))) O ?_)))))))));exact ⟨BJ (HY λi y B=>g i y (by have:=AG B;omega) B).symm,E⟩
def Vl (ll:List (List Sp)) (r:Int):Int:=NS (λl=>Cq l r) ll
noncomputable def idxE (ll:List (List Sp)) (r:Int):Int:=if partE ll≠0 then partE ll else if QX r then 0 else 1
noncomputable def leastP (ll:List (List Sp)):List Int:=if partE ll=0 then UN ll else []
noncomputable def wordE (ll:List (List Sp)) (t:List Int):Int:=if partE ll≠0 then partE ll else if t.any (λr=>!QX r) then 1 else 0
noncomputable def wordL (ll:List (List Sp)) (t:List Int):List Int:=if wordE ll t=0 then t.map (Vl ll) else []
end Go.Proofs
namespace Go.Proofs
open Go Go.Eng Go.Sort
set_option maxRecDepth 100000
def SU (l:List Sp):Nat×List Value:=(l.length,(l.map CD).flatten)
theorem LSt.spss {w:World} {base:Nat} {f:Value} {vs:List Value} {b:List (List Sp)} (h:LSt PA Ll 2 w base f vs (b.map SU)):Ck w f b:=by
 have a:vs.length=b.length:=by simpa using h.len
 refine ⟨vs,?_,a,λi u l g a=>?_⟩
 .have c:=h.o;rw[show vs=(vs.map λx=>[x]).flatten by simp[List.flatten_eq_flatMap,List.flatMap_map]] at c;exact EO c (by intro r d;simp only[List.mem_map] at d;obtain ⟨x,_,rfl⟩:=d;rfl) (by simp[a]) qD
 .have e:=h.inn i u (SU l) g (by rw[List.getElem?_map,a];rfl);exact Jv.at ⟨BD e,e⟩
end Go.Proofs
namespace Go.Proofs
open Go Go.Eng Go.Sort
set_option maxRecDepth 100000
theorem Tu {S:Type} (F:S→Re→Bool×S) (Inv:S→(Nat→Prop)→World→Prop) (Pn:Re→Prop) (fv:Value) (wb:World)
    (hb:∀s D w,Inv s D w→∀b,D b→wb.heap.size≤b∧b<w.heap.size)
    (hst:∀s D w w',Inv s D w→Al w w'→Inv s D w')
    (hP:∀t,Pn t→∀x∈t.args,Pn x)
    (hf:∀s D w t vs,Al wb w→Pn t→Inv s D w→CG wb t vs→CQ prog fv #[.agg vs.toArray] w fun v w'=>∃D',v=.bool (F s t).1∧Chg D w w'∧Inv (F s t).2 D' w'∧∀b,D' b→D b∨w.heap.size≤b) :
    ∀n t,t.size≤n→Pn t→∀s (D:Nat→Prop) w0 vs,Al wb w0→Inv s D w0→CG wb t vs→
      CB prog 129 #[.agg vs.toArray,fv] w0 fun v w'=>∃D',v=.bool (CY F t s).1∧Chg D w0 w'∧Inv (CY F t s).2 D' w'∧∀b,D' b→D b∨w0.heap.size≤b:=by
  have ad:∀{D:Nat→Prop} {w w':World},Al wb w→(∀b,D b→wb.heap.size≤b)→Chg D w w'→Al wb w':=fun e h c=>Chg.step e c fun x hx hm=>by have:=h x hm;omega
  intro n
  induction n with
  | zero=>intro t ht;have:=t.size_pos;omega
  | succ n ih=>
  intro t hn av s D w0 vs hE hI ht;obtain ⟨sa,sc,aa,ac,rfl,a2,a6,ae⟩:=ht.form;have ag:=hb s D w0 hI;rw[Ee];refine C7 func129 rfl ntmps129 (LK rfl) ?_;have E:Chg D w0 w0:=Chg.refl _ _;refine Y (BP (v:=(.agg (R6 t sa sc aa ac))) (c:=(R6 t sa sc aa ac)) qD rfl rfl ?_);intro br wr Nr;have Fr:=Nr.ge E;replace hI:=hst _ _ _ _ hI Nr.ext;replace E:=E.ext Nr.ext;have Br:=Nr.blk;refine qA _ rfl (AA (AI (Y (qM _ rfl (qV (Aa (vs:=[(I6 t.kind),(.slice sa t.set.length sc),(.slice aa t.args.length ac),(I6 t.mn),(I6 t.mx),(.bool t.neg)]) rfl DK Ca rfl (Br.cells rfl)) (DU qD rfl rfl (hf s D _ t _ (hE.trans Nr.ext) av hI ht) ?_))))));rintro _ w2 ⟨D1,rfl,C2,hI,az⟩;replace Br:=C2.keep (fun h=>by have:=(ag _ h).2;omega) Br;replace E:=E.trans C2;have hE2:Al wb w2:=ad hE (fun b h=>(ag b h).1) E;have af:∀b,D1 b→D b∨w0.heap.size≤b:=fun b h=>(az b h).imp id (fun h=>by have:=Nr.size;omega);have ah:∀b,D1 b→b≠br:=fun b h e=>by rcases az b h with h|h;have:=(ag b h).2;have:=Nr.eq;omega;have:=Nr.size;have:=Nr.eq;omega
  refine qV (CM rfl) (AA (As rfl (fun h=>?_) (fun h=>?_)))
  · have kh:=h;replace h:=by simpa using h
    refine Y (qA _ rfl (AA (AS (AU (AY results129 (v:=(.bool false)) rfl ?_)))));exact ⟨D1,by rw[if_neg (by simp[h])],E,by rw[if_neg (by simp[h])];exact hI,af⟩
  · have kh:=h;replace h:=by simpa using h
    rw[if_pos (by simpa using h)];generalize (F s t).2=s1 at hI⊢;have z2:br<w2.heap.size:=by have:=C2.size;have:=Nr.size;have:=Nr.eq;omega
    refine AM (AB (AI (Y (qF br 0 2 rfl underlying68 rfl Lt rfl (qV (AE rfl JW (Br.cell rfl)) (qV (AL underlying66 rfl) (qM _ rfl (AA (AO (Ap (fun nn_ σ W2=>∃(k:Nat) (s':S) (D2:Nat→Prop),(∃jj_,σ=BK jj_ [(1,fv),(12,(.slice aa t.args.length ac)),(13,(I6 (t.args.length:Int))),(14,(I6 (k:Int)))])∧Chg D w0 W2∧Az W2 br (R6 t sa sc aa ac) 68∧(k≤t.args.length)∧(Inv s' D2 W2)∧(Cf F t.args s1=Cf F (t.args.drop k) s')∧(∀b,D2 b→D b∨w0.heap.size≤b)∧(∀b,D2 b→b≠br)∧(br<W2.heap.size)∧nn_=t.args.length - k) (n:=t.args.length - 0) ?_ ?_))))))))))
    · exact ⟨0,s1,D1,Ac.out ⟨rfl,rfl,rfl,rfl,trivial⟩,E,Br,Nat.zero_le _,hI,rfl,af,ah,z2,rfl⟩
    · clear E Br;rintro _ _ W2 ⟨k,s',D2,⟨j2,rfl⟩,E,Br,hk,hI,ab,am,ak,hz,rfl⟩;have ay:=hb s' D2 _ hI;have hE1:=E.size;refine Y (qV (A0 rfl rfl) (AA (AI (qC rfl (fun a4=>?_) (fun a4=>?_)))))
      · obtain ⟨x,hx⟩:=AK (l:=t.args) (i:=k) qO;obtain ⟨b,o,rfl,an⟩:∃b o,aa=some ⟨b,o,none⟩∧DM wb b o t.args:=by
          rcases ae with h|h
          · rw[h] at hx;simp at hx
          · exact h
        obtain ⟨us,a3,au⟩:=an.get hx;have ai:=au;obtain ⟨ap,aj,aq,al,rfl,_,_,_⟩:=au.form;have aw:Al wb _:=ad hE (fun b h=>(ag b h).1) E;have hsz:=Re.size_arg hx;refine AM (AB (AI (AO (Y (qV (AC (b:=b) (o:=o) (len:=t.args.length) (cap:=ac) (i:=k) (o':=o+k*6) rfl rfl rfl underlying66 Ca qO qO) (qV (Aa rfl DK Ca rfl (a3.ext aw)) (A6 (v:=(.agg (R6 x ap aj aq al))) (c:=(R6 x ap aj aq al)) (n:=6) qD Lm rfl Ca rfl rfl rfl qS ?_)))))));intro bz wz Nz;have Fz:=Nz.ge E;have Oz_br:=Nz.lt Br;replace Br:=Nz.keep Br;replace hI:=hst _ _ _ _ hI Nz.ext;replace E:=E.ext Nz.ext;have Bz:=Nz.blk;refine AA (Y (qV (Aa (vs:=[(I6 x.kind),(.slice ap x.set.length aj),(.slice aq x.args.length al),(I6 x.mn),(I6 x.mx),(.bool x.neg)]) rfl DK Ca rfl (Bz.cells rfl)) (qM _ rfl (qE rfl (AV func129 kQ kQ rfl) (ih x qO (hP t av x (List.mem_of_getElem? hx)) s' D2 _ _ (aw.trans Nz.ext) hI ai) ?_))));rintro _ w9 ⟨D4,rfl,C9,hI,ar⟩;replace Br:=C9.keep (fun h=>by have h1:=ak _ h;have h2:=(ay _ h).2;first|exact h1 rfl|(have:=Nz.eq;omega)) Br;replace Bz:=C9.keep (fun h=>by have h1:=ak _ h;have h2:=(ay _ h).2;first|exact h1 rfl|(have:=Nz.eq;omega)) Bz;replace E:=E.step C9 (fun y hy h=>(am y h).resolve_right qO);have a5:=Gm hx;rw[a5,DG] at ab;have ax:∀b,D4 b→D b∨w0.heap.size≤b:=fun b h=>by rcases ar b h with h|h;exact am b h;exact .inr (by have:=Nz.size;omega)
        have ao:∀b,D4 b→b≠br:=fun b h e=>by rcases ar b h with h|h;exact ak b h e;have:=Nz.size;omega
        refine qV (CM rfl) (AA (As rfl (fun h2=>?_) (fun h2=>?_)))
        · have a1:=h2;replace h2:=by simpa using h2
          refine Y (qA _ rfl (AA (AS (A1 (AU (AU (A1 (AU (AY results129 (v:=(.bool false)) rfl ?_)))))))));exact ⟨D4,by rw[ab,if_neg (by simp[h2])],E,by rw[ab,if_neg (by simp[h2])];exact hI,ax⟩
        · have a1:=h2;replace h2:=by simpa using h2
          rw[if_pos (by simpa using h2)] at ab;refine AM (AN (AB (AJ (qV (Ar rfl rfl (A5 qO)) (qM _ rfl (AA (AB ?_)))))));exact ⟨t.args.length - (k+1),qO,k+1,(CY F x s').2,D4,Ac.out ⟨rfl,rfl,rfl,rfl,trivial⟩,E,Br,qO,hI,ab,ax,ao,(by have:=C9.size;have:=Nz.size;omega),rfl⟩
      · have a0:k=t.args.length:=qO
        rw[a0,List.drop_length] at ab;refine Ak (AP (AP (Ae (AB (Y (qA _ rfl (AA (AS (AY results129 (v:=(.bool true)) rfl ?_)))))))));exact ⟨D2,by rw[ab];rfl,E,by rw[ab];exact hI,am⟩
end Go.Proofs
namespace Go.Proofs
open Go Go.Eng Go.Sort
set_option maxRecDepth 100000
abbrev VO:Nat:=69
theorem M7 (b:World) (v fv:Value) (a:List (List Sp)) (p:List Sp->Bool) (h:Ck b v a) (d:∀(w:World) (u:Value) (l:List Sp),Al b w->BW w u l->l∈a->CQ prog fv #[u] w λr w'=>r=.bool (p l)∧Al w w') :
 CB prog 98 #[v,fv] b λr w=>r=.bool (a.any p)∧Al b w:=by
 refine qR func98 O ntmps98 O (λE=>(Y (qA _ O (AA (Y (qM v O (qM _ O (qE O (AV func148 kQ kQ O) (M6 _ v fv a p h d) ?_))))))));rintro _ w9 ⟨rfl,c⟩;replace E:=E.ext c;refine qV (CT O O) (qA _ O (AA (AS (AY results98 (v:=(.bool (decide ((0:Int)<=NS p a)))) O ?_))));exact ⟨CK (Ij p a),E⟩
theorem M8 (a:World) (v fv:Value) (b:List (List Sp)) (p:List Sp->Bool) (h:Ck a v b) (c:∀(w:World) (u:Value) (l:List Sp),Al a w->BW w u l->CQ prog fv #[u] w λr w'=>r=.bool (p l)∧Al w w') :
 CB prog 98 #[v,fv] a λr w=>r=.bool (b.any p)∧Al a w:=
 M7 a v fv b p h λw u l e hs _=>c w u l e hs
theorem TW (a:World) (c:Nat) (x:Re) (xs:List Value) (u:Value) (l:List Sp) (d:Az a c xs.toArray 68) (g:CG a x xs) (f:BW a u l) :
 CB prog 134 #[u,.pointer (some ⟨c,0,none⟩)] a λr w=>r=.bool (decide (l=x.set))∧Al a w:=by
 obtain ⟨sa,sc,aa,ac,rfl,b,_,_⟩:=g.form;refine qR func134 O ntmps134 O (λE=>(Y (qA _ O (AA (Y (qM u O (qF c 0 1 O underlying68 O C4 O (qV (AE O DW (d.cell O)) (qE O (AV func135 kQ kQ O) (T2 _ _ _ l x.set (f.ext E) (BO.ext b E)) ?_)))))))));rintro _ w9 ⟨rfl,e⟩;replace d:=e.keep d;replace E:=E.ext e;refine qA _ O (AA (AS (AY results134 (v:=(.bool (decide (l=x.set)))) O ?_)));exact ⟨O,E⟩
def OH (bo base:Nat) (SR:List (List Sp)) (s:List (List Sp)) (D:Nat->Prop) (w:World):Prop:=
 ∃(oa:Option Addr) (oc:Nat) (vs:List Value),Az w bo #[.slice oa s.length oc] VO∧LSt PA Ll 2 w base (.slice oa s.length oc) vs (s.map SU)∧(∀b,D b↔b=bo∨(Value.slice oa s.length oc).ownBlock=some b)∧bo<base∧base<=w.heap.size∧s.Nodup∧∀x∈s,x∈SR
def UG (base:Nat) (l:List Sp):EK:=λv w=>∃a c,v=.slice a l.length c∧w.ownsRow base Ll 2 (.slice a l.length c) l.length (l.map CD).flatten
theorem HN (base:Nat) (l:List Sp):Jt (UG base l):=by
 rintro v w w' e ⟨a,c,rfl,h⟩;exact ⟨a,c,O,Am h e⟩
def MQ (l:List Sp) (base:Nat):EK:=λv w=>∃b a c,v=.slice (some ⟨b,0,none⟩) 1 1∧Az w b #[.slice a l.length c] PA∧base<=b∧w.ownsRow base Ll 2 (.slice a l.length c) l.length (l.map CD).flatten
theorem Hv (l:List Sp) (base:Nat):Jt (MQ l base):=by
 rintro v w w' e ⟨b,a,c,rfl,h,d,f⟩;exact ⟨b,a,c,O,Al.keep e h,d,Am f e⟩
theorem OJ {M:Nat->Prop} {N:Nat} {σ:B0} {w:World} {dst:Option Tmp} {ty:TypeId} {pos:String} {af:Array Edge} {g:Option (Nat×Bool)} {x:Operand} {a:Option Addr} {c base:Nat} {l:List Sp} (f:ev σ x=.slice a l.length c) (e:base<=w.heap.size) (d:w.ownsRow base Ll 2 (.slice a l.length c) l.length (l.map CD).flatten) :
 CP M prog N ⟨dst,.buildSlice 69 1 #[(0,x)],ty,pos,af,g⟩ (MQ l base) σ w:=by
 have b:=New.mk' w #[.slice a l.length c] PA;exact AR (Dy (parts:=[(0,x)]) (ps:=[(0,.slice a l.length c)]) (by simp only[List.map,f]) underlying69 C4 OM qD qD qK) (Al.chg b.ext) ⟨_,_,_,O,b.blk,e,Am d b.ext⟩
theorem Ky {s:List (List Sp)} {t:Re} (h:t.kind=2->t.set∈s):Gc s t=s:=by
 unfold Gc;rw[if_neg λa=>a.2 (h a.1)]
theorem Uj (F:World) (I base:Nat) (SR:List (List Sp)) (ad:SR.length<=1000∧∀s∈SR,BT s=0) (s:List (List Sp)) (D:Nat->Prop) (x:Re) (xs:List Value) (hI:OH I base SR s D F) (hP:Gx (λs=>s∈SR) x) (hx:CG F x xs) :
 CB prog 133 #[.agg xs.toArray,.pointer (some ⟨I,0,none⟩)] F λv w'=>∃D',v=.bool true∧Chg D F w'∧OH I base SR (Gc s x) D' w'∧∀b,D' b->D b∨F.heap.size<=b:=by
 have ay:=hx;have hI0:=hI;obtain ⟨sa,sc,aa,ac,rfl,aj,_,_⟩:=hx.form;obtain ⟨R,N,vs,j,r,V,M,e,G,p⟩:=hI;have hbs0:=e;have a0:D I:=(V I).2 (.inl O);have hsl:s.length<=1000:=Nat.le_trans (MI G p) ad.1;have ab:=λk h=>(r.o.lt k h).2;have hD0:∀b,D b->b<F.heap.size:=λb h=>by rcases (V b).1 h with h|h;omega;exact ab b h
 refine C7 func133 O ntmps133 (LK O) ?_;have E:Chg D F F:=Chg.refl _ _;refine Y (BP (v:=(.agg (R6 x sa sc aa ac))) (c:=(R6 x sa sc aa ac)) qD O O ?_);intro T wz L;replace j:=L.keep j;replace r:=r.ext L.ext;replace e:=Nat.le_trans e L.ext.size;replace E:=E.ext L.ext;have Q:=L.blk;refine qA _ O (AA (AI (Y (qF T 0 0 O underlying68 O Ad O (qV (AE O Ai (Q.cell O)) (qV (BF O O) (qM _ O ?_)))))));rcases Bool.eq_false_or_eq_true (decide ((x.kind:Int)=2)) with q|q
 .have i:=q;replace i:=of_decide_eq_true i;refine AD O O qD (BH q) (qV (AE O G9 (j.cell O)) (AD O O qD (BH q) (qV (B7 O O) (AD O O qD (BH q) (qE O (AV func98 kQ kQ O) (M8 _ _ _ s (λl=>decide (l=x.set)) r.spss (λw u l hE hu=>CQ.mk (first:=#[]) (cap:=#[.pointer (some ⟨T,0,none⟩)]) func134 kQ kQ O (TW w T x _ u l (hE.keep Q) (CG.ext (L.ext.trans hE) x ay) hu))) ?_)))));rintro _ w9 ⟨rfl,P⟩;replace j:=P.keep j;replace Q:=P.keep Q;replace r:=r.ext P;replace e:=Nat.le_trans e P.size;replace E:=E.ext P;refine AD O O qD (BH q) (qV (CM O) (qV (Ag (v:=(.bool (!(s.any λl=>decide (l=x.set))))) O (by rw[q];rfl)) (AA (As O (λJ=>?_) (λJ=>?_)))))
  .have aq:=J;replace J:=by simpa using J
   have af:x.set∉s:=λh=>J _ h O;have Z:=hP.s i;have hx16:=(Jj (ad.2 x.set Z)).2;have d:Gc s x=s++[x.set]:=by unfold Gc;rw[if_pos ⟨i,af⟩]
   obtain ⟨n1,aw⟩:∃n,n=(w9).heap.size:=⟨_,O⟩;have hn0:F.heap.size<=n1:=by rw[aw];have:=P.size;have:=L.size;omega
   obtain ⟨a1,g⟩:∃Fs:List (FactT (Ab)),Fs=[.eq (.slice R s.length N),.eq (P6 T 1),.eq (.slice sa x.set.length sc),.gen (UG n1 x.set) (HN _ _),.gen (MQ x.set n1) (Hv _ _)]:=⟨_,O⟩;refine Gt (Ab) 5 3 [13,14,15,16,17] [[],[],[1],[2],[3]] a1 g O mixed qK qK qK ?_ ?_
   .intro wd A;refine DagStepsT.cons (λt w' X U H=>?_) ?_
    .exact AR (AE (U 1 O) G9 ((Chg.keep X (λf=>f) (A.keep j)).cell O)) (Chg.refl _ _) O
    refine DagStepsT.cons (λt w' X U H=>?_) ?_
    .exact AR (AT (U 2 O) underlying68 O C4 O) (Chg.refl _ _) O
    refine DagStepsT.cons (λt w' X U H=>?_) ?_
    .have az:t 14=(.pointer (some ⟨T,1,none⟩)):=H 1 O 14 (.eq (.pointer (some ⟨T,1,none⟩))) O (by rw[g];rfl);exact AR (AE az DW ((Chg.keep X (λf=>f) (A.keep Q)).cell O)) (Chg.refl _ _) O
    refine DagStepsT.cons (λt w' X U H=>?_) ?_
    .have ax:t 15=(.slice sa x.set.length sc):=H 2 O 15 (.eq (.slice sa x.set.length sc)) O (by rw[g];rfl);exact Dv (AV func52 kQ kQ (NK ax)) ((Mf _ _ x.set (BO.ext (BO.ext aj (L.ext.trans P)) (A.trans X)) qO).mono (λv w h=>⟨(by obtain ⟨⟨⟨a,c,h1⟩,h2⟩,_⟩:=h;subst h1;exact ⟨a,c,O,Dc h2 (by have:=A.size;have:=X.size;omega)⟩:UG n1 x.set v w),h.2⟩))
    refine DagStepsT.cons (λt w' X U H=>?_) ?_
    .obtain ⟨ar,ao,ak,ae⟩:=(show (.gen (UG n1 x.set) (HN _ _):FactT (Ab)).In (t 16) w' from H 3 O 16 (.gen (UG n1 x.set) (HN _ _)) O (by rw[g];rfl));exact OJ ak (by have:=A.size;have:=X.size;omega) ae
    exact DagStepsT.nil
   .intro t wd3 w3 A X3 U H;have a2:t 13=(.slice R s.length N):=H 0 13 (.eq (.slice R s.length N)) O (by rw[g];rfl);obtain ⟨ar,ao,ak,ae⟩:=(show (.gen (UG n1 x.set) (HN _ _):FactT (Ab)).In (t 16) w3 from H 3 16 (.gen (UG n1 x.set) (HN _ _)) O (by rw[g];rfl));obtain ⟨ap,ai,ah,am,au,h17,an⟩:=(show (.gen (MQ x.set n1) (Hv _ _):FactT (Ab)).In (t 17) w3 from H 4 17 (.gen (MQ x.set n1) (Hv _ _)) O (by rw[g];rfl));obtain ⟨j3,rfl⟩:=Ac.out (σ:=t) (l:=[(1,(.pointer (some ⟨I,0,none⟩))),(13,(.slice R s.length N)),(17,(.slice (some ⟨ap,0,none⟩) 1 1))]) ⟨U 1 O,a2,am,trivial⟩;clear U H;replace j:=Chg.keep X3 (λf=>f) (A.keep j);replace Q:=Chg.keep X3 (λf=>f) (A.keep Q);replace r:=(r.ext A).ext X3;replace e:=Nat.le_trans (Nat.le_trans e A.size) X3.size;replace E:=(E.ext A).step X3 (λ_ _ f=>f.elim);have hw3:=E.size;have al:=r.on (n:=s.length) qP;refine BU (base:=base) (n:=s.length) (m:=1) (xs:=vs) (news:=[(.slice ai x.set.length ah)]) (size:=1) (bytes:=24) (v:=(.slice R s.length N)) qD underlying69 C4 Tn OM O qD O al O (O) (au.cells O) qS (by unfold maxLen;omega) qO (e) ?_;intro v9 w29 ag K W;replace j:=K.keep (λh=>by have:=(al.lt _ h).1;omega) j;replace E:=E.step K (λy hy h=>(V y).2 (.inr h));obtain ⟨B,C,rfl⟩:=BD ag;have S:=r.push (n:=s.length) qP an qO (λk h=>by have:=ab k h;omega) ag K W;have z:=Nat.le_trans e K.size;have av:∀b,(Value.slice B (s.length+1) C).ownBlock=some b->D b∨F.heap.size<=b:=λb h=>by rcases W b h with h|h;exact .inl ((V b).2 (.inr h));exact .inr qO
    refine A9 (b:=I) (o:=0) (c':=#[(.slice B (s.length+1) C)]) (v:=(.slice B (s.length+1) C)) O O O Ls j qP O ?_;intro w4 S4;replace S:=S.chg S4.chg (λb hb _ h=>by have h2:b=I:=h;omega);replace z:=Nat.le_trans z S4.chg.size;replace E:=S4.step E qQ;replace j:=S4.blk;refine AA (AB (Y (qA _ O (AA (AS (AY results133 (v:=(.bool true)) O (⟨λb=>b=I∨(Value.slice B (s.length+1) C).ownBlock=some b,O,E,⟨B,C,vs++[.slice ai x.set.length ah],?_,?_,?_,M,z,?_,?_⟩,?_⟩)))))))
    .rw[d,List.length_append];exact j
    .rw[d,List.length_append,List.map_append];exact S
    .intro b;rw[d,List.length_append];exact Iff.rfl
    .rw[d,List.nodup_append];exact ⟨G,qP,λa ha b hb=>by rw[List.mem_singleton.1 hb];rintro rfl;exact af ha⟩
    .intro y hy;rw[d] at hy;rcases List.mem_append.1 hy with h|h
     .exact p y h
     .rw[List.mem_singleton.1 h];exact Z
    .rintro b (rfl|h)
     .exact .inl a0
     .exact av b h
  .have aq:=J;replace J:=by simpa using J
   have d:Gc s x=s:=Ky λ_=>J;refine AM (AB (Y (qA _ O (AA (AS (AY results133 (v:=(.bool true)) O ?_))))));exact ⟨D,O,E,by rw[d];exact ⟨R,N,vs,j,r,V,M,e,G,p⟩,λb h=>.inl h⟩
 .have i:=q;replace i:=of_decide_eq_false i;have d:Gc s x=s:=Ky λh=>by simp[h] at q
  refine AF O O qD (v:=.bool false) (BH q) (Or.inl O) (AF O O qD (v:=.bool false) (BH q) (Or.inl O) (AF O O qD (v:=.bool false) (BH q) (Or.inl O) (AF O O qD (v:=.bool false) (BH q) (Or.inl O) (qV (Ag (v:=(.bool false)) O (by rw[q];rfl)) (AA (AW O (AM (AB (Y (qA _ O (AA (AS (AY results133 (v:=(.bool true)) O ?_)))))))))))));exact ⟨D,O,E,by rw[d];exact ⟨R,N,vs,j,r,V,M,e,G,p⟩,λb h=>.inl h⟩
theorem OH.ext {g base:Nat} {f s:List (List Sp)} {D:Nat->Prop} {w w':World} (h:OH g base f s D w) (e:Al w w'):OH g base f s D w':=by
 obtain ⟨i,j,vs,k,m,l,b,d,c,a⟩:=h;exact ⟨i,j,vs,e.keep k,m.ext e,l,b,Nat.le_trans d e.size,c,a⟩
theorem Ip {S:Type} (f:S->Re->S):∀(l:List Re) (s:S),E0 (λs t=>(true,f s t)) l s=(true,l.foldl f s)
 | [],s=>rfl
 | t::l,s=>by simp only[E0,if_true,List.foldl_cons];exact Ip f l _
theorem VN (w0:World) (t:Re) (vs:List Value) (ht:CG w0 t vs) (hv:Gx (fun s=>BT s=0) t) (hs:t.size≤1000) :
  CB prog 82 #[.agg vs.toArray] w0 fun v w=>Ck w v (C' t)∧Al w0 w:=by
 have ab:=ht;obtain ⟨sa,sc,aa,ac,rfl,af,_,_⟩:=ht.form;have ad:(C' t).length≤1000∧∀s∈C' t,BT s=0:=⟨Nat.le_trans (Lw t) hs,Mo hv⟩;have hw:CY (fun s t=>(true,Gc s t)) t []=(true,C' t):=by rw[Iq,Ip];rfl
 have ag:Gx (fun s=>s∈C' t) t:=QW fun s h=>h;refine qR func82 rfl ntmps82 rfl (fun E=>(Y (BP (v:=(.agg (R6 t sa sc aa ac))) (c:=(R6 t sa sc aa ac)) qD rfl rfl ?_)));intro br wr Nr;have Fr:=Nr.ge E;replace E:=E.ext Nr.ext;have Br:=Nr.blk;refine qA _ rfl (AA (Y (By (c:=#[(.slice none 0 0)]) qD Uu rfl ?_)));intro bo wo No;have Fo:=No.ge E;have Oo_br:=No.lt Br;replace Br:=No.keep Br;replace E:=E.ext No.ext;have Bo:=No.blk;refine AA (Y (qV (Aa (vs:=[(I6 t.kind),(.slice sa t.set.length sc),(.slice aa t.args.length ac),(I6 t.mn),(I6 t.mx),(.bool t.neg)]) rfl DK Ca rfl (Br.cells rfl)) (qV (B7 rfl rfl) ?_)));have ah:=Bo.lt;have ae:OH bo wo.heap.size (C' t) [] (fun b=>b=bo) wo:=⟨none,0,[],Bo,LSt.start _ _ _ _ _,fun b=>⟨.inl,fun h=>h.elim id (fun h=>by cases h)⟩,Bo.lt,Nat.le_refl _,List.nodup_nil,fun x hx=>by cases hx⟩;refine qE rfl (AV func129 kQ kQ rfl) ((Tu (fun s t=>(true,Gc s t)) (OH bo wo.heap.size (C' t)) (Gx (fun s=>s∈C' t)) _ wr (fun s D w hI b hb=>by obtain ⟨oa,oc,vs,hB,hL,hD,h1,h2,_,_⟩:=hI;rcases (hD b).1 hb with h|h;exact ⟨by have:=No.eq;omega,qO⟩;exact ⟨by have:=(hL.o.lt b h).1;have:=No.size;omega,(hL.o.lt b h).2⟩) (fun s D w w' hI e=>hI.ext e) (fun t h x hx=>h.a x hx) (fun s D w t vs hE hP hI hx=>CQ.mk (first:=#[]) (cap:=#[.pointer (some ⟨bo,0,none⟩)]) func133 kQ kQ rfl (Uj w bo wo.heap.size _ ad s D t vs hI hP (CG.ext hE t hx))) t.size t (Nat.le_refl _) ag [] (fun b=>b=bo) _ _ No.ext ae (CG.ext Nr.ext t ab)).mono (R':=fun v w=>v=.bool true∧(∃oa oc vs,Az w bo #[.slice oa (C' t).length oc] VO∧LSt PA Ll 2 w wo.heap.size (.slice oa (C' t).length oc) vs ((C' t).map SU))∧Chg (fun b=>b=bo) wo w) (fun v w h=>by obtain ⟨D',h1,h2,h3,_⟩:=h;rw[hw] at h1 h3;obtain ⟨oa,oc,vs,hB,hL,_⟩:=h3;exact ⟨h1,⟨oa,oc,vs,hB,hL⟩,h2⟩)) ?_;rintro _ w9 ⟨rfl,⟨oa,oc,us,ai,hL⟩,C9⟩;replace Br:=C9.keep qO Br;replace E:=E.step C9 (by intro x hx hm;omega);refine AA (Y (qV (AE rfl G9 (ai.cell rfl)) (qA _ rfl (AA (AS (AY results82 (v:=(.slice oa ((C' t).length) oc)) rfl ?_))))));exact ⟨hL.spss,E⟩
end Go.Proofs
namespace Go.Proofs
open Go Go.Eng Go.Sort
set_option maxRecDepth 100000
mutual
theorem HE:∀{t:Re},G5 t->Gx (λs=>BT s=0) t
 | .mk k s a m x g,h=>⟨λb=>((UB (t:=.mk k s a m x g) h (by show k≠9;omega) (by show k≠10;omega) O).k2 b).2,Gy (KR h)⟩
theorem Gy:∀{a:List Re},GP a->IV (λs=>BT s=0) a
 | [],_=>trivial
 | t::a,h=>by
  simp only[GP] at h;exact ⟨HE h.1,Gy h.2⟩
end
end Go.Proofs
namespace Go.Proofs
open Go Go.Eng Go.Sort
set_option maxRecDepth 100000
structure RRow (S:Nat->Prop) (w:World) where
 t:Re
 vs:List Value
 h:OG S w t vs
instance {S:Nat->Prop} {w:World}:Inhabited (RRow S w):=⟨⟨_,_,Qf S w 0⟩⟩
end Go.Proofs
namespace Go.Proofs
open Go Go.Eng Go.Sort
set_option maxRecDepth 100000
theorem Rl {b out:List (List Sp)} {e:Int} (h:N0 b out e) (d:∀l∈b,BT l=0) (f:e≠0):e=2:=by
 rcases h with ⟨c,_⟩|⟨_,cs,_,⟨_,a,_⟩|⟨_,a,_⟩⟩
 .exact absurd (HA d) c
 .exact a
 .exact absurd a f
theorem TO {a out:List (List Sp)} {e:Int} (h:N0 a out e) (d:∀l∈a,BT l=0) (he:e=0):Me a out∧out.length<=16:=by
 rcases h with ⟨c,_⟩|⟨_,cs,g,⟨_,f,_⟩|⟨b,f,rfl⟩⟩
 .exact absurd (HA d) c
 .omega
 .refine ⟨g,?_⟩;unfold LL at b;exact Nat.le_of_not_lt λh=>b (.inr h)
end Go.Proofs
namespace Go.Proofs
open Go Go.Eng Go.Sort
set_option maxRecDepth 100000
theorem IP {w:World} {b o:Nat} {c:Array Value} {t:TypeId} (h:Az w b c t):w.cell? ⟨b,o,none⟩=c[o]?:=by
 unfold Az at h;simp[World.cell?,h]
theorem Iw {w w':World} {k:Nat} {v:Value} {rows:List (List Value)} (h:BO w k v rows) (f:∀b o r,r∈rows->BA w b o r->BA w' b o r):BO w' k v rows:=by
 obtain ⟨a,cap,e,g,c,h⟩:=h;refine ⟨a,cap,e,g,c,?_⟩;rcases h with h|⟨b,o,j,h⟩
 .exact .inl h
 .exact .inr ⟨b,o,j,λi r d=>f _ _ r (List.mem_of_getElem? d) (h i r d)⟩
theorem PI {w w':World} {g T:Nat} {x:Int} {v:Value} {cs:List (List Sp)} (h:Ck w v cs) (m:∀l∈cs,l≠[]) (p:Az w g #[.int .i64 x,.slice none 0 0,.slice none 0 0] T) (c:Chg (λy=>y=g) w w'):Ck w' v cs:=by
 obtain ⟨us,B,t,q⟩:=h;have f:∀(u:Value) (l:List Sp),BW w u l->BW w' u l:=λu l h=>Iw h λb o r n d=>by
  by_cases e:b=g
  .subst e;obtain ⟨s,_,rfl⟩:=List.mem_map.1 n;have a0:=d 0 _ O;have z:=d 1 _ O;rw[IP p] at a0 z;exfalso
   match o with
   | 0=>simp at z
   | 1=>simp at a0
   | 2=>simp at a0
   | o+3=>simp at a0
  .exact d.chg c e
 refine ⟨us,Iw B λb o r n d=>?_,t,λi u l k j=>f u l (q i u l k j)⟩;by_cases e:b=g
 .subst e;obtain ⟨u,k,rfl⟩:=List.mem_map.1 n;obtain ⟨i,hi⟩:=List.getElem?_of_mem k;obtain ⟨l,j⟩:=AK (l:=cs) (i:=i) (by rw[<-t];exact AG hi);obtain ⟨a,cap,A,_⟩:=q i u l hi j;have hn:=List.length_pos_iff.2 (m l (List.mem_of_getElem? j));have a0:=d 0 _ O;rw[IP p,A] at a0;exfalso
  match o with
  | 0=>simp at a0
  | 1=>simp at a0;omega
  | 2=>simp at a0;omega
  | o+3=>simp at a0
 .exact d.chg c e
def Vt (t:Re) (m:Nat) (r:Value) (w:World):Prop:=
 (∃e,(EW t 40≠0∧e=EW t 40∨EW t 40=0∧FG [10] t=true∧e=3∨EW t 40=0∧FG [10] t=false∧((∃out,N0 (C' t) out 2)∨∃cs,N0 (C' t) cs 0∧trO cs.length cs t=none)∧e=2)∧r=.tuple #[.agg #[.int .i64 0,.slice none 0 0,.slice none 0 0],.slice none 0 0,.int .i64 e])∨
 (EW t 40=0∧FG [10] t=false∧∃(cs:List (List Sp)) (d:Dfa) (ca:Option Addr) (cc:Nat) (ea:Option Addr) (ec:Nat) (na:Option Addr) (nc:Nat),N0 (C' t) cs 0∧trO cs.length cs t=some d∧GoodD cs.length d∧d.next.length<=200∧1<=cs.length∧cs.length<=16∧
  r=.tuple #[.agg #[.int .i64 d.start,.slice ea d.accept.length ec,.slice na d.next.length nc],.slice ca cs.length cc,.int .i64 0]∧Cp (λb=>m<=b) w d [.int .i64 d.start,.slice ea d.accept.length ec,.slice na d.next.length nc]∧Ck w (.slice ca cs.length cc) cs)
theorem TJ (w0:World) (t:Re) (vs:List Value) (ht:CG w0 t vs) (hof:G5 t→t.size≤1000000→∀cs:List (List Sp),1≤cs.length∧cs.length≤16→(∀l∈cs,l≠[])→K1 cs.length cs t) :
  CB prog 33 #[.agg vs.toArray] w0 fun r w=>Vt t w0.heap.size r w∧Al w0 w:=by
 have aj:=ht;obtain ⟨sa,sc,aa,ac,rfl,_,_,_⟩:=ht.form;refine qR func33 rfl ntmps33 rfl (fun E=>(Y (BP (v:=(.agg (R6 t sa sc aa ac))) (c:=(R6 t sa sc aa ac)) qD rfl rfl ?_)));intro bq wq Nq;have Fq:=Nq.ge E;replace E:=E.ext Nq.ext;have Bq:=Nq.blk;refine By (c:=#[(I6 0),(.slice none 0 0),(.slice none 0 0)]) qD Ce rfl ?_;intro br wr Nr;have Fr:=Nr.ge E;have Or_bq:=Nr.lt Bq;replace Bq:=Nr.keep Bq;replace E:=E.ext Nr.ext;have Br:=Nr.blk;refine qA _ rfl (qA _ rfl (AA (AI (Y (qV (Aa (vs:=[(I6 t.kind),(.slice sa t.set.length sc),(.slice aa t.args.length ac),(I6 t.mn),(I6 t.mx),(.bool t.neg)]) rfl DK Ca rfl (Bq.cells rfl)) (qE rfl (AV func79 kQ kQ rfl) (TQ _ t _ (CG.ext E t aj)) ?_))))));rintro _ w9 ⟨rfl,X9⟩;replace Bq:=X9.keep Bq;replace Br:=X9.keep Br;replace E:=E.ext X9;refine qA _ rfl (AA (Y (qM _ rfl (qV (CE rfl rfl) (AA (qC rfl (fun he=>?_) (fun he=>?_)))))))
 ·refine Y (qV (B' (ps:=[]) (v:=(.agg #[(I6 0),(.slice none 0 0),(.slice none 0 0)])) rfl qK) (qM _ rfl (A8 (b:=br) (o:=0) (c':=#[(I6 0),(.slice none 0 0),(.slice none 0 0)]) rfl rfl qS Aw rfl Br qL rfl ?_)));intro w2 S2;replace Bq:=S2.keep qO Bq;replace E:=S2.step E qQ;replace Br:=S2.blk;refine qA _ rfl (qA _ rfl (AA (AS (AU (D5 results33 (vs:=[(.int .i64 0),(.slice none 0 0),(.slice none 0 0)]) (b:=br) (v':=(.slice none 0 0)) (v'':=(.int .i64 (EW t 40))) rfl BB Aw rfl (Br.cells rfl) rfl rfl ?_)))));exact ⟨.inl ⟨_,.inl ⟨he,rfl⟩,rfl⟩,E⟩
 ·have ag:EW t 40=0:=qO
  obtain ⟨au,hsz⟩:=(JZ qD qD).1 ag;have hv:=HE au;have ab:=Mo hv;have aq:=Lw t;have ay:=RR ab;refine AM (AB (AI (Y (qV (Aa (vs:=[(I6 t.kind),(.slice sa t.set.length sc),(.slice aa t.args.length ac),(I6 t.mn),(I6 t.mx),(.bool t.neg)]) rfl DK Ca rfl (Bq.cells rfl)) (Ah (ps:=[(0,(I6 10))]) (c:=#[(I6 10)]) qD rfl underlying22 Ad BY qD qD qK ?_)))));intro bk wk Nk;have Fk:=Nk.ge E;have Ok_bq:=Nk.lt Bq;have Ok_br:=Nk.lt Br;replace Bq:=Nk.keep Bq;replace Br:=Nk.keep Br;replace E:=E.ext Nk.ext;have Bk:=Nk.blk;refine qE rfl (AV func80 kQ kQ rfl) (Tx _ t _ [10] _ (CG.ext E t aj) (Ev Bk rfl qD)) ?_;rintro _ w19 ⟨rfl,al⟩;replace Bq:=al.keep Bq;replace Br:=al.keep Br;replace Bk:=al.keep Bk;replace E:=E.ext al;refine AA (As rfl (fun hu=>?_) (fun hu=>?_))
  ·have a2:=hu;refine Y (qV (B' (ps:=[]) (v:=(.agg #[(I6 0),(.slice none 0 0),(.slice none 0 0)])) rfl qK) (A8 (b:=br) (o:=0) (c':=#[(I6 0),(.slice none 0 0),(.slice none 0 0)]) rfl rfl qS Aw rfl Br qL rfl ?_));intro w4 S4;replace Bq:=S4.keep qO Bq;replace Bk:=S4.keep qO Bk;replace E:=S4.step E qQ;replace Br:=S4.blk;refine qA _ rfl (qA _ rfl (AA (AS (AU (D5 results33 (vs:=[(.int .i64 0),(.slice none 0 0),(.slice none 0 0)]) (b:=br) (v':=(.slice none 0 0)) (v'':=(.int .i64 3)) rfl BB Aw rfl (Br.cells rfl) rfl rfl ?_)))));exact ⟨.inl ⟨3,.inr (.inl ⟨ag,hu,rfl⟩),rfl⟩,E⟩
  ·have a2:=hu;refine AM (AB (Y (qV (Aa (vs:=[(I6 t.kind),(.slice sa t.set.length sc),(.slice aa t.args.length ac),(I6 t.mn),(I6 t.mx),(.bool t.neg)]) rfl DK Ca rfl (Bq.cells rfl)) (qE rfl (AV func82 kQ kQ rfl) ((VN _ t _ (CG.ext E t aj) hv qO).mono (R':=fun v w=>(∃a c,v=.slice a (C' t).length c∧Ck w (.slice a (C' t).length c) (C' t))∧Al _ w) (fun v w h=>⟨by obtain ⟨a,c,h1,_⟩:=h.1.form;exact ⟨a,c,h1,h1▸h.1⟩,h.2⟩)) ?_))));rintro _ w29 ⟨⟨a9,c9,rfl,a4⟩,ai⟩;replace Bq:=ai.keep Bq;replace Br:=ai.keep Br;replace Bk:=ai.keep Bk;replace E:=E.ext ai;refine qE rfl (AV func81 kQ kQ rfl) (TP _ _ (C' t) a4 qO qO) ?_;rintro _ a3 ⟨⟨cs,e,ae,ca,cc,rfl,ad⟩,ak⟩;replace Bq:=ak.keep Bq;replace Br:=ak.keep Br;replace Bk:=ak.keep Bk;replace E:=E.ext ak;refine qM _ rfl (qV (Aj rfl rfl) (qV (Aj rfl rfl) (qA _ rfl (qA _ rfl (AA (AI (Y (qM _ rfl (qV (CE rfl rfl) (AA (qC rfl (fun az=>?_) (fun az=>?_))))))))))))
   ·have am:=Rl ae ab az;refine Y (qV (B' (ps:=[]) (v:=(.agg #[(I6 0),(.slice none 0 0),(.slice none 0 0)])) rfl qK) (qM _ rfl (A8 (b:=br) (o:=0) (c':=#[(I6 0),(.slice none 0 0),(.slice none 0 0)]) rfl rfl qS Aw rfl Br qL rfl ?_)));intro w6 S6;replace Bq:=S6.keep qO Bq;replace Bk:=S6.keep qO Bk;replace E:=S6.step E qQ;replace Br:=S6.blk;refine qA _ rfl (qA _ rfl (AA (AS (AU (D5 results33 (vs:=[(.int .i64 0),(.slice none 0 0),(.slice none 0 0)]) (b:=br) (v':=(.slice none 0 0)) (v'':=(.int .i64 e)) rfl BB Aw rfl (Br.cells rfl) rfl rfl ?_)))));exact ⟨.inl ⟨e,.inr (.inr ⟨ag,hu,.inl ⟨cs,by rw[←am];exact ae⟩,am⟩),rfl⟩,E⟩
   ·have am:e=0:=qO
    rw[am] at ae;obtain ⟨a0,af⟩:=TO ae ab rfl;have aw:=Rj a0 (RQ ab);have ar:1≤cs.length:=by
     obtain ⟨cl,hm,_⟩:=TN (c:=0) a0 (RQ ab) qD qD;exact List.length_pos_of_mem hm
    refine AM (AB (Y (qV (Aa (vs:=[(I6 t.kind),(.slice sa t.set.length sc),(.slice aa t.args.length ac),(I6 t.mn),(I6 t.mx),(.bool t.neg)]) rfl DK Ca rfl (Bq.cells rfl)) (qM _ rfl ?_))));obtain ⟨n9,ao⟩:∃n9,n9=(a3).heap.size:=⟨_,rfl⟩;have hlt:w0.heap.size≤n9∧br<n9:=⟨by rw[ao];exact E.size,by rw[ao];exact Br.lt⟩;refine qE rfl (AV func83 kQ kQ rfl) ((UF _ cs t _ ca cc (hof au qO cs ⟨ar,af⟩ (fun l hl=>(aw l hl).1)) ad (CG.ext E t aj)).mono (R':=fun r w=>(∃(d:Dfa) (ea:Option Addr) (ec:Nat) (na:Option Addr) (nc:Nat) (e:Int),r=.tuple #[.agg #[.int .i64 d.start,.slice ea d.accept.length ec,.slice na d.next.length nc],.int .i64 e]∧((e=0∧trO cs.length cs t=some d∧GoodD cs.length d∧d.next.length≤200∧Cp (fun b=>n9≤b) w d [.int .i64 d.start,.slice ea d.accept.length ec,.slice na d.next.length nc])∨(e=2∧trO cs.length cs t=none)))∧Al _ w) (fun r w h=>⟨by
     rcases h.1 with ⟨d,ea,ec,na,nc,h1,h2,h3,h4,h5⟩|⟨h1,h2⟩
     ·exact ⟨d,ea,ec,na,nc,0,h4,.inl ⟨rfl,h1,h2,h3,by rw[ao];exact h5⟩⟩
     ·exact ⟨⟨0,[],[]⟩,none,0,none,0,2,h2,.inr ⟨rfl,h1⟩⟩,h.2⟩)) ?_
    rintro _ w49 ⟨⟨d,ea,ec,na,nc,e9,rfl,av⟩,ah⟩;replace Bq:=ah.keep Bq;replace Br:=ah.keep Br;replace Bk:=ah.keep Bk;replace E:=E.ext ah;replace ad:=ad.ext ah;refine qM _ rfl (qV (Aj rfl rfl) (qV (Aj rfl rfl) (A6 (v:=(.agg #[(I6 d.start),(.slice ea d.accept.length ec),(.slice na d.next.length nc)])) (c:=#[(I6 d.start),(.slice ea d.accept.length ec),(.slice na d.next.length nc)]) (n:=3) qD Ce rfl Aw rfl rfl rfl qS ?_)));intro bd wd Nd;have Fd:=Nd.ge E;have Od_bq:=Nd.lt Bq;have Od_br:=Nd.lt Br;have Od_bk:=Nd.lt Bk;replace Bq:=Nd.keep Bq;replace Br:=Nd.keep Br;replace Bk:=Nd.keep Bk;replace ad:=ad.ext Nd.ext;replace E:=E.ext Nd.ext;have Bd:=Nd.blk;refine qA _ rfl (AA (AI (Y (qM _ rfl (qV (CE rfl rfl) (AA (qC rfl (fun an=>?_) (fun an=>?_))))))))
    ·have ax:e9=2∧trO cs.length cs t=none:=by rcases av with h|h;exact absurd h.1 an;exact h
     refine Y (qV (B' (ps:=[]) (v:=(.agg #[(I6 0),(.slice none 0 0),(.slice none 0 0)])) rfl qK) (qM _ rfl (A8 (b:=br) (o:=0) (c':=#[(I6 0),(.slice none 0 0),(.slice none 0 0)]) rfl rfl qS Aw rfl Br qL rfl ?_)));intro w8 S8;replace Bq:=S8.keep qO Bq;replace Bk:=S8.keep qO Bk;replace Bd:=S8.keep qO Bd;replace E:=S8.step E qQ;replace Br:=S8.blk;refine qA _ rfl (qA _ rfl (AA (AS (AU (D5 results33 (vs:=[(.int .i64 0),(.slice none 0 0),(.slice none 0 0)]) (b:=br) (v':=(.slice none 0 0)) (v'':=(.int .i64 e9)) rfl BB Aw rfl (Br.cells rfl) rfl rfl ?_)))));exact ⟨.inl ⟨e9,.inr (.inr ⟨ag,hu,.inr ⟨cs,ae,ax.2⟩,ax.1⟩),rfl⟩,E⟩
    ·obtain ⟨_,hd,gd,a1,hD⟩:=av.resolve_right (fun h=>an (by rw[h.1];decide));replace hD:=hD.ext Nd.ext;have ap:=Br;refine AM (AB (Y (qV (Aa (vs:=[(I6 d.start),(.slice ea d.accept.length ec),(.slice na d.next.length nc)]) rfl BB Aw rfl (Bd.cells rfl)) (qM _ rfl (A8 (b:=br) (o:=0) (c':=#[(I6 d.start),(.slice ea d.accept.length ec),(.slice na d.next.length nc)]) rfl rfl qS Aw rfl Br qL rfl ?_)))));intro w9 S9;replace hD:=hD.put S9.chg fun y h1 h=>by have h':y=_:=h;omega
     replace ad:=PI ad (fun l hl=>(aw l hl).1) ap S9.chg;replace Bq:=S9.keep qO Bq;replace Bk:=S9.keep qO Bk;replace Bd:=S9.keep qO Bd;replace E:=S9.step E qQ;replace Br:=S9.blk;refine qA _ rfl (qA _ rfl (AA (AS (D5 results33 (vs:=[(.int .i64 d.start),(.slice ea d.accept.length ec),(.slice na d.next.length nc)]) (b:=br) (v':=(.slice ca cs.length cc)) (v'':=(.int .i64 0)) rfl BB Aw rfl (Br.cells rfl) rfl rfl ?_))));exact ⟨.inr ⟨ag,hu,cs,d,ca,cc,ea,ec,na,nc,ae,hd,gd,a1,ar,af,rfl,hD.mono fun b hb=>by have hb':n9≤b:=hb;omega,ad⟩,E⟩
end Go.Proofs
namespace Go.Proofs
open Go Go.Eng Go.Sort
set_option maxRecDepth 100000
def VY (s:List Sp) (cs:List (List Sp)):Prop:=∀x∈cs,∀o,GG o (λr=>Cq s r && Cq x r)->o=[]∨o=x
open Classical in
noncomputable def unnB (s:List Sp) (cs:List (List Sp)):Bool:=decide (VY s cs)
open Classical in
open Classical in
open Classical in
noncomputable def OvE (t:Re) (cs:List (List Sp)):Int:=if EW t 40≠0 then EW t 40 else if partE cs≠0 then partE cs else if FG [10] t=true∨(C' t).any (λs=>!unnB s cs)=true then 3 else if trO cs.length cs t=none then 2 else 0
end Go.Proofs
namespace Go.Proofs
open Go Go.Eng Go.Sort
set_option maxRecDepth 100000
def J7:List (List Sp):=[[(0,96),(98,1114111)],[(97,97)]]
theorem Rk {out:List (List Sp)} {e:Int} (h:N0 [[(97,97)]] out e):e=0∧out=J7:=by
 have c1:Canon [((97:Int),(97:Int))]:=Canon.one (by unfold EL;simp);rcases h with ⟨f,_⟩|⟨_,cs,d,v⟩
 .refine absurd (IA λl b=>?_) f;simp at b;subst b;exact P1 c1 qP
 .obtain ⟨p,m,b,j⟩:=d;have s:p=[0,97,98]:=KV m.1 qP λx=>by
   rw[m.2 x];unfold Ju;simp
  subst s;have u:DX (([0,97,98]:List Int).map (BQ [[(97,97)]]))=[[false],[true]]:=qD
  rw[u] at b j;have mk:∀r,BQ [[(97,97)]] r=[decide (97<=r) && decide (r<=97)]:=λr=>by simp[BQ,Cq]
  obtain ⟨x,y,rfl⟩:∃x y,cs=[x,y]:=by
   rcases cs with _|⟨x,_|⟨y,_|⟨z,t⟩⟩⟩<;>simp at b;exact ⟨x,y,O⟩
  have n:=j 0 _ x O O;have f:=j 1 _ y O O;have o:x=[(0,96),(98,1114111)]:=H9 n.1 (P4 qD qD qD qD qD) λr g i=>by
   rw[n.2 r g i,Bool.eq_iff_iff,decide_eq_true_eq,mk];simp only[Cv,Fy,Bool.or_false,Bool.or_eq_true,Bool.and_eq_true,decide_eq_true_eq,List.cons.injEq,and_true,Bool.and_eq_false_iff,decide_eq_false_iff_not];omega
  have q:y=[(97,97)]:=H9 f.1 c1 λr g i=>by
   rw[f.2 r g i,Bool.eq_iff_iff,decide_eq_true_eq,mk];simp only[Cv,Fy,Bool.or_false,Bool.and_eq_true,decide_eq_true_eq,List.cons.injEq,and_true]
  subst o;subst q;rcases v with ⟨k,_⟩|⟨_,k,a⟩
  .rcases k with ⟨c,d,a⟩|a
   .simp at d;rcases d with rfl|rfl<;>simp at a
   .simp at a
  .exact ⟨k,a⟩
def aD:Dfa:=⟨0,[-1,0],[[-1,1],[-1,-1]]⟩
theorem Uz (s:Int) (x:Nat):Bu aD s x = -1∨Bu aD s x=1:=by
 unfold Bu aD;split
 .exact .inl O
 .match s.toNat,x with
  | 0,0=>exact .inl O
  | 0,1=>exact .inr O
  | 0,x+2=>exact .inl O
  | 1,0=>exact .inl O
  | 1,1=>exact .inl O
  | 1,x+2=>exact .inl O
  | n+2,x=>exact .inl O
theorem VJ:Cj 2 (beh (FW J7 [(97,97)]) 0) aD:=by
 have e:FW J7 [(97,97)]=aD:=by unfold FW aD setRow J7;simp[Cq,BM,List.replicate]
 rw[e];refine ⟨2,⟨⟨O,O,qD,qD,qD⟩,O,?_,?_,qD⟩,λw _=>rfl,?_,?_⟩
 .intro k x h
  match k,h with
  | 0,h=>simp[aD] at h;subst h;decide
  | 1,h=>simp[aD] at h;subst h;decide
  | 2,h=>simp[aD] at h;subst h;decide
  | 3,h=>simp[aD] at h;subst h;decide
  | k+4,h=>simp[aD] at h
 .intro i hi
  match i,hi with
  | 0,_=>decide
  | 1,_=>decide
 .intro s t a h2 h3 h4 h;have c:=h [] (λx b=>by cases b);have hs:s=0∨s=1:=qO
  have d:t=0∨t=1:=qO
  rcases hs with rfl|rfl<;>rcases d with rfl|rfl
  .rfl
  .exact absurd c qD
  .exact absurd c qD
  .rfl
 .intro s x _ h;rcases Uz s x with a|a
  .rw[a] at h;exact absurd h qD
  .rw[a];exact ⟨[],(λx b=>by cases b),qD⟩
def aR:Re:=.mk 2 [(97,97)] [] 0 0 false
theorem Ux:trO 2 J7 aR=some aD:=by
 have h:trN 2 J7 aR=some aD:=by rw[Ti rfl];exact Il VJ
 exact (HF h).1 qD
end Go.Proofs
namespace Go.Proofs
open Go Go.Eng Go.Sort
set_option maxRecDepth 100000
theorem Sy {c:Nat} {u v:List Nat}:C0 c (u++v)↔C0 c u∧C0 c v:=by
 unfold C0;simp only[List.mem_append];exact ⟨λh=>⟨λx a=>h x (.inl a),λx a=>h x (.inr a)⟩,λh x a=>a.elim (h.1 x) (h.2 x)⟩
open Classical in
section
variable {c : Nat} {cs : List (List Sp)} {a b d : Dfa} {A B : Lg} {f : List Nat → Int}
theorem Ml {d:Dfa}:∀(w:List Nat),beh d (-1) w = -1:=λw=>C6 qD
end
end Go.Proofs
namespace Go.Proofs
open Go Go.Eng Go.Sort
set_option maxRecDepth 100000
def GD:Re:=.mk 5 [] [aR] 0 0 false
def sD:Dfa:=⟨0,[0],[[-1,0]]⟩
theorem T0:Bu sD 0 1=0:=qD
theorem Uy (s:Int) (x:Nat):Bu sD s x = -1∨Bu sD s x=0:=by
 unfold Bu sD;split
 .exact .inl O
 .match s.toNat,x with
  | 0,0=>exact .inl O
  | 0,1=>exact .inr O
  | 0,x+2=>exact .inl O
  | n+1,x=>exact .inl O
theorem Tp:∀w:List Nat,C0 2 w->beh sD 0 w=if ∀x∈w,x=1 then 0 else -1
 | [],_=>by rw[if_pos qP];rfl
 | x::w,h=>by
  have hx:=h.head;have e:x=0∨x=1:=qO
  rcases e with rfl|rfl
  .show beh sD (Bu sD 0 0) w=_;rw[show Bu sD 0 0 = -1 by decide,Ml,if_neg];intro a;exact absurd (a 0 qP) qD
  .show beh sD (Bu sD 0 1) w=_;rw[T0,Tp w h.tail];by_cases a:∀x∈w,x=1
   .rw[if_pos a,if_pos (by simpa using a)]
   .rw[if_neg a,if_neg (by simpa using a)]
theorem Uh {w:List Nat} (h:C0 2 w):0<=beh aD 0 w↔w=[1]:=by
 match w,h with
 | [],_=>exact ⟨λh=>absurd h qD,λh=>by cases h⟩
 | [x],h=>
  have a:=h.head;have e:x=0∨x=1:=qO
  rcases e with rfl|rfl
  .exact ⟨λh=>absurd h qD,λh=>by simp at h⟩
  .exact ⟨λ_=>rfl,λ_=>qD⟩
 | x::y::w,h=>
  have a:=h.head;have hy:=h.tail.head;have e:x=0∨x=1:=qO
  have f:y=0∨y=1:=qO
  have b:beh aD 0 (x::y::w) = -1:=by
   show beh aD (Bu aD (Bu aD 0 x) y) w = -1;have:Bu aD (Bu aD 0 x) y = -1:=by rcases e with rfl|rfl<;>rcases f with rfl|rfl<;>decide
   rw[this,Ml]
  rw[b];exact ⟨λh=>absurd h qD,λh=>by simp at h⟩
theorem KD:∀n:Nat,StarW (beh aD 0) (List.replicate n 1)
 | 0=>.nil
 | n+1=>by
  rw[List.replicate_succ,show (1::List.replicate n 1)=[1]++List.replicate n 1 from rfl];exact .cons qD (KD n)
theorem QM {w:List Nat} (d:C0 2 w):StarW (beh aD 0) w↔∀x∈w,x=1:=by
 constructor
 .intro h
  induction h with
  | nil=>intro x b;cases b
  | @cons u v h1 _ ih=>
   obtain ⟨c,f⟩:=Sy.1 d;have e:=(Uh c).1 h1;subst e;intro x b;rcases List.mem_append.1 b with a|a
   .simpa using a
   .exact ih f x a
 .intro h;have e:w=List.replicate w.length 1:=List.eq_replicate_iff.2 ⟨O,h⟩;rw[e];exact KD _
theorem VI:Cj 2 (starB aD) sD:=by
 refine ⟨1,⟨⟨O,O,qD,qD,qD⟩,O,?_,?_,qD⟩,λw b=>?_,?_,?_⟩
 .intro k x h
  match k,h with
  | 0,h=>simp[sD] at h;subst h;decide
  | 1,h=>simp[sD] at h;subst h;decide
  | k+2,h=>simp[sD] at h
 .intro i hi;obtain rfl:i=0:=qO
  decide
 .rw[Tp w b];unfold starB;rw[show aD.start=0 from rfl];by_cases h:∀x∈w,x=1
  .rw[if_pos h,if_pos ((QM b).2 h)]
  .rw[if_neg h,if_neg λc=>h ((QM b).1 c)]
 .intro s t a c h3 h4 _;omega
 .intro s x _ h;rcases Uy s x with a|a
  .rw[a] at h;exact absurd h qD
  .rw[a];exact ⟨[],(λx d=>by cases d),qD⟩
def VV:List ByteArray:=[(false,false),(false,true),(true,false),(true,true)].map λp:Bool×Bool=>DE 2 λs=>if s=0 then p.1 else p.2
theorem Sw (f:Nat->Bool):DE 2 f∈VV:=by
 have e:DE 2 f=DE 2 λs=>if s=0 then f 0 else f 1:=JN λs hs=>by
  have:s=0∨s=1:=qO
  rcases this with rfl|rfl<;>rfl
 rw[e];unfold VV;refine List.mem_map.2 ⟨(f 0,f 1),?_,O⟩;cases f 0<;>cases f 1<;>simp
theorem VE:Ge 2 (D7 aD 2 (CN aD 2)) (CN aD 2) 20000:=by
 intro l hd b;have a:(CN aD 2).size≠(2+7) / 8:=by rw[Kw];omega
 have ok:OkD 2 2 aD:=⟨O,O,qD,qD,qD⟩;have:=Hu (m:=CN aD 2::VV) hd λk c=>by
  rcases I1 ok a (b k c) with h|h
  .rw[h];simp
  .rw[h];exact List.mem_cons_of_mem _ (Sw _)
 have e:(CN aD 2::VV).length=5:=rfl;omega
theorem Tg:trO 2 J7 GD=some sD:=by
 have h:trN 2 J7 GD=some sD:=by
  rw[OR O O (y:=aR) O,Ux];show stO 2 aD=some sD;unfold stO;rw[show aD.next.length=2 from O,if_pos VE];exact Il VI
 exact (HF h).1 qD
theorem Ve {m:Nat} {r:Value} {w:World} (h:Vt GD m r w):∃c g i f j k,r=.tuple #[.agg #[.int .i64 0,.slice c 1 g,.slice i 1 f],.slice j 2 k,.int .i64 0]∧BC w sD [.int .i64 0,.slice c 1 g,.slice i 1 f]:=by
 have q:EW GD 40=0:=(JZ qD qD).2 ⟨by unfold GD aR;simp only[G5,GP,and_true];exact ⟨qD,qD⟩,qD⟩;have l:FG [10] GD=false:=qD
 have hs:C' GD=[[(97,97)]]:=qD
 rcases h with ⟨e,a,_⟩|⟨_,_,cs,d,j,k,c,g,i,f,a,b,_,_,_,_,n,p,_⟩
 .rcases a with ⟨a,_⟩|⟨_,a,_⟩|⟨_,_,a,_⟩
  .exact absurd q a
  .rw[l] at a;cases a
  .rw[hs] at a;rcases a with ⟨out,a⟩|⟨cs,a,b⟩
   .exact absurd (Rk a).1 qD
   .rw[(Rk a).2] at b;have:=Tg;rw[show (J7.length:Nat)=2 from rfl] at b;rw[b] at this;cases this
 .rw[hs] at a;have o:=(Rk a).2;subst o;rw[show (J7.length:Nat)=2 from rfl] at b;rw[Tg] at b;cases b;exact ⟨c,g,i,f,j,k,n,p.at'⟩
end Go.Proofs
namespace Go.Proofs
open Go Go.Eng
set_option maxRecDepth 100000
theorem U3 (w0:World) (lo hi:Int):CB prog 118 #[.int .i64 lo,.int .i64 hi] w0 fun v w=>v=.agg #[.int .i64 lo,.int .i64 hi]∧Al w0 w:=by
 refine qR func118 rfl ntmps118 rfl (fun E=>(Y (By (c:=#[(I6 0),(I6 0)]) qD FF rfl ?_)));intro b1 w1 N1;have F1:=N1.ge E;replace E:=E.ext N1.ext;have B1:=N1.blk;refine AA (Y (qM _ rfl (qM _ rfl (qV (B' (ps:=[(0,(I6 lo)),(1,(I6 hi))]) (v:=(.agg #[(I6 lo),(I6 hi)])) rfl qK) (A8 (b:=b1) (o:=0) (c':=#[(I6 lo),(I6 hi)]) rfl rfl qS CJ rfl B1 qL rfl ?_)))));intro w2 S2;replace E:=S2.step E qQ;replace B1:=S2.blk;refine AA (AS (C5 results118 (vs:=[(.int .i64 lo),(.int .i64 hi)]) (b:=b1) rfl GF CJ rfl (B1.cells rfl) ?_));exact ⟨rfl,E⟩
theorem UL (w0:World) (r:Int):CB prog 60 #[.int .i64 r] w0 fun v w=>∃b,v=.agg #[.int .i64 2,.slice (some ⟨b,0,none⟩) 1 1,.slice none 0 0,.int .i64 0,.int .i64 0,.bool false]∧BW w (.slice (some ⟨b,0,none⟩) 1 1) [(r,r)]∧Al w0 w:=by
 refine qR func60 rfl ntmps60 rfl (fun E=>(Y (By (c:=#[(I6 0),(.slice none 0 0),(.slice none 0 0),(I6 0),(I6 0),(.bool false)]) qD Lm rfl ?_)));intro bp wp Np;have Fp:=Np.ge E;replace E:=E.ext Np.ext;have Bp:=Np.blk;refine AA (Y (qM _ rfl (qM _ rfl (qE rfl (AV func118 kQ kQ rfl) (U3 _ r r) ?_))));rintro _ w9 ⟨rfl,X9⟩;replace Bp:=X9.keep Bp;replace E:=E.ext X9;refine Ah (ps:=[(0,(.agg #[(I6 r),(I6 r)]))]) (c:=#[(I6 r),(I6 r)]) qD rfl underlying37 CJ FF qD qD qK ?_;intro bq wq Nq;have Fq:=Nq.ge E;have Oq_bp:=Nq.lt Bp;replace Bp:=Nq.keep Bp;replace E:=E.ext Nq.ext;have Bq:=Nq.blk;refine qV (B' (ps:=[(0,(I6 2)),(1,(.slice (some ⟨bq,0,none⟩) 1 1))]) (v:=(.agg #[(I6 2),(.slice (some ⟨bq,0,none⟩) 1 1),(.slice none 0 0),(I6 0),(I6 0),(.bool false)])) rfl qK) (A8 (b:=bp) (o:=0) (c':=#[(I6 2),(.slice (some ⟨bq,0,none⟩) 1 1),(.slice none 0 0),(I6 0),(I6 0),(.bool false)]) rfl rfl qS Ca rfl Bp qL rfl ?_);intro w1 S1;replace Bq:=S1.keep qO Bq;replace E:=S1.step E qQ;replace Bp:=S1.blk;refine AA (AS (C5 results60 (vs:=[(.int .i64 2),(.slice (some ⟨bq,0,none⟩) 1 1),(.slice none 0 0),(.int .i64 0),(.int .i64 0),(.bool false)]) (b:=bp) rfl DK Ca rfl (Bp.cells rfl) ?_));exact ⟨bq,rfl,K6 [(r,r)] Bq qP qP,E⟩
theorem St (w0:World) (t:Re) (vs:List Value) (ht:CG w0 t vs):CB prog 59 #[.agg vs.toArray] w0 fun v w=>(∃b,v=.agg #[.int .i64 5,.slice none 0 0,.slice (some ⟨b,0,none⟩) 1 1,.int .i64 0,.int .i64 0,.bool false]∧CG w (U0 t) [.int .i64 5,.slice none 0 0,.slice (some ⟨b,0,none⟩) 1 1,.int .i64 0,.int .i64 0,.bool false])∧Al w0 w:=by
 have ad:=ht;obtain ⟨sa,sc,aa,ac,rfl,af,ae,ab⟩:=ht.form;refine qR func59 rfl ntmps59 rfl (fun E=>(Y (BP (v:=(.agg (R6 t sa sc aa ac))) (c:=(R6 t sa sc aa ac)) qD rfl rfl ?_)));intro bp wp Np;have Fp:=Np.ge E;replace E:=E.ext Np.ext;have Bp:=Np.blk;refine By (c:=#[(I6 0),(.slice none 0 0),(.slice none 0 0),(I6 0),(I6 0),(.bool false)]) qD Lm rfl ?_;intro bo wo No;have Fo:=No.ge E;have Oo_bp:=No.lt Bp;replace Bp:=No.keep Bp;replace E:=E.ext No.ext;have Bo:=No.blk;refine AA (Y (qV (Aa (vs:=[(I6 t.kind),(.slice sa t.set.length sc),(.slice aa t.args.length ac),(I6 t.mn),(I6 t.mx),(.bool t.neg)]) rfl DK Ca rfl (Bp.cells rfl)) (Ah (ps:=[(0,(.agg (R6 t sa sc aa ac)))]) (c:=(R6 t sa sc aa ac)) qD rfl underlying66 Ca Lm qD qD qK ?_)));intro bq wq Nq;have Fq:=Nq.ge E;have Oq_bp:=Nq.lt Bp;have Oq_bo:=Nq.lt Bo;replace Bp:=Nq.keep Bp;replace Bo:=Nq.keep Bo;replace E:=E.ext Nq.ext;have Bq:=Nq.blk;refine qV (B' (ps:=[(0,(I6 5)),(2,(.slice (some ⟨bq,0,none⟩) 1 1))]) (v:=(.agg #[(I6 5),(.slice none 0 0),(.slice (some ⟨bq,0,none⟩) 1 1),(I6 0),(I6 0),(.bool false)])) rfl qK) (A8 (b:=bo) (o:=0) (c':=#[(I6 5),(.slice none 0 0),(.slice (some ⟨bq,0,none⟩) 1 1),(I6 0),(I6 0),(.bool false)]) rfl rfl qS Ca rfl Bo qL rfl ?_);intro w1 S1;replace Bp:=S1.keep qO Bp;replace Bq:=S1.keep qO Bq;replace E:=S1.step E qQ;replace Bo:=S1.blk;refine AA (AS (C5 results59 (vs:=[(.int .i64 5),(.slice none 0 0),(.slice (some ⟨bq,0,none⟩) 1 1),(.int .i64 0),(.int .i64 0),(.bool false)]) (b:=bo) rfl DK Ca rfl (Bo.cells rfl) ?_));exact ⟨⟨bq,rfl,CG.of (set:=[]) (args:=[t]) (BO.nil _ _ _ _) qP (.inr ⟨bq,0,rfl,by simp only[DM];exact ⟨⟨_,Bq.cells rfl,CG.ext E t ad⟩,trivial⟩⟩)⟩,E⟩
end Go.Proofs
namespace Go.Proofs
open Go Go.Eng Go.Sort
set_option maxRecDepth 100000
theorem BC.parts {w:World} {d:Dfa} {s:Int} {e b:Option Addr} {c f n1 n2:Nat} (h:BC w d [.int .i64 s,.slice e n1 c,.slice b n2 f]):A2 w (.slice e n1 c) d.accept∧Dd w (.slice b n2 f) d.next:=by
 obtain ⟨_,_,_,_,a,g,i⟩:=h;simp only[List.cons.injEq,Value.slice.injEq,and_true] at a;obtain ⟨_,⟨rfl,rfl,rfl⟩,rfl,rfl,rfl⟩:=a;exact ⟨g,i⟩
end Go.Proofs
namespace Go.Proofs
open Go Go.Eng Go.Sort
set_option maxRecDepth 100000
--BEGIN
def QY (d:Dfa) (s:Int) (w:List Nat):Int:=w.foldl (Bu d) s
theorem Jm (d:Dfa) (v:List Nat):∀(u:List Nat) (s:Int),beh d s (u++v)=beh d (QY d s u) v
 | [],s=>rfl
 | x::u,s=>Jm d v u (Bu d s x)
end Go.Proofs
namespace Go.Proofs
open Go Go.Eng Go.Sort
set_option maxRecDepth 100000
--BEGIN
theorem Mj (d:Dfa) (w:List Nat) (s:Int):beh d s w=Co d (QY d s w):=by
 have:=Jm d [] w s;rw[List.append_nil] at this;exact this
end Go.Proofs
namespace Go.Proofs
open Go Go.Eng Go.Sort
set_option maxRecDepth 100000
--BEGIN
def U1 (d:Dfa):Bool:=decide ((0:Int)<=d.start) && decide (d.start<((d.next.length:Nat):Int))
def J8 (x:Int):Bool:=decide ((-1:Int)<=x)
def LA (n:Nat) (x:Int):Bool:=decide ((-1:Int)<=x) && decide (x<((n:Nat):Int))
def R9 (d:Dfa) (k:Nat):Bool:=U1 d && ((d.accept.take k).all J8 && (d.next.take k).all (λr=>r.all (LA d.next.length)))
theorem Qs {d:Dfa} {k:Nat} {y:Int} {row:List Int} (a:d.accept[k]?=some y) (b:d.next[k]?=some row):R9 d (k+1)=((R9 d k && J8 y) && row.all (LA d.next.length)):=by
 unfold R9;rw[List.take_add_one,List.take_add_one,a,b,List.all_append,List.all_append];simp only[Option.toList_some,List.all_cons,List.all_nil,Bool.and_true];cases U1 d<;>cases (List.take k d.accept).all J8<;>cases (List.take k d.next).all (λr=>r.all (LA d.next.length))<;>cases J8 y<;>simp
theorem Od {d:Dfa} (o:d.accept.length=d.next.length) (m:d.accept≠[]) (e:∀row∈d.next,row≠[]):R9 d d.next.length = !(IC d || d.next.any (Cx d.next.length)):=by
 have n:d.accept.take d.next.length=d.accept:=by rw[<-o,List.take_length]
 rw[Bool.eq_iff_iff,Bool.not_eq_true',Bool.or_eq_false_iff];unfold R9 IC U1;rw[List.take_length,n];simp only[Bool.and_eq_true,Bool.or_eq_false_iff,decide_eq_true_eq,decide_eq_false_iff_not,List.all_eq_true,List.any_eq_false,Int.not_lt,Int.not_le];have j:=HT m (z:=-1);constructor
 .rintro ⟨⟨g,h⟩,f,i⟩;refine ⟨⟨⟨g,h⟩,j.2 λx b=>by simpa[J8] using f x b⟩,λrow a=>?_⟩;have c:=i row a;simp only[LA,Bool.and_eq_true,decide_eq_true_eq] at c;have l:=(HT (e row a) (z:=-1)).2 λx b=>(c x b).1;have k:=(LI (e row a) (z:=((d.next.length:Nat):Int))).2 λx b=>(c x b).2;unfold Cx;simp only[Bool.or_eq_true,decide_eq_true_eq];omega
 .rintro ⟨⟨⟨g,h⟩,f⟩,i⟩;refine ⟨⟨g,h⟩,λx b=>by simpa[J8] using j.1 f x b,λrow a x b=>?_⟩;have c:=i row a;unfold Cx at c;simp only[Bool.or_eq_true,decide_eq_true_eq,not_or,Int.not_lt,Int.not_le] at c;have l:=(HT (e row a) (z:=-1)).1 c.1 x b;have k:=(LI (e row a) (z:=((d.next.length:Nat):Int))).1 c.2 x b;simp only[LA,Bool.and_eq_true,decide_eq_true_eq];exact ⟨l,k⟩
--END
theorem KI (w0:World) (d:Dfa) (vs:List Value) (hd:BC w0 d vs):CB prog 18 #[.agg vs.toArray] w0 λr w=>r=.int .i64 (Af d)∧Al w0 w:=by
 obtain ⟨aa,ac,na,H,rfl,ha,hn⟩:=hd;have hal:d.accept.length<=9223372036854775807:=by simpa using BO.le ha
 obtain ⟨_,_,hv,hcap,hle⟩:=hn.form;simp only[Value.slice.injEq] at hv;obtain ⟨rfl,_,rfl⟩:=hv;refine qR func18 O ntmps18 O (λE=>(Y (BP (v:=(.agg #[(I6 d.start),(.slice aa d.accept.length ac),(.slice na d.next.length H)])) (c:=#[(I6 d.start),(.slice aa d.accept.length ac),(.slice na d.next.length H)]) qD O O ?_)));intro C wr Nr;replace E:=E.ext Nr.ext;have t:=Nr.blk;refine qA _ O (AA (Y (qF C 0 2 O underlying48 O A' O (qV (AE O A4 (t.cell O)) (qV (AL underlying46 O) (qA _ O (AA (AI (Y (qM _ O (qV (CU O O) (AA (qC O (λh1=>?_) (λh1=>?_))))))))))))))
 .refine Y (qA _ O (AA (AS (AU (AY results18 (v:=(.int .i64 2)) O ?_)))));exact ⟨BJ (by unfold Af;rw[if_pos qO]),E⟩
 .refine AM (AB (AI (Y (qM _ O ?_))));obtain ⟨A,av⟩:∃e,(decide ((((d.next.length:Nat):Int):Int)=0))=e:=⟨_,O⟩;refine qV ((BF O O).trans (by rw[av];try rfl)) (qM _ O (qG (.bool A) (nU A (P6 C 1)) (by cases A<;>first|exact gA|exact gB|exact .inl ⟨O,AT O underlying48 O Ay O⟩) (qG (.bool A) (nU A (.slice aa d.accept.length ac)) (by cases A<;>first|exact gA|exact gB|exact .inl ⟨O,AE O Ax (t.cell O)⟩) (qG (.bool A) (nU A (I6 (d.accept.length:Int))) (by cases A<;>first|exact gA|exact gB|exact .inl ⟨O,AL underlying22 O⟩) (qG (.bool A) (nU A (I6 (d.next.length:Int))) (by cases A<;>first|exact gA|exact gB|exact .inl ⟨O,AZ O⟩) ?_)))));obtain ⟨e3,ay⟩:∃e,(decide ((((d.accept.length:Nat):Int):Int)≠((d.next.length:Nat):Int)))=e:=⟨_,O⟩;refine qG (.bool A) (nU A (.bool e3)) (by cases A<;>first|exact gA|exact gB|exact .inl ⟨O,(CE O O).trans (by rw[ay];try rfl)⟩) ?_;obtain ⟨e4,aj⟩:∃e,(A || e3)=e:=⟨_,O⟩;refine qV (Ag (v:=.bool e4) O (by rw[<-aj];cases A<;>rfl)) (AA ?_);subst aj;subst ay;subst av;refine As O (λh2=>?_) (λh2=>?_)
  .have bh:=h2;refine Y (qA _ O (AA (AS (AU (AY results18 (v:=(.int .i64 3)) O ?_)))));exact ⟨BJ (by unfold Af;rw[if_neg qO,if_pos (by simp only[Bool.or_eq_true,decide_eq_true_eq] at h2;omega)]),E⟩
  .have bh:=h2;simp only[Bool.or_eq_false_iff,decide_eq_false_iff_not] at h2;have G:¬(d.next.length=0∨d.accept.length≠d.next.length):=qO
   obtain ⟨L,m⟩:=AK (l:=d.next) (i:=0) qO;have an:ER d=L.length:=by unfold ER;cases hq:d.next with|nil=>rw[hq] at m;simp at m|cons y l=>rw[hq] at m;simp at m;simp[m]
   obtain ⟨P,F,a6,I⟩:=BL hn qO;subst a6;obtain ⟨ab,ao,a2,a4⟩:=Ao ha qO;subst a2;obtain ⟨ra0,rc0,D,hints0⟩:=I 0 L m;refine AM (AB (AI (Y (qF C 0 2 O underlying48 O A' O (qV (AE O A4 (t.cell O)) (qV (AC (b:=P) (o:=F) (len:=d.next.length) (cap:=H) (i:=0) (o':=F+0) O O O underlying46 Ay qO qO) (qV (AE O Ax (E.cell (λf=>f) D)) (qV (AL underlying22 O) (qV (CU O O) (AA (qC O (λh3=>?_) (λh3=>?_))))))))))))
   .refine Y (qA _ O (AA (AS (AU (AY results18 (v:=(.int .i64 2)) O ?_)))));exact ⟨BJ (by unfold Af;rw[if_neg qO,if_neg G,if_pos qO]),E⟩
   .refine AM (AB (AI (Y (qF C 0 2 O underlying48 O A' O (qV (AE O A4 (t.cell O)) (qV (AL underlying46 O) (qM _ O (AA (AO (Ap (λnn_ σ W7=>∃(k:Nat),(∃jj_,σ=BK jj_ [(1,(P6 C 0)),(3,(I6 (d.next.length:Int))),(32,(.slice (some ⟨P,F,none⟩) d.next.length H)),(33,(I6 (d.next.length:Int))),(34,(I6 (k:Int)))])∧Chg Ab w0 W7∧Az W7 C #[(I6 d.start),(.slice (some ⟨ab,ao,none⟩) d.accept.length ac),(.slice (some ⟨P,F,none⟩) d.next.length H)] 48∧(k<=d.next.length)∧((d.next.take k).any (D0 (ER d))=false)∧nn_=d.next.length - k) (n:=d.next.length - 0) ?_ ?_))))))))))
    .exact ⟨0,Ac.out ⟨O,O,O,O,O,trivial⟩,E,t,Nat.zero_le _,O,O⟩
    .clear E t;rintro _ _ W7 ⟨k,⟨j7,rfl⟩,E,t,hk,N,rfl⟩;refine Y (qV (A0 O O) (AA (AI (qC O (λbg=>?_) (λbg=>?_)))))
     .obtain ⟨row,s⟩:=AK (l:=d.next) (i:=k) qO;obtain ⟨ra,rc,B,z⟩:=I k row s;have a5:row.length<=9223372036854775807:=by simpa using BO.le z
      refine AM (AB (AI (AO (Y (qV (AC (b:=P) (o:=F) (len:=d.next.length) (cap:=H) (i:=k) (o':=F+k) O O O underlying46 Ay qO qO) (qV (AE O Ax (E.cell (λf=>f) B)) (qA _ O (AA (Y (qM _ O (qV (AL underlying22 O) (qF C 0 2 O underlying48 O A' O (qV (AE O A4 (t.cell O)) (qV (AC (b:=P) (o:=F) (len:=d.next.length) (cap:=H) (i:=0) (o':=F+0) O O O underlying46 Ay qO qO) (qV (AE O Ax (E.cell (λf=>f) D)) (qV (AL underlying22 O) ?_))))))))))))))));obtain ⟨J,al⟩:∃e,(decide ((((row.length:Nat):Int):Int)≠((L.length:Nat):Int)))=e:=⟨_,O⟩;refine qV ((CE O O).trans (by rw[al];try rfl)) (qM _ O (qG (.bool J) (nU J (.slice ra row.length rc)) (by cases J<;>first|exact gA|exact gB|exact .inl ⟨O,AZ O⟩) (qG (.bool J) (nU J (I6 (row.length:Int))) (by cases J<;>first|exact gA|exact gB|exact .inl ⟨O,AL underlying22 O⟩) ?_)));obtain ⟨ak,U⟩:∃e,(decide ((((row.length:Nat):Int):Int)=0))=e:=⟨_,O⟩;refine qG (.bool J) (nU J (.bool ak)) (by cases J<;>first|exact gA|exact gB|exact .inl ⟨O,(BF O O).trans (by rw[U];try rfl)⟩) ?_;obtain ⟨ba,af⟩:∃e,(J || ak)=e:=⟨_,O⟩;refine qV (Ag (v:=.bool ba) O (by rw[<-af];cases J<;>rfl)) (AA ?_);subst af;subst U;subst al;refine As O (λhf=>?_) (λhf=>?_)
      .have a7:=hf;refine Y (qA _ O (AA (AS (A1 (AU (AU (A1 (AU (AY results18 (v:=(.int .i64 3)) O (⟨BJ ?_,E⟩))))))))));unfold Af;rw[if_neg qO,if_neg G,if_neg qO,if_pos];exact List.any_eq_true.2 ⟨row,List.mem_of_getElem? s,by unfold D0;rw[an,Bool.or_comm];simpa using hf⟩
      .have a7:=hf;refine AM (AN (AB (AJ (qV (Ar O O (A5 qO)) (qM _ O (AA (AB ?_)))))));exact ⟨d.next.length - (k+1),qO,k+1,Ac.out ⟨O,O,O,O,O,trivial⟩,E,t,qO,(by rw[List.take_add_one,s,List.any_append,N];simp only[Option.toList_some,List.any_cons,List.any_nil,Bool.or_false,Bool.false_or];unfold D0;rw[an,Bool.or_comm];simpa using hf),O⟩
     .have a0:k=d.next.length:=qO
      rw[a0,List.take_length] at N;have K:∀row∈d.next,row≠[]:=λrow hr he=>by have:=(List.any_eq_false.1 N) row hr;simp[D0,he] at this
      have am:d.accept≠[]:=λhe=>by rw[he] at G;simp at G;omega
      have az:=Od (d:=d) qO am K;refine Ak (AP (AP (Ae (AB (Y (qF C 0 0 O underlying48 O Ad O (qV (AE O Ai (t.cell O)) ?_)))))));obtain ⟨h,X⟩:∃e,(decide ((0:Int)<=d.start))=e:=⟨_,O⟩;refine qV ((CT O O).trans (by rw[X];try rfl)) (qM _ O (qG (.bool h) (yU h (P6 C 0)) (by cases h<;>first|exact gA|exact gB|exact .inl ⟨O,AT O underlying48 O Ad O⟩) (qG (.bool h) (yU h (I6 d.start)) (by cases h<;>first|exact gA|exact gB|exact .inl ⟨O,AE O Ai (t.cell O)⟩) (qG (.bool h) (yU h (I6 (d.next.length:Int))) (by cases h<;>first|exact gA|exact gB|exact .inl ⟨O,AZ O⟩) ?_))));obtain ⟨aw,V⟩:∃e,(decide ((d.start:Int)<((d.next.length:Nat):Int)))=e:=⟨_,O⟩;refine qG (.bool h) (yU h (.bool aw)) (by cases h<;>first|exact gA|exact gB|exact .inl ⟨O,(A0 O O).trans (by rw[V];try rfl)⟩) ?_;obtain ⟨bc,S⟩:∃e,(h && aw)=e:=⟨_,O⟩;refine qV (Ag (v:=.bool bc) O (by rw[<-S];cases h<;>rfl)) (qA _ O (AA ?_));subst S;subst V;subst X;refine AI (Y (qF C 0 2 O underlying48 O A' O (qV (AE O A4 (t.cell O)) (qV (AL underlying46 O) (qM _ O (AA (AO (Ap (λnn_ σ ai=>∃(q:Nat) (a:Bool),(∃jj_,σ=BK jj_ [(1,(P6 C 0)),(3,(I6 (d.next.length:Int))),(62,(.slice (some ⟨P,F,none⟩) d.next.length H)),(63,(I6 (d.next.length:Int))),(64,(I6 (q:Int))),(6,(.bool a))])∧Chg Ab w0 ai∧Az ai C #[(I6 d.start),(.slice (some ⟨ab,ao,none⟩) d.accept.length ac),(.slice (some ⟨P,F,none⟩) d.next.length H)] 48∧(q<=d.next.length)∧(a=R9 d q)∧nn_=d.next.length - q) (n:=d.next.length - 0) ?_ ?_))))))))
      .exact ⟨0,(decide ((0:Int)<=d.start) && decide (d.start<((d.next.length:Nat):Int))),Ac.out ⟨O,O,O,O,O,O,trivial⟩,E,t,Nat.zero_le _,(by unfold R9 U1;simp),O⟩
      .clear E t;rintro _ _ ai ⟨q,a,⟨j16,rfl⟩,E,t,hq,u,rfl⟩;refine Y (qV (A0 O O) (AA (AI (qC O (λap=>?_) (λap=>?_)))))
       .obtain ⟨row,s⟩:=AK (l:=d.next) (i:=q) qO;obtain ⟨y,hy⟩:=AK (l:=d.accept) (i:=q) qO;obtain ⟨ra,rc,B,z⟩:=I q row s;have a5:row.length<=9223372036854775807:=by simpa using BO.le z
        have ag:0<row.length:=List.length_pos_iff.2 (K row (List.mem_of_getElem? s));obtain ⟨rb,ro,a1,bb⟩:=Ao z ag;subst a1;refine AM (AB (AI (AO (Y (qM _ O (qV (AC (b:=P) (o:=F) (len:=d.next.length) (cap:=H) (i:=q) (o':=F+q) O O O underlying46 Ay qO qO) (qV (AE O Ax (E.cell (λf=>f) B)) (qA _ O (qA _ O (AA (Y (qM _ O (qM _ O (qG (.bool a) (yU a (P6 C 1)) (by cases a<;>first|exact gA|exact gB|exact .inl ⟨O,AT O underlying48 O Ay O⟩) (qG (.bool a) (yU a (.slice (some ⟨ab,ao,none⟩) d.accept.length ac)) (by cases a<;>first|exact gA|exact gB|exact .inl ⟨O,AE O Ax (t.cell O)⟩) (qG (.bool a) (yU a (I6 (q:Int))) (by cases a<;>first|exact gA|exact gB|exact .inl ⟨O,AZ O⟩) (qG (.bool a) (yU a (.pointer (some ⟨ab,ao+q,none⟩))) (by cases a<;>first|exact gA|exact gB|exact .inl ⟨O,AC (i:=q) O O O underlying22 Ad qO qO⟩) (qG (.bool a) (yU a (I6 y)) (by cases a<;>first|exact gA|exact gB|exact .inl ⟨O,AE O Ai (E.cell (λf=>f) (a4 q y hy))⟩) ?_))))))))))))))))));obtain ⟨ax,ae⟩:∃e,(decide (((-1):Int)<=y))=e:=⟨_,O⟩;refine qG (.bool a) (yU a (.bool ax)) (by cases a<;>first|exact gA|exact gB|exact .inl ⟨O,(CT O O).trans (by rw[ae];try rfl)⟩) ?_;obtain ⟨bd,Z⟩:∃e,(a && ax)=e:=⟨_,O⟩;refine qV (Ag (v:=.bool bd) O (by rw[<-Z];cases a<;>rfl)) (qA _ O (AA ?_));subst Z;subst ae;refine Y (qM _ O (qV (AL underlying22 O) (qM _ O (AA (AO (Ap (λnn_ σ ah=>∃(j:Nat) (g:Bool),(∃jj_,σ=BK jj_ [(1,(P6 C 0)),(3,(I6 (d.next.length:Int))),(62,(.slice (some ⟨P,F,none⟩) d.next.length H)),(63,(I6 (d.next.length:Int))),(64,(I6 (q:Int))),(78,(.slice (some ⟨rb,ro,none⟩) row.length rc)),(79,(I6 (row.length:Int))),(80,(I6 (j:Int))),(6,(.bool g))])∧Chg Ab w0 ah∧Az ah C #[(I6 d.start),(.slice (some ⟨ab,ao,none⟩) d.accept.length ac),(.slice (some ⟨P,F,none⟩) d.next.length H)] 48∧(j<=row.length)∧(g=((R9 d q && J8 y) && (row.take j).all (LA d.next.length)))∧nn_=row.length - j) (n:=row.length - 0) ?_ ?_))))))
        .exact ⟨0,(a && decide ((-1:Int)<=y)),Ac.out ⟨O,O,O,O,O,O,O,O,O,trivial⟩,E,t,Nat.zero_le _,(by rw[<-u];simp[J8]),O⟩
        .clear E t;rintro _ _ ah ⟨j,g,⟨j20,rfl⟩,E,t,hj,M,rfl⟩;refine Y (qV (A0 O O) (AA (AI (qC O (λau=>?_) (λau=>?_)))))
         .obtain ⟨x,hx⟩:=AK (l:=row) (i:=j) qO;have a8:((R9 d q && J8 y) && (row.take (j+1)).all (LA d.next.length))=(g && LA d.next.length x):=by rw[List.take_add_one,hx,List.all_append,M];simp[Bool.and_assoc]
          refine AM (AB (AI (AO (Y (qV (AC (b:=rb) (o:=ro) (len:=row.length) (cap:=rc) (i:=j) (o':=ro+j) O O O underlying22 Ad qO qO) (qV (AE O Ai (E.cell (λf=>f) (bb j x hx))) (qA _ O (AA (AJ (qM _ O (qM _ O (qG (.bool g) (yU g (I6 x)) (by cases g<;>first|exact gA|exact gB|exact .inl ⟨O,AZ O⟩) ?_))))))))))));obtain ⟨ar,ad⟩:∃e,(decide (((-1):Int)<=x))=e:=⟨_,O⟩;refine qG (.bool g) (yU g (.bool ar)) (by cases g<;>first|exact gA|exact gB|exact .inl ⟨O,(CT O O).trans (by rw[ad];try rfl)⟩) ?_;obtain ⟨p,T⟩:∃e,(g && ar)=e:=⟨_,O⟩;refine qV (Ag (v:=.bool p) O (by rw[<-T];cases g<;>rfl)) (qM _ O (qG (.bool p) (yU p (I6 x)) (by cases p<;>first|exact gA|exact gB|exact .inl ⟨O,AZ O⟩) (qG (.bool p) (yU p (I6 (d.next.length:Int))) (by cases p<;>first|exact gA|exact gB|exact .inl ⟨O,AZ O⟩) ?_)));obtain ⟨aq,R⟩:∃e,(decide ((x:Int)<((d.next.length:Nat):Int)))=e:=⟨_,O⟩;refine qG (.bool p) (yU p (.bool aq)) (by cases p<;>first|exact gA|exact gB|exact .inl ⟨O,(A0 O O).trans (by rw[R];try rfl)⟩) ?_;obtain ⟨a9,W⟩:∃e,(p && aq)=e:=⟨_,O⟩;refine qV (Ag (v:=.bool a9) O (by rw[<-W];cases p<;>rfl)) (qA _ O (AA ?_));subst W;subst R;subst T;subst ad;refine AN (AB (AJ (qV (Ar O O (A5 qO)) (qM _ O (AA (AB ?_))))));exact ⟨row.length - (j+1),qO,j+1,((g && decide ((-1:Int)<=x)) && decide (x<((d.next.length:Nat):Int))),Ac.out ⟨O,O,O,O,O,O,O,O,O,trivial⟩,E,t,qO,(by rw[a8,Bool.and_assoc];rfl),O⟩
         .have bf:j=row.length:=qO
          rw[bf,List.take_length] at M;refine Ak (AP (AP (Ae (AN (AB (AJ (qV (Ar O O (A5 qO)) (qM _ O (AA (AB ?_))))))))));exact ⟨d.next.length - (q+1),qO,q+1,g,Ac.out ⟨O,O,O,O,O,O,trivial⟩,E,t,qO,(by rw[M,Qs hy s]),O⟩
       .have a3:q=d.next.length:=qO
        rw[a3,az] at u;refine Ak (AP (AP (Ae (AB (AI (Y (qM _ O (qV (CM O) (AA (As O (λQ=>?_) (λQ=>?_)))))))))))
        .have be:=Q;replace Q:=by simpa using Q
         refine Y (qA _ O (AA (AS (AU (AY results18 (v:=(.int .i64 1)) O ?_)))));exact ⟨BJ (by unfold Af;rw[if_neg qO,if_neg G,if_neg qO,if_neg (by rw[N];simp),if_pos (by rw[Q] at u;have h9:=u.symm;rwa [Bool.not_eq_false'] at h9)]),E⟩
        .have be:=Q;replace Q:=by simpa using Q
         refine AM (AB (Y (qA _ O (AA (AS (AY results18 (v:=(.int .i64 0)) O ?_))))));exact ⟨BJ (by unfold Af;rw[if_neg qO,if_neg G,if_neg qO,if_neg (by rw[N];simp),if_neg (by rw[Q] at u;simpa using u.symm)]),E⟩
theorem Qa (a:World) (d:Dfa) (vs:List Value) (hd:BC a d vs):CB prog 26 #[.agg vs.toArray] a λr w=>r=.bool (decide (((d.next.length:Nat):Int)<=12))∧Al a w:=by
 obtain ⟨f,b,h,e,rfl,ha,hn⟩:=hd;refine qR func26 O ntmps26 O (λE=>(Y (BP (v:=(.agg #[(I6 d.start),(.slice f d.accept.length b),(.slice h d.next.length e)])) (c:=#[(I6 d.start),(.slice f d.accept.length b),(.slice h d.next.length e)]) qD O O ?_)));intro i wr g;replace E:=E.ext g.ext;have j:=g.blk;refine qA _ O (AA (Y (qF i 0 2 O underlying48 O A' O (qV (AE O A4 (j.cell O)) (qV (AL underlying46 O) (qV (G0 O O) (qA _ O (AA (AS (AY results26 (v:=(.bool (decide ((((d.next.length:Nat):Int):Int)<=12)))) O ?_))))))))));exact ⟨O,E⟩
theorem Qd (g:World) (C F:Value) (a c:List Int) (r:A2 g C a) (u:A2 g F c) :
 CB prog 14 #[C,F] g λv w=>v=.bool (decide (a=c))∧Al g w:=by
 obtain ⟨J,c1,rfl⟩:=BO.form r;obtain ⟨I,c2,rfl⟩:=BO.form u;have hb1:a.length<=9223372036854775807:=by simpa using BO.le r
 simp only[List.length_map] at r u⊢;refine qR func14 O ntmps14 O (λE=>(Y (qA _ O (AA (AI (Y (qM _ O (qV (AL underlying22 O) (qM _ O (qV (AL underlying22 O) (qV (CE O O) (AA (qC O (λx=>?_) (λx=>?_))))))))))))))
 .refine Y (qA _ O (AA (AS (AU (AY results14 (v:=(.bool false)) O ?_)))));exact ⟨CK (by symm;rw[decide_eq_false_iff_not];intro h;rw[h] at x;exact x O),E⟩
 .refine AM (AB (AI (Y (qM _ O (qV (AL underlying22 O) (qM _ O (AA (AO (Ap (λnn_ σ D=>∃(k:Nat),(∃jj_,σ=BK jj_ [(0,(.slice J a.length c1)),(1,(.slice I c.length c2)),(12,(I6 (a.length:Int))),(13,(I6 (k:Int)))])∧Chg Ab g D∧(k<=a.length)∧(∀(i:Nat),i<k->a[i]?=c[i]?)∧nn_=a.length - k) (n:=a.length - 0) ?_ ?_)))))))))
  .exact ⟨0,Ac.out ⟨O,O,O,O,trivial⟩,E,Nat.zero_le _,(λi h=>absurd h (Nat.not_lt_zero _)),O⟩
  .clear E;rintro _ _ D ⟨k,⟨j2,rfl⟩,E,hk,d,rfl⟩;refine Y (qV (A0 O O) (AA (AI (qC O (λy=>?_) (λy=>?_)))))
   .obtain ⟨p,t⟩:=AK (l:=a) (i:=k) qO;obtain ⟨q,m⟩:=AK (l:=c) (i:=k) qO;obtain ⟨H,B,rfl,s⟩:=Ao r qO;obtain ⟨K,A,rfl,z⟩:=Ao u qO;refine AM (AB (AI (AO (Y (qM _ O (qA _ O (AA (Dt 8 mixed qK ?_))))))));intro w4 G _;replace E:=E.ext G;refine qT (AZ O) (qT (AZ O) (qT (AC (b:=H) (o:=B) (len:=a.length) (cap:=c1) (i:=k) (o':=B+k) O O O underlying22 Ad qO qO) (qT (AE O Ai (E.cell (λf=>f) (s k p t))) (qT (AZ O) (qT (AZ O) (qT (AC (b:=K) (o:=A) (len:=c.length) (cap:=c2) (i:=k) (o':=A+k) O O O underlying22 Ad qO qO) (qT (AE O Ai (E.cell (λf=>f) (z k q m))) (ES (qV (CE O O) (AA (qC O (λe=>?_) (λe=>?_))))))))))))
    .refine Y (qA _ O (AA (AS (A1 (AU (AU (A1 (AU (AY results14 (v:=(.bool false)) O ?_)))))))));exact ⟨CK (by symm;rw[decide_eq_false_iff_not];intro h;subst h;rw[t] at m;cases m;exact e O),E⟩
    .have j:p=q:=qO
     refine AM (AN (AB (AJ (qV (Ar O O (A5 qO)) (qM _ O (AA (AB ?_)))))));exact ⟨a.length - (k+1),qO,k+1,Ac.out ⟨O,O,O,O,trivial⟩,E,qO,(λi hi=>by rcases Nat.lt_or_ge i k with h|h;exact d i h;obtain rfl:i=k:=qO;rw[t,m,j]),O⟩
   .have hkk:k=a.length:=qO
    refine Ak (AP (AP (Ae (AB (Y (qA _ O (AA (AS (AY results14 (v:=(.bool true)) O ?_)))))))));exact ⟨CK (by symm;rw[decide_eq_true_eq];exact On qO (λi hi=>d i qO)),E⟩
theorem LE {d:Dfa} (h:Af d=0):OkD d.next.length (ER d) d∧(1<=d.next.length∧d.next.length<=200)∧(1<=ER d∧ER d<=16):=by
 unfold Af at h;split at h
 .omega
 split at h
 .omega
 split at h
 .omega
 split at h
 .omega
 rename_i h1 h2 h3 h4
 split at h
 .omega
 rename_i s
 have o:∀row∈d.next,row.length=ER d∧row≠[]:=λrow b=>by
  have g:=(List.any_eq_false.1 (Bool.eq_false_iff.2 h4)) row b;unfold D0 at g;simp only[Bool.or_eq_true,decide_eq_true_eq,not_or] at g;exact ⟨qO,λe=>by rw[e] at g;simp at g⟩
 have n:d.accept≠[]:=λe=>by
  have e2:d.accept.length=0:=by rw[e];rfl
  omega
 have f:=Od (d:=d) qO n (λrow b=>(o row b).2);rw[Bool.eq_false_iff.2 s] at f;unfold R9 U1 at f;rw[List.take_length,show d.accept.take d.next.length=d.accept from by rw[show d.next.length=d.accept.length from qO,List.take_length]] at f;simp only[Bool.not_false,Bool.and_eq_true,decide_eq_true_eq,List.all_eq_true] at f;obtain ⟨⟨r,q⟩,p,m⟩:=f;obtain ⟨c,a⟩:=AK (l:=d.next) (i:=0) qO;have hc0:ER d=c.length:=by unfold ER;cases hq:d.next with|nil=>rw[hq] at a;simp at a|cons y l=>rw[hq] at a;simp at a;simp[a]
 have h12:=List.length_pos_iff.2 (o c (List.mem_of_getElem? a)).2;refine ⟨⟨O,qO,⟨r,q⟩,λx k=>by simpa[J8] using p x k,λrow b=>⟨(o row b).1,λx k=>?_⟩⟩,qO,qO⟩;have j:=m row b x k;simpa[LA] using j
end Go.Proofs
namespace Go.Proofs
open Go Go.Eng Go.Sort
set_option maxRecDepth 100000
theorem Ho {w:World} {n c:Nat} {d:Dfa} {v:List Value} (ok:OkD n c d) (h:BC w d v) (hn:1<=n):∃j r b f k,v=[.int .i64 d.start,.slice j d.accept.length r,.slice (some ⟨b,f,none⟩) d.next.length k]∧∀s x:Nat,s<n->x<c->∃e g m,w.cell? ⟨b,f+s,none⟩=some (.slice (some ⟨e,g,none⟩) c m)∧w.cell? ⟨e,g+x,none⟩=some (.int .i64 (Bu d ((s:Nat):Int) x)):=by
 obtain ⟨j,r,na,k,rfl,_,q⟩:=h;have hnl:=ok.nl;obtain ⟨b,f,rfl,o⟩:=BL q qO;refine ⟨j,r,b,f,k,O,λs x hs hx=>?_⟩;obtain ⟨row,a⟩:=AK (l:=d.next) (i:=s) qO;have p:=(ok.row row (List.mem_of_getElem? a)).1;obtain ⟨ra,m,t,z⟩:=o s row a;obtain ⟨e,g,rfl,A⟩:=Ao z qO;obtain ⟨y,u⟩:=AK (l:=row) (i:=x) qO;rw[p] at t;exact ⟨e,g,m,t,by rw[(FT ok a u).1];exact A x y u⟩
def d2 (x0 x1 y0 y1:Int):Dfa:=⟨0,[x0,x1],[[y0],[y1]]⟩
end Go.Proofs
namespace Go.Proofs
open Go Go.Eng Go.Sort
set_option maxRecDepth 100000
theorem UZ {w:World} {a p q n e h g f:Nat} (s:Az w a #[.int .i64 0,.int .i64 (-1)] e) (o:Az w p #[.int .i64 1] h) (m:Az w q #[.int .i64 0] g) (k:Az w n #[.slice (some ⟨p,0,none⟩) 1 1,.slice (some ⟨q,0,none⟩) 1 1] f) :
 BC w Jd [.int .i64 0,.slice (some ⟨a,0,none⟩) 2 2,.slice (some ⟨n,0,none⟩) 2 2]:=by
 refine ⟨_,_,_,_,O,GR (l:=[0,-1]) (rest:=[]) s qP qP,[.slice (some ⟨p,0,none⟩) 1 1,.slice (some ⟨q,0,none⟩) 1 1],⟨_,_,O,qP,qP,.inr ⟨n,0,O,?_⟩⟩,O,?_⟩
 .intro i r c;rcases i with _|_|i
  .simp at c;subst c;intro j u b;cases j with
   | zero=>simp at b;subst b;exact k.cell O
   | succ j=>simp at b
  .simp at c;subst c;intro j u b;cases j with
   | zero=>simp at b;subst b;exact k.cell O
   | succ j=>simp at b
  .simp at c
 .intro i u l b d;rcases i with _|_|i
  .simp[Jd] at b d;subst b;subst d;exact GR (l:=[1]) (rest:=[]) o qP qP
  .simp[Jd] at b d;subst b;subst d;exact GR (l:=[0]) (rest:=[]) m qP qP
  .simp at b
theorem Ox (w0:World):CB prog 74 #[] w0 fun r w=>(∃aa ac na nc,r=.agg #[.int .i64 0,.slice aa 2 ac,.slice na 2 nc]∧BC w Jd [.int .i64 0,.slice aa 2 ac,.slice na 2 nc])∧Al w0 w:=by
 refine qR func74 rfl ntmps74 rfl (fun E=>(Y (By (c:=#[(I6 0),(.slice none 0 0),(.slice none 0 0)]) qD Ce rfl ?_)));intro bt wt Nt;have Ft:=Nt.ge E;replace E:=E.ext Nt.ext;have Bt:=Nt.blk;refine AA (Y (Ah (ps:=[(0,(I6 0)),(1,(I6 (-1)))]) (c:=#[(I6 0),(I6 (-1))]) qD rfl underlying22 Ad BY qD qD qK ?_));intro ba wa Na;have Fa:=Na.ge E;have Oa_bt:=Na.lt Bt;replace Bt:=Na.keep Bt;replace E:=E.ext Na.ext;have Ba:=Na.blk;refine Ah (ps:=[(0,(I6 1))]) (c:=#[(I6 1)]) qD rfl underlying22 Ad BY qD qD qK ?_;intro bp wp Np;have Fp:=Np.ge E;have Op_bt:=Np.lt Bt;have Op_ba:=Np.lt Ba;replace Bt:=Np.keep Bt;replace Ba:=Np.keep Ba;replace E:=E.ext Np.ext;have Bp:=Np.blk;refine Ah (ps:=[(0,(I6 0))]) (c:=#[(I6 0)]) qD rfl underlying22 Ad BY qD qD qK ?_;intro bq wq Nq;have Fq:=Nq.ge E;have Oq_bt:=Nq.lt Bt;have Oq_ba:=Nq.lt Ba;have Oq_bp:=Nq.lt Bp;replace Bt:=Nq.keep Bt;replace Ba:=Nq.keep Ba;replace Bp:=Nq.keep Bp;replace E:=E.ext Nq.ext;have Bq:=Nq.blk;refine Ah (ps:=[(0,(.slice (some ⟨bp,0,none⟩) 1 1)),(1,(.slice (some ⟨bq,0,none⟩) 1 1))]) (c:=#[(.slice (some ⟨bp,0,none⟩) 1 1),(.slice (some ⟨bq,0,none⟩) 1 1)]) qD rfl underlying46 Ay DY qD qD qK ?_;intro bn wn Nn;have Fn:=Nn.ge E;have On_bt:=Nn.lt Bt;have On_ba:=Nn.lt Ba;have On_bp:=Nn.lt Bp;have On_bq:=Nn.lt Bq;replace Bt:=Nn.keep Bt;replace Ba:=Nn.keep Ba;replace Bp:=Nn.keep Bp;replace Bq:=Nn.keep Bq;replace E:=E.ext Nn.ext;have Bn:=Nn.blk;refine qV (B' (ps:=[(1,(.slice (some ⟨ba,0,none⟩) 2 2)),(2,(.slice (some ⟨bn,0,none⟩) 2 2))]) (v:=(.agg #[(I6 0),(.slice (some ⟨ba,0,none⟩) 2 2),(.slice (some ⟨bn,0,none⟩) 2 2)])) rfl qK) (A8 (b:=bt) (o:=0) (c':=#[(I6 0),(.slice (some ⟨ba,0,none⟩) 2 2),(.slice (some ⟨bn,0,none⟩) 2 2)]) rfl rfl qS Aw rfl Bt qL rfl ?_);intro w1 S1;replace Ba:=S1.keep qO Ba;replace Bp:=S1.keep qO Bp;replace Bq:=S1.keep qO Bq;replace Bn:=S1.keep qO Bn;replace E:=S1.step E qQ;replace Bt:=S1.blk;refine AA (AS (C5 results74 (vs:=[(.int .i64 0),(.slice (some ⟨ba,0,none⟩) 2 2),(.slice (some ⟨bn,0,none⟩) 2 2)]) (b:=bt) rfl BB Aw rfl (Bt.cells rfl) ?_));exact ⟨⟨_,_,_,_,rfl,UZ Ba Bp Bq Bn⟩,E⟩
theorem QN (cs:List (List Sp)) (d:1<=cs.length∧cs.length<=16) (a:∀l∈cs,l≠[]) (b:G5 GD):K1 cs.length cs GD:=
 Qv _ _ _ (SG cs GD d (MJ (Gk b)) O λy c=>by
  rw[show GD.args=[aR] from O,List.mem_singleton] at c;rw[c];exact Qv _ _ _ (SH cs aR d O a))
theorem Jg (w0:World):CB prog 23 #[] w0 λv w=>v=.bool true∧Al w0 w:=by
 refine qR func23 O ntmps23 O (λE=>(Y (qA (.bool false) O (AA (Y (qE O (AV (vs:=[(I6 97)]) func60 kQ kQ O) (UL _ 97) ?_))))));rintro _ w9 ⟨b9,rfl,X,X9⟩;have hA:CG w9 aR [.int .i64 2,.slice (some ⟨b9,0,none⟩) 1 1,.slice none 0 0,.int .i64 0,.int .i64 0,.bool false]:=CG.of (set:=[(97,97)]) (args:=[]) X ⟨qD,qD⟩ (.inl O);refine qE O (AV (vs:=[(.agg #[(I6 2),(.slice (some ⟨b9,0,none⟩) 1 1),(.slice none 0 0),(I6 0),(I6 0),(.bool false)])]) func59 kQ kQ O) (St _ aR _ hA) ?_;rintro _ w19 ⟨⟨L,rfl,hS⟩,W⟩;refine qE O (AV (vs:=[(.agg #[(I6 5),(.slice none 0 0),(.slice (some ⟨L,0,none⟩) 1 1),(I6 0),(I6 0),(.bool false)])]) func33 kQ kQ O) ((TJ _ GD _ hS (λT _ cs hc S=>QN cs hc S T)).mono (R':=λr w=>(∃q m s d l p,r=.tuple #[.agg #[.int .i64 0,.slice q 1 m,.slice s 1 d],.slice l 2 p,.int .i64 0]∧BC w sD [.int .i64 0,.slice q 1 m,.slice s 1 d])∧Al _ w) (λr w h=>⟨Ve h.1,h.2⟩)) ?_;rintro _ w29 ⟨⟨q,m,s,d,l,p,rfl,Z⟩,M⟩;replace E:=((E.ext X9).ext W).ext M;refine qM (.tuple #[(.agg #[(I6 0),(.slice q 1 m),(.slice s 1 d)]),(.slice l 2 p),(I6 0)]) O (qV (Aj (vs:=#[(.agg #[(I6 0),(.slice q 1 m),(.slice s 1 d)]),(.slice l 2 p),(I6 0)]) (v:=(.agg #[(I6 0),(.slice q 1 m),(.slice s 1 d)])) O O) (qV (Aj (vs:=#[(.agg #[(I6 0),(.slice q 1 m),(.slice s 1 d)]),(.slice l 2 p),(I6 0)]) (v:=(.slice l 2 p)) O O) (qV (Aj (vs:=#[(.agg #[(I6 0),(.slice q 1 m),(.slice s 1 d)]),(.slice l 2 p),(I6 0)]) (v:=(I6 0)) O O) (A6 (v:=(.agg #[(I6 0),(.slice q 1 m),(.slice s 1 d)])) (c:=#[(I6 0),(.slice q 1 m),(.slice s 1 d)]) (n:=3) qD Ce O Aw O O O qS ?_))));intro bd wd Q;have t:=Q.blk;refine qA (.slice l 2 p) O (qA (I6 0) O (AA (Y (qE O (AV (vs:=[]) func74 kQ kQ O) (Ox _) ?_))));rintro _ w39 ⟨⟨pa,pc,qa,qc,rfl,B⟩,y⟩;replace t:=y.keep t;replace E:=(E.ext Q.ext).ext y;refine Ah (ps:=[(0,(I6 0)),(1,(I6 0))]) (c:=#[(I6 0),(I6 0)]) qD O underlying22 Ad BY qD qD qK ?_;intro bu wu F;replace B:=B.ext F.ext;have C:=F.blk;refine qE O (AV (vs:=[(.agg #[(I6 0),(.slice pa 2 pc),(.slice qa 2 qc)]),(.slice (some ⟨bu,0,none⟩) 2 2)]) func19 kQ kQ O) ((LT _ 2 1 Jd _ _ [0,0] RT B ⟨qD,qD⟩ ⟨qD,qD⟩ (Ev C O qD) qD qD).mono (R':=λr w=>r=.tuple #[.int .i64 0,.int .i64 0]∧Al _ w) (λr w h=>⟨h.1.trans (by rw[show beh Jd Jd.start (([0,0]:List Int).map Int.toNat)=0 by decide]),h.2⟩)) ?_;rintro _ w49 ⟨rfl,j⟩;replace B:=B.ext j;refine qM (.tuple #[(I6 0),(I6 0)]) O (qV (Aj (vs:=#[(I6 0),(I6 0)]) (v:=(I6 0)) O O) (qV (Aj (vs:=#[(I6 0),(I6 0)]) (v:=(I6 0)) O O) (qA (I6 0) O (qA (I6 0) O (AA (Y (qE O (AV (vs:=[]) func74 kQ kQ O) (Ox _) ?_)))))));rintro _ w59 ⟨⟨I,K,U,aa,rfl,g⟩,u⟩;replace t:=u.keep (j.keep (F.keep t));replace C:=u.keep (j.keep C);replace E:=((E.ext F.ext).ext j).ext u;refine Ah (ps:=[(0,(I6 0))]) (c:=#[(I6 0)]) qD O underlying22 Ad BY qD qD qK ?_;intro bv wv z;replace g:=g.ext z.ext;have J:=z.blk;refine qE O (AV (vs:=[(.agg #[(I6 0),(.slice I 2 K),(.slice U 2 aa)]),(.slice (some ⟨bv,0,none⟩) 1 1)]) func19 kQ kQ O) ((LT _ 2 1 Jd _ _ [0] RT g ⟨qD,qD⟩ ⟨qD,qD⟩ (Ev J O qD) qD qD).mono (R':=λr w=>r=.tuple #[.int .i64 (-1),.int .i64 0]∧Al _ w) (λr w h=>⟨h.1.trans (by rw[show beh Jd Jd.start (([0]:List Int).map Int.toNat) = -1 by decide]),h.2⟩)) ?_;rintro _ w69 ⟨rfl,e⟩;replace t:=e.keep (z.keep t);replace C:=e.keep (z.keep C);replace J:=e.keep J;replace Z:=((((((Z.ext Q.ext).ext y).ext F.ext).ext j).ext u).ext z.ext).ext e;replace g:=g.ext e;replace E:=(E.ext z.ext).ext e;obtain ⟨hA1,P⟩:=Z.parts;obtain ⟨A,x,rfl,V⟩:=BL (n:=1) P qD;obtain ⟨ra,G,f,R⟩:=V 0 [-1,0] O;obtain ⟨H,D,rfl,N⟩:=Ao (n:=2) R qD;refine qM (.tuple #[(I6 (-1)),(I6 0)]) O (qV (Aj (vs:=#[(I6 (-1)),(I6 0)]) (v:=(I6 (-1))) O O) (qV (Aj (vs:=#[(I6 (-1)),(I6 0)]) (v:=(I6 0)) O O) (qA (I6 (-1)) O (qA (I6 0) O (AA (Y (qM (I6 0) O (qV (BF (k:=.i64) (a:=0) (b:=0) O O) (qM (.bool true) O (AD (oj:=_) O O qD O (qM (I6 0) O (AD (oj:=_) O O qD O (qV (BF (k:=.i64) (a:=0) (b:=0) O O) (qV (Ag (b:=true) (v:=(.bool true)) O O) (qM (.bool true) O ?_)))))))))))))));refine AD (oj:=_) O O qD O (qM (I6 0) O (AD (oj:=_) O O qD O (qV (BF (k:=.i64) (a:=0) (b:=0) O O) (qV (Ag (b:=true) (v:=(.bool true)) O O) (qM (.bool true) O (AD (oj:=_) O O qD O (qM (I6 0) O (AD (oj:=_) O O qD O (qV (BF (k:=.i64) (a:=0) (b:=0) O O) (qV (Ag (b:=true) (v:=(.bool true)) O O) (qM (.bool true) O (AD (oj:=_) O O qD O (qM (I6 (-1)) O (AD (oj:=_) O O qD O ?_))))))))))))));refine qV (BF (k:=.i64) (a:=-1) (b:=(-1)) O O) (qV (Ag (b:=true) (v:=(.bool true)) O O) (qM (.bool true) O (AD (oj:=_) O O qD O (qM (.slice l 2 p) O (AD (oj:=_) O O qD O (qV (AL (ad:=l) (n:=2) (cap:=p) underlying69 O) (AD (oj:=_) O O qD O (qV (BF (k:=.i64) (a:=2) (b:=2) O O) (qV (Ag (b:=true) (v:=(.bool true)) O O) (qM (.bool true) O (AD (oj:=_) O O qD O (qF bd 0 2 O underlying48 O A' O (AD (oj:=_) O O qD O (qV (AE (v:=(.slice (some ⟨A,x,none⟩) 1 d)) O A4 (t.cell O)) ?_))))))))))))));refine AD (oj:=_) O O qD O (qV (AL (ad:=some ⟨A,x,none⟩) (n:=1) (cap:=d) underlying46 O) (AD (oj:=_) O O qD O (qV (BF (k:=.i64) (a:=1) (b:=1) O O) (qV (Ag (b:=true) (v:=(.bool true)) O O) (qM (.bool true) O (AD (oj:=_) O O qD O (qF bd 0 2 O underlying48 O A' O (AD (oj:=_) O O qD O (qV (AE (v:=(.slice (some ⟨A,x,none⟩) 1 d)) O A4 (t.cell O)) (AD (oj:=_) O O qD O (qV (AC (b:=A) (o:=x) (len:=1) (cap:=d) (i:=0) (o':=x+0) O O O underlying46 Ay qO qO) (AD (oj:=_) O O qD O (qV (AE (v:=(.slice (some ⟨H,D,none⟩) 2 G)) O Ax (f)) (AD (oj:=_) O O qD O ?_))))))))))))));refine qV (AL (ad:=some ⟨H,D,none⟩) (n:=2) (cap:=G) underlying22 O) (AD (oj:=_) O O qD O (qV (BF (k:=.i64) (a:=2) (b:=2) O O) (qV (Ag (b:=true) (v:=(.bool true)) O O) (qM (.bool true) O (AD (oj:=_) O O qD O (qF bd 0 2 O underlying48 O A' O (AD (oj:=_) O O qD O (qV (AE (v:=(.slice (some ⟨A,x,none⟩) 1 d)) O A4 (t.cell O)) (AD (oj:=_) O O qD O (qV (AC (b:=A) (o:=x) (len:=1) (cap:=d) (i:=0) (o':=x+0) O O O underlying46 Ay qO qO) (AD (oj:=_) O O qD O (qV (AE (v:=(.slice (some ⟨H,D,none⟩) 2 G)) O Ax (f)) (AD (oj:=_) O O qD O (qV (AC (b:=H) (o:=D) (len:=2) (cap:=G) (i:=0) (o':=D+0) O O O underlying22 Ad qO qO) ?_))))))))))))));refine AD (oj:=_) O O qD O (qV (AE (v:=(I6 (-1))) O Ai (N 0 (-1) O)) (AD (oj:=_) O O qD O (qV (BF (k:=.i64) (a:=-1) (b:=(-1)) O O) (qV (Ag (b:=true) (v:=(.bool true)) O O) (qA (.bool true) O (AA (AS (AY results23 (v:=(.bool true)) O ?_))))))));exact ⟨O,E⟩
end Go.Proofs
namespace Go.Proofs
open Go Go.Eng Go.Sort
set_option maxRecDepth 100000
theorem NX (m:Nat) (w:World):DP m w ⟨0,[],[]⟩ [.int .i64 0,.slice none 0 0,.slice none 0 0]:=λ_ w' _ _=>⟨none,0,none,0,O,BO.nil _ _ _ _,⟨[],BO.nil _ _ _ _,O,λi u l h=>by simp at h⟩⟩
def Jn (c:Nat) (l:List Int):Bool:=l.any λx=>decide (x<0) || decide ((c:Int)<=x)
def EV (c:Nat) (l:List Int):Int:=if 4000<l.length then 2 else if Jn c l then 1 else 0
def Ej (c:Nat) (d:Dfa) (l:List Int):Int:=if EV c l=0 then beh d d.start (l.map Int.toNat) else 0
theorem RZ (z:World) (n c:Nat) (d:Dfa) (F:List Value) (v:Value) (l:List Int) (ok:OkD n c d) (h:BC z d F) (D:1<=n∧n<=200) (C:1<=c∧c<=16) (p:A2 z v l) :
 CB prog 19 #[.agg F.toArray,v] z λr w=>r=.tuple #[.int .i64 (Ej c d l),.int .i64 (EV c l)]∧Al z w:=by
 by_cases e:4000<l.length
 .have g:EV c l=2:=by unfold EV;rw[if_pos e]
  have y:Ej c d l=0:=by unfold Ej;rw[g];rfl
  have b:=h;obtain ⟨j,k,q,i,rfl,u,t⟩:=h;obtain ⟨P,J,rfl⟩:=BO.form p;have hl9:l.length<=9223372036854775807:=by simpa using BO.le p
  simp only[List.length_map] at p⊢;rw[g,y];refine qR func19 O ntmps19 O (λE=>(Y (BP (v:=(.agg #[(I6 d.start),(.slice j d.accept.length k),(.slice q d.next.length i)])) (c:=#[(I6 d.start),(.slice j d.accept.length k),(.slice q d.next.length i)]) qD O O ?_)));intro H N o;have K:=o.ge E;replace E:=E.ext o.ext;have f:=o.blk;refine qA _ O (qA _ O (AA (AI (Y (qV (Aa (vs:=[(I6 d.start),(.slice j d.accept.length k),(.slice q d.next.length i)]) O BB Aw O (f.cells O)) (qE O (AV func24 kQ kQ O) (Cw _ d _ (b.ext E)) ?_))))));rintro _ M ⟨rfl,A⟩;replace f:=A.keep f;replace E:=E.ext A;refine qA _ O (AA (Y (qM _ O (qV (CE O O) (AA ?_)))));have m:(decide ((Af d:Int)≠0))=false:=decide_eq_false (by rw[ED ok D C];decide);refine AW (BH m) (AM (AB (AI (Y (qM _ O (qV (AL underlying22 O) (qV (CU O O) (AA ?_))))))));have s:(decide ((4000:Int)<((l.length:Nat):Int)))=true:=decide_eq_true qO;refine A7 (BH s) (Y (qA _ O (qA _ O (AA (AS (AU (B_ results19 (v:=(.int .i64 0)) (v':=(.int .i64 2)) O O ?_)))))));exact ⟨O,E⟩
 .by_cases a:Jn c l=true
  .have g:EV c l=1:=by unfold EV;rw[if_neg e,if_pos a]
   have y:Ej c d l=0:=by unfold Ej;rw[g];rfl
   have b:=h;obtain ⟨j,k,q,i,rfl,u,t⟩:=h;obtain ⟨P,J,rfl⟩:=BO.form p;simp only[List.length_map] at p⊢;rw[g,y];refine qR func19 O ntmps19 O (λE=>(Y (BP (v:=(.agg #[(I6 d.start),(.slice j d.accept.length k),(.slice q d.next.length i)])) (c:=#[(I6 d.start),(.slice j d.accept.length k),(.slice q d.next.length i)]) qD O O ?_)));intro H N o;have K:=o.ge E;replace E:=E.ext o.ext;have f:=o.blk;refine qA _ O (qA _ O (AA (AI (Y (qV (Aa (vs:=[(I6 d.start),(.slice j d.accept.length k),(.slice q d.next.length i)]) O BB Aw O (f.cells O)) (qE O (AV func24 kQ kQ O) (Cw _ d _ (b.ext E)) ?_))))));rintro _ M ⟨rfl,A⟩;replace f:=A.keep f;replace E:=E.ext A;refine qA _ O (AA (Y (qM _ O (qV (CE O O) (AA ?_)))));have m:(decide ((Af d:Int)≠0))=false:=decide_eq_false (by rw[ED ok D C];decide);refine AW (BH m) (AM (AB (AI (Y (qM _ O (qV (AL underlying22 O) (qV (CU O O) (AA ?_))))))));have s:(decide ((4000:Int)<((l.length:Nat):Int)))=false:=decide_eq_false qO;refine AW (BH s) (AM (AB (AI (Y (qM _ O (qV (B7 O O) (qE O (AV func44 kQ kQ O) (JR _ _ _ l (λx=>decide (x<0) || decide ((c:Int)<=x)) (p.ext E) (λw x I _=>CQ.mk (first:=#[]) (cap:=#[.pointer (some ⟨H,0,none⟩)]) func69 kQ kQ O (Mc w H n c d _ x ok (b.ext (E.trans I)) (I.keep f) D.1 C.2))) ?_)))))));rintro _ w19 ⟨rfl,B⟩;replace f:=B.keep f;replace E:=E.ext B;refine AA ?_;have G:((l.any λx=>decide (x<0) || decide ((c:Int)<=x)))=true:=a;refine A7 (BH G) (Y (qA _ O (qA _ O (AA (AS (AU (B_ results19 (v:=(.int .i64 0)) (v':=(.int .i64 1)) O O ?_)))))));exact ⟨O,E⟩
  .have g:EV c l=0:=by unfold EV;rw[if_neg e,if_neg a]
   have y:Ej c d l=beh d d.start (l.map Int.toNat):=by unfold Ej;rw[if_pos g]
   rw[g,y];refine LT z n c d F v l ok h D C p qO λx L=>?_;unfold Jn at a;rw[Bool.not_eq_true,List.any_eq_false] at a;have:=a x L;simp only[Bool.or_eq_true,decide_eq_true_eq] at this;omega
theorem Ra (b:World) (d:Dfa) (p:List Value) (v:Value) (l:List Int) (h:BC b d p) (n:A2 b v l) (q:Af d≠0) :
 CB prog 19 #[.agg p.toArray,v] b λr w=>r=.tuple #[.int .i64 0,.int .i64 (Af d)]∧Al b w:=by
 have a:=h;obtain ⟨f,j,i,e,rfl,hacc,hnxt⟩:=h;obtain ⟨va,vc,rfl⟩:=BO.form n;simp only[List.length_map] at n⊢;refine qR func19 O ntmps19 O (λE=>(Y (BP (v:=(.agg #[(I6 d.start),(.slice f d.accept.length j),(.slice i d.next.length e)])) (c:=#[(I6 d.start),(.slice f d.accept.length j),(.slice i d.next.length e)]) qD O O ?_)));intro bq wq m;replace E:=E.ext m.ext;have g:=m.blk;refine qA _ O (qA _ O (AA (AI (Y (qV (Aa (vs:=[(I6 d.start),(.slice f d.accept.length j),(.slice i d.next.length e)]) O BB Aw O (g.cells O)) (qE O (AV func24 kQ kQ O) (Cw _ d _ (a.ext E)) ?_))))));rintro _ w9 ⟨rfl,o⟩;replace g:=o.keep g;replace E:=E.ext o;refine qA _ O (AA (Y (qM _ O (qV (CE O O) (AA ?_)))));have k:(decide ((Af d:Int)≠0))=true:=decide_eq_true q;refine A7 (BH k) (Y (qM _ O (qA _ O (qA _ O (AA (AS (AU (B_ results19 (v:=(.int .i64 0)) (v':=(.int .i64 (Af d))) O O ?_))))))));exact ⟨O,E⟩
theorem Rc (w0:World) (d:Dfa) (dv:List Value) (h:BC w0 d dv) (hb:Af d≠0) :
  CB prog 20 #[.agg dv.toArray] w0 fun r w=>r=.tuple #[.agg #[.int .i64 0,.slice none 0 0,.slice none 0 0],.int .i64 (Af d)]∧Al w0 w:=by
 have ab:=h;obtain ⟨aa,ac,na,nc,rfl,af,ae⟩:=h;refine qR func20 rfl ntmps20 rfl (fun E=>(Y (BP (v:=(.agg #[(I6 d.start),(.slice aa d.accept.length ac),(.slice na d.next.length nc)])) (c:=#[(I6 d.start),(.slice aa d.accept.length ac),(.slice na d.next.length nc)]) qD rfl rfl ?_)));intro bq wq Nq;have Fq:=Nq.ge E;replace E:=E.ext Nq.ext;have Bq:=Nq.blk;refine By (c:=#[(I6 0),(.slice none 0 0),(.slice none 0 0)]) qD Ce rfl ?_;intro bo wo No;have Fo:=No.ge E;have Oo_bq:=No.lt Bq;replace Bq:=No.keep Bq;replace E:=E.ext No.ext;have Bo:=No.blk;refine qA _ rfl (AA (AI (Y (qV (Aa (vs:=[(I6 d.start),(.slice aa d.accept.length ac),(.slice na d.next.length nc)]) rfl BB Aw rfl (Bq.cells rfl)) (qE rfl (AV func24 kQ kQ rfl) (Cw _ d _ (ab.ext E)) ?_)))));rintro _ w9 ⟨rfl,X9⟩;replace Bq:=X9.keep Bq;replace Bo:=X9.keep Bo;replace E:=E.ext X9;refine qA _ rfl (AA (Y (qM _ rfl (qV (CE rfl rfl) (AA ?_)))));have ad:(decide ((Af d:Int)≠0))=true:=decide_eq_true hb;refine A7 (BH ad) (Y (qV (B' (ps:=[]) (v:=(.agg #[(I6 0),(.slice none 0 0),(.slice none 0 0)])) rfl qK) (qM _ rfl (A8 (b:=bo) (o:=0) (c':=#[(I6 0),(.slice none 0 0),(.slice none 0 0)]) rfl rfl qS Aw rfl Bo qL rfl ?_))));intro w2 S2;replace Bq:=S2.keep qO Bq;replace E:=S2.step E qQ;replace Bo:=S2.blk;refine qA _ rfl (AA (AS (AU (DJ results20 (vs:=[(.int .i64 0),(.slice none 0 0),(.slice none 0 0)]) (b:=bo) (v':=(.int .i64 (Af d))) rfl BB Aw rfl (Bo.cells rfl) rfl ?_))));exact ⟨rfl,E⟩
theorem NY (g:World) (d:Dfa) (n:List Value) (h:BC g d n) (o:Af d≠0) :
 CB prog 21 #[.agg n.toArray] g λr w=>r=.tuple #[.slice none 0 0,.bool false,.int .i64 (Af d)]∧Al g w:=by
 have a:=h;obtain ⟨e,j,i,b,rfl,hacc,hnxt⟩:=h;refine qR func21 O ntmps21 O (λE=>(Y (BP (v:=(.agg #[(I6 d.start),(.slice e d.accept.length j),(.slice i d.next.length b)])) (c:=#[(I6 d.start),(.slice e d.accept.length j),(.slice i d.next.length b)]) qD O O ?_)));intro bq wq l;replace E:=E.ext l.ext;have f:=l.blk;refine qA _ O (qA _ O (qA _ O (AA (AI (Y (qV (Aa (vs:=[(I6 d.start),(.slice e d.accept.length j),(.slice i d.next.length b)]) O BB Aw O (f.cells O)) (qE O (AV func24 kQ kQ O) (Cw _ d _ (a.ext E)) ?_)))))));rintro _ w9 ⟨rfl,m⟩;replace f:=m.keep f;replace E:=E.ext m;refine qA _ O (AA (Y (qM _ O (qV (CE O O) (AA ?_)))));have k:(decide ((Af d:Int)≠0))=true:=decide_eq_true o;refine A7 (BH k) (Y (qM _ O (qA _ O (qA _ O (qA _ O (AA (AS (AU (Ja results21 (v:=(.slice none 0 0)) (v':=(.bool false)) (v'':=(.int .i64 (Af d))) O O O ?_)))))))));exact ⟨O,E⟩
def Vp (c n:Nat) (f:List Nat->Int) (m:Nat) (r:Value) (w:World):Prop:=∃(d:Dfa) (ea:Option Addr) (ec:Nat) (na:Option Addr) (nc:Nat) (e:Int),r=.tuple #[.agg #[.int .i64 d.start,.slice ea d.accept.length ec,.slice na d.next.length nc],.int .i64 e]∧DP m w d [.int .i64 d.start,.slice ea d.accept.length ec,.slice na d.next.length nc]∧(n<=199->e=0∧Cj c f d)
theorem Rb (w0:World) (n c:Nat) (d:Dfa) (dv:List Value) (ok:OkD n c d) (h:BC w0 d dv) (hn:1≤n∧n≤200) (hc:1≤c∧c≤16) :
  CB prog 20 #[.agg dv.toArray] w0 fun r w=>Vp c n (fun w=>fl (beh d d.start w)) w0.heap.size r w∧Al w0 w:=by
 have ad:=h;obtain ⟨aa,ac,na,nc,rfl,aj,ai⟩:=h;refine qR func20 rfl ntmps20 rfl (fun E=>(Y (BP (v:=(.agg #[(I6 d.start),(.slice aa d.accept.length ac),(.slice na d.next.length nc)])) (c:=#[(I6 d.start),(.slice aa d.accept.length ac),(.slice na d.next.length nc)]) qD rfl rfl ?_)));intro bq wq Nq;have Fq:=Nq.ge E;replace E:=E.ext Nq.ext;have Bq:=Nq.blk;refine By (c:=#[(I6 0),(.slice none 0 0),(.slice none 0 0)]) qD Ce rfl ?_;intro bo wo No;have Fo:=No.ge E;have Oo_bq:=No.lt Bq;replace Bq:=No.keep Bq;replace E:=E.ext No.ext;have Bo:=No.blk;refine qA _ rfl (AA (AI (Y (qV (Aa (vs:=[(I6 d.start),(.slice aa d.accept.length ac),(.slice na d.next.length nc)]) rfl BB Aw rfl (Bq.cells rfl)) (qE rfl (AV func24 kQ kQ rfl) (Cw _ d _ (ad.ext E)) ?_)))));rintro _ w9 ⟨rfl,X9⟩;replace Bq:=X9.keep Bq;replace Bo:=X9.keep Bo;replace E:=E.ext X9;refine qA _ rfl (AA (Y (qM _ rfl (qV (CE rfl rfl) (AA ?_)))));have ah:(decide ((Af d:Int)≠0))=false:=decide_eq_false (by rw[ED ok hn hc];decide);refine AW (BH ah) (AM (AB (Y (qV (Aa (vs:=[(I6 d.start),(.slice aa d.accept.length ac),(.slice na d.next.length nc)]) rfl BB Aw rfl (Bq.cells rfl)) ?_))));obtain ⟨n9,ak⟩:∃n9,n9=(w9).heap.size:=⟨_,rfl⟩;have ae:w0.heap.size≤n9∧bo<n9:=⟨by have:=E.size;omega,by have:=Bo.lt;omega⟩;refine qE rfl (AV func72 kQ kQ rfl) (TG _ n c d _ ok (ad.ext E) qO) ?_;rintro _ w99 ⟨⟨C,ca,cc,ma,mc,hC,hCl,hCa,rfl,ab⟩,ag⟩;replace Bq:=ag.keep Bq;replace Bo:=ag.keep Bo;replace E:=E.ext ag;rw[←ak] at ab;refine A6 (v:=(.agg #[(I6 C.start),(.slice ca C.accept.length cc),(.slice ma C.next.length mc)])) (c:=#[(I6 C.start),(.slice ca C.accept.length cc),(.slice ma C.next.length mc)]) (n:=3) qD Ce rfl Aw rfl rfl rfl qS ?_;intro bx wx Nx;have Fx:=Nx.ge E;have Ox_bq:=Nx.lt Bq;have Ox_bo:=Nx.lt Bo;replace Bq:=Nx.keep Bq;replace Bo:=Nx.keep Bo;replace ab:=ab.chg Nx.ext fun b f=>f.elim;replace E:=E.ext Nx.ext;have Bx:=Nx.blk;refine AA (AI (Y (qF bx 0 2 rfl underlying48 rfl A' rfl (qV (AE rfl A4 (Bx.cell rfl)) (qV (AL underlying46 rfl) (qV (CU rfl rfl) (AA (qC rfl (fun af=>?_) (fun af=>?_)))))))))
 ·refine Y (qV (B' (ps:=[]) (v:=(.agg #[(I6 0),(.slice none 0 0),(.slice none 0 0)])) rfl qK) (A8 (b:=bo) (o:=0) (c':=#[(I6 0),(.slice none 0 0),(.slice none 0 0)]) rfl rfl qS Aw rfl Bo qL rfl ?_));intro w3 S3;replace ab:=ab.chg S3.chg fun b h=>by have h':b=bo:=h;omega
  replace Bq:=S3.keep qO Bq;replace Bx:=S3.keep qO Bx;replace E:=S3.step E qQ;replace Bo:=S3.blk;refine qA _ rfl (AA (AS (AU (DJ results20 (vs:=[(.int .i64 0),(.slice none 0 0),(.slice none 0 0)]) (b:=bo) (v':=(.int .i64 2)) rfl BB Aw rfl (Bo.cells rfl) rfl ?_))));exact ⟨⟨⟨0,[],[]⟩,none,0,none,0,2,rfl,NX _ _,fun h=>qO⟩,E⟩
 ·refine AM (AB (Y (qV (Aa (vs:=[(I6 C.start),(.slice ca C.accept.length cc),(.slice ma C.next.length mc)]) rfl BB Aw rfl (Bx.cells rfl)) (A8 (b:=bo) (o:=0) (c':=#[(I6 C.start),(.slice ca C.accept.length cc),(.slice ma C.next.length mc)]) rfl rfl qS Aw rfl Bo qL rfl ?_))));intro w4 S4;replace ab:=ab.chg S4.chg fun b h=>by have h':b=bo:=h;omega
  replace Bq:=S4.keep qO Bq;replace Bx:=S4.keep qO Bx;replace E:=S4.step E qQ;replace Bo:=S4.blk;refine qA _ rfl (AA (AS (DJ results20 (vs:=[(.int .i64 C.start),(.slice ca C.accept.length cc),(.slice ma C.next.length mc)]) (b:=bo) (v':=(.int .i64 0)) rfl BB Aw rfl (Bo.cells rfl) rfl ?_)));exact ⟨⟨C,ca,cc,ma,mc,0,rfl,ab.low ae.1,fun _=>⟨rfl,hC⟩⟩,E⟩
end Go.Proofs
namespace Go.Proofs
open Go Go.Eng Go.Sort
set_option maxRecDepth 100000
--BEGIN
def Mz (n c:Nat) (d:Dfa):Dfa:=⟨d.start,d.accept++[-1],(Cz n c d).next⟩
theorem Tz {n c:Nat} {d:Dfa} (h:OkD n c d) {s:Int} {x:Nat} (hs : -1<=s∧s<n) (a:x<c):Bu (Mz n c d) (nt n s) x=nt n (Bu d s x):=OU h hs a
theorem Sj {n c:Nat} {d:Dfa} (h:OkD n c d):OkD (n+1) c (Mz n c d) where
 nl:=(HO h).nl
 al:=by simp[Mz,h.al]
 st:=(HO h).st
 acc:=λx a=>by
  simp only[Mz,List.mem_append,List.mem_singleton] at a;rcases a with a|rfl
  .exact h.acc x a
  .decide
 row:=(HO h).row
theorem Ui {n c:Nat} {d:Dfa} (h:OkD n c d) {s:Int} (hs : -1<=s∧s<n):Co (Mz n c d) (nt n s)=Co d s:=by
 have aa:=h.al;rcases Int.lt_or_le s 0 with h1|h1
 ·rw[show nt n s=((n:Nat):Int) by unfold nt;rw[if_pos h1],show Co d s = -1 by unfold Co;rw[if_pos h1]];exact Cn (by simp[Mz,aa])
 ·obtain ⟨sN,rfl⟩:=Int.eq_ofNat_of_zero_le h1;rw[show nt n ((sN:Nat):Int)=((sN:Nat):Int) by unfold nt;rw[if_neg qO]];obtain ⟨a,ha⟩:=AK (l:=d.accept) (i:=sN) qO;rw[Cn ha];exact Cn (by simp only[Mz];rw[List.getElem?_append_left qO];exact ha)
theorem OC {n c:Nat} {d:Dfa} (h:OkD n c d):∀{w:List Nat} {s:Int},C0 c w->-1<=s∧s<n->beh (Mz n c d) (nt n s) w=beh d s w
 | [],s,_,hs=>Ui h hs
 | x::w,s,hw,hs=>by
  simp only[beh];rw[Tz h hs hw.head];exact OC h hw.tail h.to
theorem TU {n c:Nat} {d:Dfa} (h:OkD n c d) {w:List Nat} (a:C0 c w):beh (Mz n c d) (Mz n c d).start w=beh d d.start w:=by
 have hst:=h.st;have:=OC h (s:=d.start) a qO
 rwa [show nt n d.start=d.start by unfold nt;rw[if_neg qO]] at this
theorem TT {n c:Nat} {d:Dfa} (h:OkD n c d) {w:List Nat} (a:C0 c w):beh (Mz n c d) ((n:Nat):Int) w = -1:=by
 have:=OC h (s:=-1) a qO
 rwa [show nt n (-1)=((n:Nat):Int) by rfl,C6 (d:=d) (w:=w) (s:=-1) qD] at this
def IS (n c:Nat) (d:Dfa):Prop:=∀(s:Int) (x:Nat),0<=s->s<n->x<c->0<=Bu d s x
theorem RO {n c:Nat} {d:Dfa} (h:∀r∈d.next,∀x∈r,0<=x) (ok:OkD n c d):IS n c d:=λs x f h1 hx=>by
 obtain ⟨e,rfl⟩:=Int.eq_ofNat_of_zero_le f;obtain ⟨row,a⟩:=AK (l:=d.next) (i:=e) (by have:=ok.nl;omega);obtain ⟨t,b⟩:=AK (l:=row) (i:=x) (by have:=(ok.row row (List.mem_of_getElem? a)).1;omega);rw[DQ a b];exact h row (List.mem_of_getElem? a) t (List.mem_of_getElem? b)
theorem UU {n c:Nat} {d:Dfa} (h:OkD n c d):IS (n+1) c (Mz n c d):=RO (λr hr x hx=>by
 simp only[Mz,Cz,List.mem_append,List.mem_map,List.mem_singleton] at hr;rcases hr with ⟨q,hq,rfl⟩|rfl
 ·obtain ⟨t,ht,rfl⟩:=List.mem_map.1 hx;exact (Qz ((h.row q hq).2 t ht)).1
 ·rw[List.eq_of_mem_replicate hx];omega) (Sj h)
def EF (T:List (List Bool)) (s t:Nat):Bool:=(T.getD s []).getD t false
def IX (T:List (List Bool)) (s t:Nat):List (List Bool):=T.set s ((T.getD s []).set t true)
def Di (T:List (List Bool)):Nat:=(T.map λr=>r.count false).sum
structure SqF (n:Nat) (T:List (List Bool)):Prop where
 len:T.length=n
 row:∀r∈T,r.length=n
theorem SqF.get {n s:Nat} {T:List (List Bool)} (h:SqF n T) (hs:s<n):∃r,T[s]?=some r∧r.length=n∧T.getD s []=r:=by
 obtain ⟨r,a⟩:=AK (l:=T) (i:=s) (by rw[h.len];exact hs);exact ⟨r,a,h.row r (List.mem_of_getElem? a),by rw[List.getD_eq_getElem?_getD,a];rfl⟩
theorem SqF.cell {n s t:Nat} {T:List (List Bool)} (h:SqF n T) (hs:s<n) (ht:t<n):∃r,T[s]?=some r∧r.length=n∧r[t]?=some (EF T s t):=by
 obtain ⟨r,a,d,e⟩:=h.get hs;obtain ⟨b,c⟩:=AK (l:=r) (i:=t) qO;refine ⟨r,a,d,?_⟩;unfold EF;rw[e,List.getD_eq_getElem?_getD,c];rfl
theorem SqF.put {n s t:Nat} {T:List (List Bool)} (h:SqF n T) (hs:s<n):SqF n (IX T s t):=by
 obtain ⟨r,h1,c,d⟩:=h.get hs;refine ⟨by unfold IX;rw[List.length_set];exact h.len,λq b=>?_⟩;unfold IX at b;rcases List.mem_or_eq_of_mem_set b with a|a
 .exact h.row q a
 .rw[a,List.length_set,d];exact c
theorem Oq {n s t a b:Nat} {T:List (List Bool)} (h:SqF n T) (hs:s<n) (ht:t<n):EF (IX T s t) a b=if a=s∧b=t then true else EF T a b:=by
 obtain ⟨r,h1,h2,f⟩:=h.get hs;have hl:=h.len;unfold EF IX;rw[List.getD_eq_getElem?_getD (l:=T.set _ _),List.getElem?_set];by_cases c:s=a
 .subst c;rw[if_pos O,if_pos qO,Option.getD_some,f,List.getD_eq_getElem?_getD,List.getElem?_set];by_cases d:t=b
  .subst d;rw[if_pos O,if_pos qO,if_pos ⟨O,O⟩];rfl
  .rw[if_neg d,if_neg (λe=>d e.2.symm),List.getD_eq_getElem?_getD]
 .rw[if_neg c,if_neg (λe=>c e.1.symm),<-List.getD_eq_getElem?_getD]
theorem Jh:∀{r:List Bool} {t:Nat},r[t]?=some false->(r.set t true).count false+1=r.count false
 | [],t,h=>by simp at h
 | b::r,0,h=>by simp at h;subst h;simp
 | b::r,t+1,h=>by
  have:=Jh (r:=r) (t:=t) (by simpa using h);simp only[List.set_cons_succ,List.count_cons];omega
theorem Jc:∀{T:List (List Bool)} {s t:Nat} {r:List Bool},T[s]?=some r->r[t]?=some false->Di (T.set s (r.set t true))+1=Di T
 | [],s,t,r,h,_=>by simp at h
 | q::T,0,t,r,h,ht=>by
  simp at h;subst h;have:=Jh ht;simp only[Di,List.set_cons_zero,List.map_cons,List.sum_cons];omega
 | q::T,s+1,t,r,h,ht=>by
  have:=Jc (T:=T) (s:=s) (t:=t) (r:=r) (by simpa using h) ht;simp only[Di,List.set_cons_succ,List.map_cons,List.sum_cons] at this⊢;omega
theorem NV {n s t:Nat} {T:List (List Bool)} (h:SqF n T) (hs:s<n) (d:t<n) (c:EF T s t=false):Di (IX T s t)+1=Di T:=by
 obtain ⟨r,a,h2,b⟩:=h.cell hs d;rw[c] at b;have:=Jc a b;unfold IX
 rwa [show T.getD s []=r by rw[List.getD_eq_getElem?_getD,a];rfl]
structure FarT (n c:Nat) (d:Dfa) (T:List (List Bool)):Prop where
 sq:SqF n T
 acc:∀s t:Nat,s<n->t<n->Co d ((s:Nat):Int)≠Co d ((t:Nat):Int)->EF T s t=true
 far:∀s t:Nat,s<n->t<n->EF T s t=true->¬Ea c d ((s:Nat):Int) ((t:Nat):Int)
def Kt (d:Dfa) (T:List (List Bool)) (s t x:Nat):Prop:=EF T (Bu d ((s:Nat):Int) x).toNat (Bu d ((t:Nat):Int) x).toNat=true->EF T s t=true
theorem FarT.put {n c s t x:Nat} {d:Dfa} {T:List (List Bool)} (h:FarT n c d T) (ok:OkD n c d) (m:IS n c d) (hs:s<n) (l:t<n) (g:x<c) (r:EF T (Bu d ((s:Nat):Int) x).toNat (Bu d ((t:Nat):Int) x).toNat=true):FarT n c d (IX T s t):=by
 refine ⟨h.sq.put hs,λa b i e f=>?_,λa b i e j=>?_⟩
 .rw[Oq h.sq hs l];split
  .rfl
  .exact h.acc a b i e f
 .rw[Oq h.sq hs l] at j;split at j
  .rename_i k
   rw[k.1,k.2];intro o;have h2:=ok.to (s:=((s:Nat):Int)) (x:=x);have h3:=ok.to (s:=((t:Nat):Int)) (x:=x);have q:=m ((s:Nat):Int) x qO qO g;have p:=m ((t:Nat):Int) x qO qO g;refine h.far _ _ qO qO r ?_;rw[Int.toNat_of_nonneg q,Int.toNat_of_nonneg p];exact o.to g
  .exact h.far a b i e j
theorem FarT.iff {n c:Nat} {d:Dfa} {T:List (List Bool)} (h:FarT n c d T) (ok:OkD n c d) (j:IS n c d) (k:∀s t x:Nat,s<n->t<n->x<c->Kt d T s t x) {s t:Nat} (hs:s<n) (b:t<n):EF T s t=true↔¬Ea c d ((s:Nat):Int) ((t:Nat):Int):=by
 refine ⟨h.far s t hs b,λl=>Classical.byContradiction λf=>l λw a=>?_⟩;have i:∀(w:List Nat) (s t:Nat),C0 c w->s<n->t<n->¬EF T s t=true->beh d ((s:Nat):Int) w=beh d ((t:Nat):Int) w:=by
  intro w
  induction w with
  | nil=>exact λs t _ hs b f=>Classical.byContradiction λg=>f (h.acc s t hs b g)
  | cons x w ih=>
   intro s t a hs b f;have h2:=ok.to (s:=((s:Nat):Int)) (x:=x);have h3:=ok.to (s:=((t:Nat):Int)) (x:=x);have o:=j ((s:Nat):Int) x qO qO a.head;have m:=j ((t:Nat):Int) x qO qO a.head;have:=ih _ _ a.tail (show (Bu d ((s:Nat):Int) x).toNat<n by omega) (show (Bu d ((t:Nat):Int) x).toNat<n by omega) (λe=>f (k s t x hs b a.head e));rw[Int.toNat_of_nonneg o,Int.toNat_of_nonneg m] at this;exact this
 exact i w s t a hs b f
def M0 (n:Nat) (d:Dfa):List (List Bool):=(List.range n).map λs=>(List.range n).map λt=>decide (Co d ((s:Nat):Int)≠Co d ((t:Nat):Int))
theorem O4 {n s t:Nat} {d:Dfa} (hs:s<n) (b:t<n):EF (M0 n d) s t=decide (Co d ((s:Nat):Int)≠Co d ((t:Nat):Int)):=by
 have a:(M0 n d).getD s []=(List.range n).map λt=>decide (Co d ((s:Nat):Int)≠Co d ((t:Nat):Int)):=by
  rw[List.getD_eq_getElem?_getD,M0,List.getElem?_map,List.getElem?_range hs];rfl
 unfold EF;rw[a,List.getD_eq_getElem?_getD,List.getElem?_map,List.getElem?_range b];rfl
theorem FarT.start (n c:Nat) (d:Dfa):FarT n c d (M0 n d):=by
 refine ⟨⟨by simp[M0],λr b=>?_⟩,λs t hs a h=>by rw[O4 hs a];exact decide_eq_true h,λs t hs a h=>?_⟩
 .simp only[M0,List.mem_map] at b;obtain ⟨s,_,rfl⟩:=b;simp
 .rw[O4 hs a] at h;intro e;exact (of_decide_eq_true h) (e [] (C0.nil c))
def Hq (n k:Nat) (T:List (List Bool)):List Int:=(List.range n).map λs=>if EF T s k then ((((List.range n).find? λt=>!EF T s t).getD 0:Nat):Int) else -1
structure FarP (n c k:Nat) (d:Dfa) (T:List (List Bool)):Prop where
 ok:OkD n c d
 fu:IS n c d
 kn:k<n
 kd:∀w,C0 c w->beh d ((k:Nat):Int) w = -1
 iff:∀s t:Nat,s<n->t<n->(EF T s t=true↔¬Ea c d ((s:Nat):Int) ((t:Nat):Int))
theorem HM {n k s:Nat} {T:List (List Bool)} (hs:s<n):CH (Hq n k T) ((s:Nat):Int)=if EF T s k then ((((List.range n).find? λt=>!EF T s t).getD 0:Nat):Int) else -1:=
 CV (by unfold Hq;rw[List.getElem?_map,List.getElem?_range hs];rfl)
theorem FarP.same {n c k:Nat} {d:Dfa} {T:List (List Bool)} (h:FarP n c k d T) {s t:Nat} (hs:s<n) (a:t<n):EF T s t=false↔Ea c d ((s:Nat):Int) ((t:Nat):Int):=by
 rw[<-Bool.not_eq_true,h.iff s t hs a,Classical.not_not]
theorem FarP.live {n c k:Nat} {d:Dfa} {T:List (List Bool)} (h:FarP n c k d T) {s:Nat} (hs:s<n):EF T s k=true↔BG c d ((s:Nat):Int):=by
 rw[h.iff s k hs h.kn];constructor
 .intro e;apply Classical.byContradiction;intro g;exact e λw a=>by rw[h.kd w a,h.ok.dead g a]
 .rintro ⟨w,a,b⟩ f;rw[f w a,h.kd w a] at b;exact absurd b qD
theorem FarP.first {n c k:Nat} {d:Dfa} {T:List (List Bool)} (h:FarP n c k d T) {s:Nat} (hs:s<n):∃t,(List.range n).find? (λt=>!EF T s t)=some t∧t<n∧Ea c d ((s:Nat):Int) ((t:Nat):Int):=by
 cases hf:(List.range n).find? (λt=>!EF T s t) with
 | none=>
  have:=List.find?_eq_none.1 hf s (List.mem_range.2 hs);rw[(h.same hs hs).2 λw _=>rfl] at this;simp at this
 | some t=>
  have b:=List.find?_some hf;have a:=List.mem_range.1 (List.mem_of_find?_eq_some hf);exact ⟨t,O,a,(h.same hs a).1 (by simpa using b)⟩
theorem FarP.parts {n c k:Nat} {d:Dfa} {T:List (List Bool)} (h:FarP n c k d T):PartsOf n c d (Hq n k T) where
  len:=by simp[Hq]
  live:=λs hs=>by
    rcases Int.lt_or_le s 0 with h1|h1
    · rw[Gj h1];exact ⟨⟨λh=>absurd h qD,λh=>absurd h (CC h1)⟩,Int.le_refl _,qO⟩
    · obtain ⟨j,rfl⟩:=Int.eq_ofNat_of_zero_le h1;have hj:j<n:=qO
      obtain ⟨t,h2,h3,_⟩:=h.first hj;rw[HM hj];by_cases hl:EF T j k=true
      · rw[if_pos hl,h2,Option.getD_some];exact ⟨⟨λ_=>(h.live hj).1 hl,λ_=>qO⟩,qO,qO⟩
      · rw[if_neg hl];exact ⟨⟨λh=>absurd h qD,λh9=>absurd ((h.live hj).2 h9) hl⟩,Int.le_refl _,qO⟩
  iff:=λs t hs ht=>by
    have hdd:∀s:Int,s<0->¬BG c d s:=λs h=>CC h;have gen:∀s t:Int,-1<=s∧s<n->-1<=t∧t<n->s<0->(CH (Hq n k T) s=CH (Hq n k T) t↔Ea c d s t):=λs t hs ht h1=>by
      rw[Gj h1];rcases Int.lt_or_le t 0 with h2|h2
      · rw[Gj h2];exact ⟨λ_ w _=>by rw[C6 h1,C6 h2],λ_=>rfl⟩
      · obtain ⟨j,rfl⟩:=Int.eq_ofNat_of_zero_le h2;have hj:j<n:=qO
        rw[HM hj];by_cases hl:EF T j k=true
        · rw[if_pos hl];refine ⟨λe=>qO,λe=>?_⟩;obtain ⟨w,hw,h3⟩:=(h.live hj).1 hl;rw[<-e w hw,C6 h1] at h3;exact absurd h3 qD
        · rw[if_neg hl];exact ⟨λ_ w hw=>by rw[C6 h1,h.ok.dead (λh9=>hl ((h.live hj).2 h9)) hw],λ_=>rfl⟩
    rcases Int.lt_or_le s 0 with h1|h1
    · exact gen s t hs ht h1
    rcases Int.lt_or_le t 0 with h2|h2
    · have:=gen t s ht hs h2;exact ⟨λe w hw=>(this.1 e.symm w hw).symm,λe=>(this.2 λw hw=>(e w hw).symm).symm⟩
    obtain ⟨a,rfl⟩:=Int.eq_ofNat_of_zero_le h1;obtain ⟨b,rfl⟩:=Int.eq_ofNat_of_zero_le h2;have ha:a<n:=qO
    have hb:b<n:=qO
    obtain ⟨a1,ha1,ha2,ha3⟩:=h.first ha;obtain ⟨b1,hb1,hb2,hb3⟩:=h.first hb;rw[HM ha,HM hb];by_cases hla:EF T a k=true
    · by_cases hlb:EF T b k=true
      · rw[if_pos hla,if_pos hlb,ha1,hb1];simp only[Option.getD_some];constructor
        · intro e w hw;have e2:a1=b1:=qO
          rw[ha3 w hw,e2,<-hb3 w hw]
        · intro e;have e2:(λt=>!EF T a t)=(λt=>!EF T a t):=rfl;have e3:(List.range n).find? (λt=>!EF T a t)=(List.range n).find? (λt=>!EF T b t):=by
            have ac:∀t∈List.range n,(!EF T a t)=(!EF T b t):=λt ht=>by
              have ab:=List.mem_range.1 ht;congr 1;rw[Bool.eq_iff_iff,h.iff a t ha ab,h.iff b t hb ab];exact ⟨λh1 h2=>h1 λw hw=>(e w hw).trans (h2 w hw),λh1 h2=>h1 λw hw=>(e w hw).symm.trans (h2 w hw)⟩
            have aa:∀(l:List Nat) (f g:Nat->Bool),(∀t∈l,f t=g t)->l.find? f=l.find? g:=by
              intro l f g
              induction l with
              | nil=>exact λ_=>rfl
              | cons x l ih=>
                intro hl;rw[List.find?_cons,List.find?_cons,hl x List.mem_cons_self,ih λt ht=>hl t (List.mem_cons_of_mem _ ht)]
            exact aa _ _ _ ac
          rw[ha1,hb1] at e3;rw[Option.some.inj e3]
      · rw[if_pos hla,if_neg hlb];refine ⟨λe=>qO,λe=>?_⟩;exact absurd ((h.live hb).2 (Ea.live e ((h.live ha).1 hla))) hlb
    · by_cases hlb:EF T b k=true
      · rw[if_neg hla,if_pos hlb];refine ⟨λe=>qO,λe=>?_⟩;exact absurd ((h.live ha).2 (Ea.live (λw hw=>(e w hw).symm) ((h.live hb).1 hlb))) hla
      · rw[if_neg hla,if_neg hlb];exact ⟨λ_ w hw=>by rw[h.ok.dead (λh9=>hla ((h.live ha).2 h9)) hw,h.ok.dead (λh9=>hlb ((h.live hb).2 h9)) hw],λ_=>rfl⟩
def EA (n c:Nat) (d:Dfa) (p:List Int) (rows:List (List Int)) (row st:List Int):Prop:=
 (0<=CH p d.start∧CanP n c d p rows row st)∨(CH p d.start<0∧st=[d.start]∧((rows=[]∧row=List.replicate row.length (-1))∨(rows=[List.replicate c (-1)]∧row=[])))
theorem EA.start {n c k:Nat} {d:Dfa} {T:List (List Bool)} (h:FarP n c k d T):EA n c d (Hq n k T) [] [] [d.start]:=by
 rcases Int.lt_or_le (CH (Hq n k T) d.start) 0 with a|a
 .exact .inr ⟨a,O,.inl ⟨O,O⟩⟩
 .exact .inl ⟨a,CanP.start h.ok.st a⟩
theorem EA.sl {n c k:Nat} {d:Dfa} {T:List (List Bool)} {rows:List (List Int)} {row st:List Int} (b:EA n c d (Hq n k T) rows row st) (h:FarP n c k d T):∀s∈st,0<=s∧s<n:=λs hs=>by
 rcases b with ⟨_,a⟩|⟨_,rfl,_⟩
 .exact ⟨(a.sl s hs).1,(a.sl s hs).2.1⟩
 .rw[List.mem_singleton] at hs;rw[hs];exact h.ok.st
theorem EA.st_le {n c k:Nat} {d:Dfa} {T:List (List Bool)} {rows:List (List Int)} {row st:List Int} (l:EA n c d (Hq n k T) rows row st) (h:FarP n c k d T):st.length<=n∧1<=st.length:=by
 rcases l with ⟨_,f⟩|⟨_,rfl,_⟩
 .have hd:(st.map Int.toNat).Nodup:=by
   rw[List.nodup_iff_pairwise_ne,List.pairwise_iff_getElem];intro i j hi g hij q;simp only[List.length_map] at hi g;simp only[List.getElem_map] at q;have a:=List.getElem?_eq_getElem hi;have b:=List.getElem?_eq_getElem g;have h2:=f.sl _ (List.mem_of_getElem? a);have h3:=f.sl _ (List.mem_of_getElem? b);have e:st[i]=st[j]:=qO
   have:=f.inj i j _ _ a b (by rw[e]);omega
  have p:=Do (m:=List.range n) hd λx o=>by
   obtain ⟨s,hs,rfl⟩:=List.mem_map.1 o;have:=f.sl s hs;exact List.mem_range.2 qO
  exact ⟨by simpa using p,List.length_pos_of_mem (List.mem_of_getElem? f.s0)⟩
 .exact ⟨by have:=h.kn;simp;omega,Nat.le_refl _⟩
theorem EA.dead {n c k:Nat} {d:Dfa} {T:List (List Bool)} {rows:List (List Int)} {row st:List Int} {s:Int} (f:EA n c d (Hq n k T) rows row st) (h:FarP n c k d T) (hs:st[rows.length]?=some s) (l:row.length<c) (hd:EF T (Bu d s row.length).toNat k=false):EA n c d (Hq n k T) rows (row++[-1]) st:=by
 have i:=f.sl h s (List.mem_of_getElem? hs);have m:=h.fu s row.length i.1 i.2 l;have h2:=h.ok.to (s:=s) (x:=row.length);have j:CH (Hq n k T) (Bu d s row.length)<0:=by
  obtain ⟨t,o⟩:=Int.eq_ofNat_of_zero_le m;rw[o] at hd⊢;rw[HM qO,if_neg (by rw[Int.toNat_natCast] at hd;rw[hd];simp)];decide
 rcases f with ⟨e,b⟩|⟨e,rfl,b⟩
 .exact .inl ⟨e,b.add hs (.inl ⟨O,j⟩)⟩
 .refine .inr ⟨e,O,?_⟩;rcases b with ⟨a,g⟩|⟨a,g⟩
  .exact .inl ⟨a,by rw[g];simp[List.replicate_succ']⟩
  .rw[a] at hs;simp at hs
theorem EA.tlive {n c k:Nat} {d:Dfa} {T:List (List Bool)} {rows:List (List Int)} {row st:List Int} {s:Int} (g:EA n c d (Hq n k T) rows row st) (h:FarP n c k d T) (hs:st[rows.length]?=some s) (l:row.length<c) (hd:EF T (Bu d s row.length).toNat k=true):CanP n c d (Hq n k T) rows row st∧0<=CH (Hq n k T) d.start∧0<=CH (Hq n k T) (Bu d s row.length):=by
 have i:=g.sl h s (List.mem_of_getElem? hs);have r:=h.fu s row.length i.1 i.2 l;have q:=h.ok.to (s:=s) (x:=row.length);have o:=h.parts;have a:BG c d (Bu d s row.length):=by
  obtain ⟨t,u⟩:=Int.eq_ofNat_of_zero_le r;rw[u] at hd⊢;exact (h.live qO).1 (by simpa using hd)
 have f:=(o.live _ ⟨qO,q.2⟩).1.2 a;rcases g with ⟨p,m⟩|⟨p,rfl,m⟩
 .exact ⟨m,p,f⟩
 .exfalso;have b:s=d.start:=by
   cases hr:rows.length with
   | zero=>rw[hr] at hs;simp at hs;exact hs.symm
   | succ j=>rw[hr] at hs;simp at hs
  rw[b] at a;have e:=h.ok.st;have:=(o.live d.start ⟨qO,e.2⟩).1.2 (Ol a l);omega
theorem FarP.pt {n c k:Nat} {d:Dfa} {T:List (List Bool)} (h:FarP n c k d T) {s t:Int} (hs:0<=s∧s<n) (e:0<=t∧t<n):EF T s.toNat t.toNat=false↔CH (Hq n k T) s=CH (Hq n k T) t:=by
 obtain ⟨a,rfl⟩:=Int.eq_ofNat_of_zero_le hs.1;obtain ⟨b,rfl⟩:=Int.eq_ofNat_of_zero_le e.1;rw[Int.toNat_natCast,Int.toNat_natCast,h.same qO qO,h.parts.iff _ _ qO qO]
theorem EA.old {n c k j:Nat} {d:Dfa} {T:List (List Bool)} {rows:List (List Int)} {row st:List Int} {s u:Int} (a:EA n c d (Hq n k T) rows row st) (h:FarP n c k d T) (hs:st[rows.length]?=some s) (i:row.length<c) (hd:EF T (Bu d s row.length).toNat k=true) (f:st[j]?=some u) (q:EF T u.toNat (Bu d s row.length).toNat=false):EA n c d (Hq n k T) rows (row++[((j:Nat):Int)]) st:=by
 have g:=a.sl h s (List.mem_of_getElem? hs);have b:=a.sl h u (List.mem_of_getElem? f);have o:=h.fu s row.length g.1 g.2 i;have l:=h.ok.to (s:=s) (x:=row.length);obtain ⟨m,p,r⟩:=a.tlive h hs i hd;have e:=(h.pt b ⟨o,l.2⟩).1 q;exact .inl ⟨p,m.add hs (.inr ⟨j,u,O,f,e,by rw[e];exact r⟩)⟩
theorem EA.new {n c k:Nat} {d:Dfa} {T:List (List Bool)} {rows:List (List Int)} {row st:List Int} {s:Int} (a:EA n c d (Hq n k T) rows row st) (h:FarP n c k d T) (hs:st[rows.length]?=some s) (i:row.length<c) (hd:EF T (Bu d s row.length).toNat k=true) (o:∀u∈st,EF T u.toNat (Bu d s row.length).toNat=true):EA n c d (Hq n k T) rows (row++[((st.length:Nat):Int)]) (st++[Bu d s row.length]):=by
 have g:=a.sl h s (List.mem_of_getElem? hs);have j:=h.fu s row.length g.1 g.2 i;have f:=h.ok.to (s:=s) (x:=row.length);obtain ⟨l,m,q⟩:=a.tlive h hs i hd;refine .inl ⟨m,l.new hs ⟨j,f.2⟩ q λu e p=>?_⟩;have b:=(h.pt (a.sl h u e) ⟨j,f.2⟩).2 p;rw[o u e] at b;cases b
theorem EA.rch {n c:Nat} {d:Dfa} {p:List Int} {rows:List (List Int)} {st:List Int} (a:EA n c d p rows [] st) (hl:rows.length<st.length):0<=CH p d.start->((rows.length:Nat):Int)<=FZ rows.flatten:=λh0=>by
 rcases a with ⟨_,b⟩|⟨h3,_⟩
 .have:=b.mx;rw[List.append_nil] at this;omega
 .omega
theorem EA.row {n c:Nat} {d:Dfa} {p:List Int} {rows:List (List Int)} {row st:List Int} (h:EA n c d p rows row st) (g:row.length=c) (i:0<=CH p d.start->((rows.length:Nat):Int)<=FZ rows.flatten) (b:rows.length<st.length):EA n c d p (rows++[row]) [] st:=by
 rcases h with ⟨a,e⟩|⟨a,rfl,e⟩
 .exact .inl ⟨a,e.row g (i a)⟩
 .refine .inr ⟨a,O,.inr ?_⟩;rcases e with ⟨rfl,f⟩|⟨rfl,_⟩
  .rw[g] at f;exact ⟨by rw[f];rfl,O⟩
  .simp at b
theorem EA.done {n c k:Nat} {d:Dfa} {T:List (List Bool)} {rows:List (List Int)} {st:List Int} (g:EA n c d (Hq n k T) rows [] st) (h:FarP n c k d T) (f:rows.length=st.length):Cj c (beh d d.start) ⟨0,st.map (Co d),rows⟩:=by
 rcases g with ⟨_,b⟩|⟨h3,rfl,b⟩
 .exact b.done h.ok h.parts f
 .have e:=h.ok.st;have a:¬BG c d d.start:=λj=>by have:=(h.parts.live d.start ⟨qO,e.2⟩).1.2 j;omega
  rcases b with ⟨rfl,_⟩|⟨rfl,_⟩
  .simp at f
  .have i:Co d d.start = -1:=h.ok.dead a (C0.nil c);have:=Jl h.ok a;simpa[i] using this
end Go.Proofs
namespace Go.Proofs
open Go Go.Eng Go.Sort
set_option maxRecDepth 100000
def Ko (n0:Nat):EK:=λv w=>∃b,v=.slice (some ⟨b,0,none⟩) 0 0∧n0<=b∧Az w b #[] CF
theorem Pr (n0:Nat):∀v w w',Al w w'->Ko n0 v w->Ko n0 v w':=by
 rintro v w w' e ⟨b,a,c,d⟩;exact ⟨b,a,c,Al.keep e d⟩
def J3 (n0 m:Nat) (xs:List Value):EK:=λv w=>∃a c,v=.slice a m c∧w.ownsRow n0 CF 1 v m xs
theorem MC (n0 m:Nat) (xs:List Value):∀v w w',Al w w'->J3 n0 m xs v w->J3 n0 m xs v w':=by
 rintro v w w' e ⟨a,c,b,d⟩;exact ⟨a,c,b,Am d e⟩
def IZ (n0:Nat) (y:Int):EK:=λv w=>∃b,v=.slice (some ⟨b,0,none⟩) 1 1∧n0<=b∧Az w b #[.int .i64 y] CF
theorem JG (n0:Nat) (y:Int):∀v w w',Al w w'->IZ n0 y v w->IZ n0 y v w':=by
 rintro v w w' e ⟨b,a,c,d⟩;exact ⟨b,a,c,Al.keep e d⟩
section
variable {N n0 : Nat} {σ : B0} {w : World} {dst : Option Tmp} {ty : TypeId} {pos : String} {af : Array Edge} {g : Option (Nat × Bool)} {s x : Operand} {M : Nat → Prop}
theorem QD (c:n0<=w.heap.size):CP M prog N ⟨dst,.buildSlice 22 0 #[],ty,pos,af,g⟩ (Ko n0) σ w:=by
 have a:=New.mk' w #[] CF;refine AR (v:=.slice (some ⟨w.heap.size,0,none⟩) 0 0) (w':={w with heap:=w.heap.push (.cells #[] CF (0,0))}) ?_ (Al.chg a.ext) ⟨_,O,c,a.blk⟩;have b:Array.range 0=#[]:=rfl;simp[execOp,Instr.buildSlice,run_underlying underlying22,(Ad).run,Instr.fill,newRow,b]
theorem IF {y:Int} (c:ev σ x=.int .i64 y) (b:n0<=w.heap.size):CP M prog N ⟨dst,.buildSlice 22 1 #[(0,x)],ty,pos,af,g⟩ (IZ n0 y) σ w:=by
 have a:=New.mk' w #[.int .i64 y] CF;exact AR (Dy (parts:=[(0,x)]) (ps:=[(0,.int .i64 y)]) (by simp only[List.map,c]) underlying22 Ad BY qD qD qK) (Al.chg a.ext) ⟨_,O,b,a.blk⟩
theorem Mn {base n m c t r:Nat} {v:Value} {xs news:List Value} (e:w.ownsRow base CF 1 v n xs) (hl:news.length=m) (o:BA w t r news) (C:∀u∈news,u.oneCell'=true) (hnm:n+m<=1000000) (l:base<=w.heap.size) (hs:ev σ s=v) (E:ev σ x=.slice (some ⟨t,r,none⟩) m c) :
 ∃v' w',(execOp (ev σ) ⟨dst,.call ⟨.builtin .append,#[s,x],#[22,22]⟩,ty,pos,af,g⟩).run prog w=.ok (.value v') w'∧w'.ownsRow base CF 1 v' (n+m) (xs++news)∧Chg (λy=>v.ownBlock=some y) w w'∧((∃q cap,v=.slice (some ⟨q,0,none⟩) n cap∧cap<n+m)->Al w w'):=by
 have a:=Ad;have f:=Dj;have p:=BY;unfold DD at a;unfold IU at f;unfold D_ at p;cases hi:(prog).info? CF with
 | none=>rw[hi] at a;simp at a
 | some i=>
 rw[hi] at a f p;simp at a f p;have d:∀j u,news[j]?=some u->w.cell? ((⟨t,r,none⟩:Addr).add j)=some u:=λj u D=>by rw[Addr.add_lit];exact o j u D
 obtain ⟨v',w',A,G,z,_⟩:=run_append_own (P:=prog) w base 22 ty CF i _ 1 _ underlying22 hi p a f O qD v n xs e ⟨t,r,none⟩ m c news qO d C (by unfold maxLen;omega) qO l;refine ⟨v',w',by simp[execOp,resolve,invoke,builtin,hs,E,A],G,⟨z.os,z.tape,z.output,GC (P:=prog) underlying22 hi p a f e qO d C (by unfold maxLen;omega) qO A,z.size,λb F H=>z.block b F (λh=>H h.symm)⟩,?_⟩;rintro ⟨q,cap,rfl,hcap⟩;have k:∀j u,xs[j]?=some u->w.cell? ((⟨q,0,none⟩:Addr).add j)=some u:=e.cells (g:=q) O;have B:=run_append_grow (P:=prog) w 22 ty CF i _ underlying22 hi p ⟨q,0,none⟩ n cap xs (by rw[a];exact e.1) k ⟨t,r,none⟩ m c news (by rw[a];omega) d qO qO (growslice_fits qO (by rw[f];omega));rw[B] at A;cases A;exact Al.trans (Er w) (New.mk' _ _ _).ext
theorem Lj {e m c j k:Nat} {news:List Value} (hs:ev σ s=.slice (some ⟨e,0,none⟩) 0 0) (f:n0<=e) (r:Az w e #[] CF) (o:ev σ x=.slice (some ⟨j,k,none⟩) m c) (n:news.length=m) (hpos:0<m) (b:BA w j k news) (p:∀u∈news,u.oneCell'=true) (hm:m<=1000000) (i:n0<=w.heap.size) :
 CP M prog N ⟨dst,.call ⟨.builtin .append,#[s,x],#[22,22]⟩,ty,pos,af,g⟩ (J3 n0 m news) σ w:=by
 have d:=FM (base:=n0) (size:=1) r f;obtain ⟨v',w',l,h,_,q⟩:=Mn (dst:=dst) (ty:=ty) (pos:=pos) (af:=af) (g:=g) d n b p qO i hs o;refine AR l (Al.chg (q ⟨e,0,O,qO⟩)) ?_;simp only[Nat.zero_add,List.nil_append] at h;obtain ⟨a,c,rfl⟩:=BD h;exact ⟨a,c,O,h⟩
theorem UE {T:TypeId} {e size n base:Nat} {v:Value} {xs:List Value} {w':World} (h:w.ownsRow base e size v n xs) (C:Chg (λy=>v.ownBlock=some y) w w'):PB e w w':=λb c t f l=>Chg.keep C (λj=>by
 rcases h.2 with ⟨rfl,_⟩|⟨g,cap,d,rfl,_,k,_⟩
 .cases j
 .have i:g=b:=Option.some.inj j;subst i;unfold Az at f;have a:w.heap[g]?=some (.cells d e (0,0)):=k;rw[f] at a;simp at a;exact l a.2) f
theorem Mu {n m c j h i:Nat} {a:Option Addr} {xs news:List Value} (hs:ev σ s=.slice a n j) (b:w.ownsRow n0 CF 1 (.slice a n j) n xs) (r:ev σ x=.slice (some ⟨h,i,none⟩) m c) (q:news.length=m) (d:BA w h i news) (t:∀u∈news,u.oneCell'=true) (A:n+m<=1000000) (e:n0<=w.heap.size) (o:∀y,n0<=y->M y) :
 CP M prog N ⟨dst,.call ⟨.builtin .append,#[s,x],#[22,22]⟩,ty,pos,af,g⟩ (λv l=>J3 n0 (n+m) (xs++news) v l∧PB CF w l) σ w:=by
 obtain ⟨v',w',p,f,k,_⟩:=Mn (dst:=dst) (ty:=ty) (pos:=pos) (af:=af) (g:=g) b q d t A e hs r;refine AR p (k.mono λy _ z=>o y (b.lt y z).1) ⟨?_,UE (T:=CF) b k⟩;obtain ⟨a,c,rfl⟩:=BD f;exact ⟨a,c,O,f⟩
end
theorem I' {T:TypeId} {e size n base b:Nat} {v:Value} {xs:List Value} {w:World} {c:Array Value} (h:w.ownsRow base e size v n xs) (j:Az w b c T) (l:T≠e):v.ownBlock≠some b:=λi=>by
 rcases h.2 with ⟨rfl,_⟩|⟨g,cap,d,rfl,_,k,_⟩
 .cases i
 .have f:g=b:=Option.some.inj i;subst f;unfold Az at j;have a:w.heap[g]?=some (.cells d e (0,0)):=k;rw[j] at a;simp at a;exact l a.2
def Un (vo:Value) (vs:List Value) (b:Nat):Prop:=vo.ownBlock=some b∨∃(i:Nat) (v:Value),vs[i]?=some v∧v.ownBlock=some b
theorem LSt.chg2 {M:Nat->Prop} {To e sz base:Nat} {w w':World} {d:Value} {vs:List Value} {ns:List (Nat×List Value)} (h:LSt To e sz w base d vs ns) (c:Chg M w w') (g:∀b,Un d vs b->¬M b):LSt To e sz w' base d vs ns:=
 ⟨Av h.o c λk a=>g k (.inl a),h.len,λi v l f j=>Av (h.inn i v l f j) c λk a=>g k (.inr ⟨i,v,f,a⟩),h.apo⟩
theorem LSt.ltB {To e sz base:Nat} {w:World} {d:Value} {vs:List Value} {ns:List (Nat×List Value)} (h:LSt To e sz w base d vs ns) {b:Nat} (a:Un d vs b):base<=b∧b<w.heap.size:=by
 rcases a with a|⟨i,v,c,a⟩
 .exact h.o.lt b a
 .obtain ⟨p,f⟩:=AK (l:=ns) (i:=i) (by have:=AG c;have:=h.len;omega);exact (h.inn i v p c f).lt b a
theorem LSt.low {To e sz base a:Nat} {w:World} {c:Value} {vs:List Value} {ns:List (Nat×List Value)} (h:LSt To e sz w base c vs ns) (b:a<=base):LSt To e sz w a c vs ns:=
 ⟨Dc h.o b,h.len,λi v p d f=>Dc (h.inn i v p d f) b,h.apo⟩
theorem OutSt.of {w:World} {n0 n1:Nat} {E N:Value} {vs:List Value} {acc:List Int} {rows:List (List Int)} (k:w.ownsRow n0 CF 1 E acc.length (acc.map (Value.int .i64))) (a:LSt CX CF 1 w n1 N vs (rows.map D9)) (g:∀b,E.ownBlock=some b->b<n1) (d:n0<=n1):OutSt w n0 E N vs acc rows where
 e:=k
 n:=a.low d
 en:=λb c j=>by have:=g b c;have:=(a.o.lt b j).1;omega
 ei:=λi v b f c m=>by
  have:=g b m;obtain ⟨p,h⟩:=AK (l:=rows.map D9) (i:=i) (by have:=AG f;have:=a.len;omega);have:=((a.inn i v p f h).lt b c).1;omega
end Go.Proofs
namespace Go.Proofs
open Go Go.Eng Go.Sort
set_option maxRecDepth 100000
theorem Q2 {n c s:Nat} {d:Dfa} (h:OkD n c d) {row:List Int} (a:d.next[s]?=some row):(Cz n c d).next[s]?=some (row.map (nt n)):=by
 simp only[Cz];rw[List.getElem?_append_left (by have:=AG a;simp;omega),List.getElem?_map,a];rfl
theorem Pb {n c:Nat} {d:Dfa} (h:OkD n c d):(Cz n c d).next[n]?=some (List.replicate c (n:Int)):=by
 simp[Cz,h.nl]
def Pl (n0:Nat) (z:Int) (m:Nat) (xs:List Value):EK:=λv w=>∃a c,v=.agg #[.int .i64 z,.slice a m c,.slice none 0 0]∧w.ownsRow n0 CF 1 (.slice a m c) m xs
theorem Sz (n0:Nat) (z:Int) (m:Nat) (xs:List Value):∀v w w',Al w w'->Pl n0 z m xs v w->Pl n0 z m xs v w':=by
 rintro v w w' e ⟨a,c,b,d⟩;exact ⟨a,c,b,Am d e⟩
theorem OP (w0:World) (n c:Nat) (d:Dfa) (dv:List Value) (ok:OkD n c d) (h:BC w0 d dv) (hn:1≤n∧n≤1000) (hc:1≤c∧c≤16) :
  CB prog 77 #[.agg dv.toArray] w0 fun r w=>(∃ea ec na nc vs,r=.agg #[.int .i64 d.start,.slice ea (n+1) ec,.slice na (n+1) nc]∧OutSt w w0.heap.size (.slice ea (n+1) ec) (.slice na (n+1) nc) vs (d.accept++[-1]) (Cz n c d).next)∧Al w0 w:=by
 obtain ⟨aa,ac,na,nc,rfl,be,bc⟩:=h;have b7:=ok.nl;have bh:=ok.al;rw[bh,b7];rw[bh] at be;rw[b7] at bc;obtain ⟨nb,no,rfl,c1⟩:=BL (n:=n) bc qO;obtain ⟨ab,ao,rfl,ct⟩:=Ao (n:=n) be qO;have ax:∀(s:Nat),s<n→∃row ra rc,d.next[s]?=some row∧row.length=c∧w0.cell? ⟨nb,no+s,none⟩=some (.slice ra c rc)∧A2 w0 (.slice ra c rc) row:=fun s hs=>by
  obtain ⟨row,ar⟩:=AK (l:=d.next) (i:=s) qO;have bq:=(ok.row row (List.mem_of_getElem? ar)).1;obtain ⟨ra,rc,h1,h2⟩:=c1 s row ar;rw[bq] at h1 h2;exact ⟨row,ra,rc,ar,bq,h1,h2⟩
 obtain ⟨cx,ra0,rc0,b8,cp,a3,c3⟩:=ax 0 qO;have av:BA w0 ab ao (d.accept.map (Value.int .i64)):=fun i u hu=>by
  rw[List.getElem?_map,Option.map_eq_some_iff] at hu;obtain ⟨x,hx,rfl⟩:=hu;exact ct i x hx
 have b5:(Cz n c d).next.length=n+1:=(HO ok).nl;refine qR func77 rfl ntmps77 rfl (fun E=>(Y (BP (v:=(.agg #[(I6 d.start),(.slice (some ⟨ab,ao,none⟩) n ac),(.slice (some ⟨nb,no,none⟩) n nc)])) (c:=#[(I6 d.start),(.slice (some ⟨ab,ao,none⟩) n ac),(.slice (some ⟨nb,no,none⟩) n nc)]) qD rfl rfl ?_)));intro bd wd Nd;have Fd:=Nd.ge E;replace E:=E.ext Nd.ext;have Bd:=Nd.blk;refine By (c:=#[(I6 0),(.slice none 0 0),(.slice none 0 0)]) qD Ce rfl ?_;intro br wr Nr;have Fr:=Nr.ge E;have Or_bd:=Nr.lt Bd;replace Bd:=Nr.keep Bd;replace E:=E.ext Nr.ext;have Br:=Nr.blk;refine AA (Y (qF bd 0 2 rfl underlying48 rfl A' rfl (qV (AE rfl A4 (Bd.cell rfl)) (qV (AL underlying46 rfl) (qA _ rfl (AA ?_))))));obtain ⟨n0,bo⟩:∃n0,n0=(wr).heap.size:=⟨_,rfl⟩;have hbd:bd<n0∧br<n0∧w0.heap.size≤n0:=⟨by rw[bo];exact Bd.lt,by rw[bo];exact Br.lt,by rw[bo];exact E.size⟩;have ci:w0.heap.size≤wr.heap.size:=E.size;have bf:bd<wr.heap.size:=Bd.lt;have bg:br<wr.heap.size:=Br.lt;refine AI ?_;obtain ⟨cf,ae⟩:∃Fs:List CO,Fs=[(eF (P6 bd 0)),(eF (I6 d.start)),(fun S _ v w=>S 7=false→(Ko n0) v w),(eF (P6 bd 1)),(eF (.slice (some ⟨ab,ao,none⟩) n ac)),(fun S _ v w=>S 7=false→(J3 n0 n (d.accept.map (Value.int .i64))) v w),(fun S _ v w=>S 7=false→(IZ n0 (-1)) v w),(fun _ _=>J3 n0 (n+1) (d.accept.map (Value.int .i64)++[.int .i64 (-1)])),(fun _ _=>Pl n0 d.start (n+1) (d.accept.map (Value.int .i64)++[.int .i64 (-1)])),(fun _ _=>R_ 48 #[(I6 0),(.slice none 0 0),(.slice none 0 0)] wr.heap.size),(eF undef)]:=⟨_,rfl⟩;refine O7 (Ld [(7,(fun y=>n0≤y))]) (VP [(7,PB CF)]) ([]) ((fun _=>False)) [true,true,true,true,true,true,true,true,true,true,false] [10] [12,13,14,15,16,17,18,19,20,4,79] [[],[0],[],[],[3],[2,4],[],[5,6],[1,7],[],[]] [[],[0],[],[],[3],[2,4,3],[],[5,2,4,3,6],[1,0,7,5,2,4,3,6],[],[]] cf ae qK mixed qK qK qK qK ?_ ((fun _ _ _ _ _ h=>h.elim)) ?_
 ·intro wd X0;refine DagStepsG.cons (Du.eq) (A_.const) (fun S s' w' hi hN X U V H=>Or.inl ⟨AQ rfl,?_⟩) ?_
  ·replace X:=Uw X;exact S0 qD (AH (AT (b:=bd) (o:=0) (o':=0) (U 1 rfl) underlying48 rfl Ad rfl) rfl)
  refine DagStepsG.cons (Du.eq) (A_.const) (fun S s' w' hi hN X U V H=>Or.inl ⟨AQ rfl,?_⟩) ?_
  ·replace X:=Uw X;have cg:=(H 0 rfl).2 12 _ rfl (by rw[ae];rfl);exact S0 qD (AH (AE (v:=(.int .i64 d.start)) cg Ai ((Chg.keep X kH (X0.keep Bd)).cell rfl)) rfl)
  refine DagStepsG.cons (Du.till (U:=Ab) (Pr _) (fun p y hp hw a4 hq h=>by
     rcases C8 h with ⟨rfl,h0⟩|h0
     ·exact absurd rfl a4
     exact h0.elim)) (A_.const) (fun S s' w' hi hN X U V H=>Or.inl ⟨AQ rfl,?_⟩) ?_
  ·replace X:=K3 (hN 7 rfl) X;exact S0 qD (E_ (QD (n0:=n0) (by have:=X0.size;have:=X.size;omega)) (fun v w h _=>h))
  refine DagStepsG.cons (Du.eq) (A_.const) (fun S s' w' hi hN X U V H=>Or.inl ⟨AQ rfl,?_⟩) ?_
  ·replace X:=K3 (hN 7 rfl) X;exact S0 qD (AH (AT (b:=bd) (o:=0) (o':=1) (U 1 rfl) underlying48 rfl Ay rfl) rfl)
  refine DagStepsG.cons (Du.eq) (A_.const) (fun S s' w' hi hN X U V H=>Or.inl ⟨AQ rfl,?_⟩) ?_
  ·replace X:=K3 (hN 7 rfl) X;have ck:=(H 3 rfl).2 15 _ rfl (by rw[ae];rfl);exact S0 qD (AH (AE (v:=(.slice (some ⟨ab,ao,none⟩) n ac)) ck Ax (((X0.trans X).keep Bd).cell rfl)) rfl)
  refine DagStepsG.cons (Du.till (U:=Ab) (MC _ _ _) (fun p y hp hw a4 hq h=>by
     rcases C8 h with ⟨rfl,h0⟩|h0
     ·exact absurd rfl a4
     exact h0.elim)) (A_.const) (fun S s' w' hi hN X U V H=>Or.inl ⟨AQ rfl,?_⟩) ?_
  ·replace X:=K3 (hN 7 rfl) X;obtain ⟨b14,cd,cc,ce⟩:=(show (Ko n0) (s' 14) w' from ((H 2 rfl).2 14 (fun S _ v w=>S 7=false→(Ko n0) v w) rfl (by rw[ae];rfl)) (hN 7 rfl));have co:=(H 4 rfl).2 16 _ rfl (by rw[ae];rfl);exact S0 qD (E_ (Lj cd cc ce co (by simp[bh]) qO (av.ext (Al.trans E (X0.trans X))) qS qO (by have:=X0.size;have:=X.size;omega)) (fun v w h _=>h))
  refine DagStepsG.cons (Du.till (U:=Ab) (JG _ _) (fun p y hp hw a4 hq h=>by
     rcases C8 h with ⟨rfl,h0⟩|h0
     ·exact absurd rfl a4
     exact h0.elim)) (A_.const) (fun S s' w' hi hN X U V H=>Or.inl ⟨AQ rfl,?_⟩) ?_
  ·replace X:=K3 (hN 7 rfl) X;exact S0 qD (E_ (IF (n0:=n0) rfl (by have:=X0.size;have:=X.size;omega)) (fun v w h _=>h))
  refine DagStepsG.cons (Du.chg (U:=Ab) (MC _ _ _) (fun p y hp hw h=>by
     rcases C8 h with ⟨rfl,h0⟩|h0
     ·exact absurd rfl hp
     exact h0.elim)) (A_.const) (fun S s' w' hi hN X U V H=>Or.inl ⟨AQ rfl,?_⟩) ?_
  ·replace X:=K3 hi X;obtain ⟨a17,c17,bz,ch⟩:=(show (J3 n0 n (d.accept.map (Value.int .i64))) (s' 17) w' from ((H 5 rfl).2 17 (fun S _ v w=>S 7=false→(J3 n0 n (d.accept.map (Value.int .i64))) v w) rfl (by rw[ae];rfl)) hi);obtain ⟨b18,c2,g18,cu⟩:=(show (IZ n0 (-1)) (s' 18) w' from ((H 6 rfl).2 18 (fun S _ v w=>S 7=false→(IZ n0 (-1)) v w) rfl (by rw[ae];rfl)) hi);exact Vy (Mu bz (bz▸ch) c2 rfl (cu.cells rfl) qS qO (by have:=X0.size;have:=X.size;omega) (fun y h=>.inl ⟨rfl,h⟩))
  refine DagStepsG.cons (Du.chg (U:=Ab) (Sz _ _ _ _) (fun p y hp hw h=>by
     rcases C8 h with ⟨rfl,h0⟩|h0
     ·exact Bool.noConfusion (show true=false from hw)
     exact h0.elim)) (A_.const) (fun S s' w' hi hN X U V H=>Or.inl ⟨AQ rfl,?_⟩) ?_
  ·replace X:=Uw X;have cs:=(H 1 rfl).2 13 _ rfl (by rw[ae];rfl);obtain ⟨bu,bk,b1,c0⟩:=(show ((fun _ _=>J3 n0 (n+1) (d.accept.map (Value.int .i64)++[.int .i64 (-1)])):CO) S s' (s' 19) w' from (H 7 rfl).2 19 (fun _ _=>J3 n0 (n+1) (d.accept.map (Value.int .i64)++[.int .i64 (-1)])) rfl (by rw[ae];rfl));exact S0 qD (AH (B' (ps:=[(0,.int .i64 d.start),(1,.slice bu (n+1) bk)]) (v:=.agg #[.int .i64 d.start,.slice bu (n+1) bk,.slice none 0 0]) (Vn cs b1) qK) ⟨bu,bk,rfl,b1▸c0⟩)
  refine DagStepsG.cons (Du.rel1 (U:=Ab) (Uk qD) (fun v w w' x h=>O3 _ _ _ v w w' x h) (fun p y hp a4 hw h=>by
     rcases C8 h with ⟨rfl,h0⟩|h0
     ·exact absurd rfl a4
     exact h0.elim)) (A_.const) (fun S s' w' hi hN X U V H=>Or.inl ⟨AQ rfl,?_⟩) ?_
  ·replace X:=Uw X;exact S0 qD (IT (c:=#[(.int .i64 0),(.slice none 0 0),(.slice none 0 0)]) Ce rfl (by have:=X0.size;have:=X.size;omega))
  refine DagStepsG.tail ?_;exact DagStepsG.nil
 ·intro s' wd1 w1 X0 X1 U H;replace X1:=X1.mono (M':=(fun y=>(fun y=>n0≤y) y)) (fun y _ h=>by
    obtain ⟨j,hj,h⟩:=h;rcases C8 h with ⟨rfl,h0⟩|h0
    ·exact h0
    exact h0.elim)
  obtain ⟨ai,ak,ca,cw⟩:=(show ((fun _ _=>Pl n0 d.start (n+1) (d.accept.map (Value.int .i64)++[.int .i64 (-1)])):CO) (Lb [true,true,true,true,true,true,true,true,true,true,false]) s' (s' 20) w1 from H 8 rfl 20 (fun _ _=>Pl n0 d.start (n+1) (d.accept.map (Value.int .i64)++[.int .i64 (-1)])) rfl (by rw[ae];rfl));obtain ⟨b4,e4,B4,g4⟩:=(show ((fun _ _=>R_ 48 #[(.int .i64 0),(.slice none 0 0),(.slice none 0 0)] wr.heap.size):CO) (Lb [true,true,true,true,true,true,true,true,true,true,false]) s' (s' 4) w1 from H 9 rfl 4 (fun _ _=>R_ 48 #[(.int .i64 0),(.slice none 0 0),(.slice none 0 0)] wr.heap.size) rfl (by rw[ae];rfl));obtain ⟨j1,rfl⟩:=Ac.out (σ:=s') (l:=[(1,(.pointer (some ⟨bd,0,none⟩))),(2,(.pointer (some ⟨br,0,none⟩))),(3,(.int .i64 ((n:Nat):Int))),(20,(.agg #[(.int .i64 d.start),(.slice ai (n+1) ak),(.slice none 0 0)])),(4,(.pointer (some ⟨b4,0,none⟩)))]) ⟨U 1 rfl,U 2 rfl,U 3 rfl,ca,e4,trivial⟩;clear U H;replace Bd:=Chg.keep X1 kH (X0.keep Bd);replace Br:=Chg.keep X1 kH (X0.keep Br);have cq:=Nat.le_trans X0.size X1.size;replace E:=(E.ext X0).step X1 (fun y hy h=>by first|omega|(dsimp only at h;omega));have an:(w1).ownsRow n0 CF 1 (.slice ai (n+1) ak) (n+1) ((d.accept++[-1]).map (Value.int .i64)):=by rw[List.map_append];exact cw
  refine A8 (b:=b4) (o:=0) (c':=#[(I6 d.start),(.slice ai (n+1) ak),(.slice none 0 0)]) rfl rfl qS Aw rfl B4 qL rfl ?_;intro w2 S2;replace an:=Av an S2.chg fun b hb h=>by have h':b=b4:=h;rw[h'] at hb;exact I' an B4 qD hb
  replace Bd:=S2.keep qO Bd;replace Br:=S2.keep qO Br;replace E:=S2.step E qQ;replace B4:=S2.blk;refine AA (AB (AI (Y (qA _ rfl (AA (AO ?_))))));obtain ⟨n1,bi⟩:∃n1,n1=(w2).heap.size:=⟨_,rfl⟩;have l1:bd<n1∧br<n1∧b4<n1:=⟨by rw[bi];exact Bd.lt,by rw[bi];exact Br.lt,by rw[bi];exact B4.lt⟩;have a5:∀b,(Value.slice ai (n+1) ak).ownBlock=some b→n0≤b∧b<n1∧b≠b4:=fun b hb=>⟨(an.lt b hb).1,by rw[bi];exact (an.lt b hb).2,fun h=>by rw[h] at hb;exact I' an B4 qD hb⟩;refine Ap (fun nn_ σ W3=>∃(s:Nat) (vs:List Value) (aq:Option Addr) (ap:Nat),(∃jj_,σ=BK jj_ [(1,(P6 bd 0)),(2,(P6 br 0)),(3,(I6 (n:Int))),(4,(P6 b4 0)),(5,(I6 (s:Int)))])∧Chg Ab w0 W3∧Az W3 bd #[(I6 d.start),(.slice (some ⟨ab,ao,none⟩) n ac),(.slice (some ⟨nb,no,none⟩) n nc)] 48∧Az W3 br #[(I6 0),(.slice none 0 0),(.slice none 0 0)] 48∧Az W3 b4 (#[Value.int .i64 d.start,.slice ai (n+1) ak,.slice aq s ap]) 48∧(s≤n+1)∧(W3.ownsRow n0 CF 1 (.slice ai (n+1) ak) (n+1) ((d.accept++[-1]).map (Value.int .i64)))∧(LSt CX CF 1 W3 n1 (.slice aq s ap) vs (((Cz n c d).next.take s).map D9))∧(n1≤W3.heap.size)∧nn_=n+1 - s) (n:=n+1 - 0) ?_ ?_
  ·exact ⟨0,[],none,0,Ac.out ⟨rfl,rfl,rfl,rfl,rfl,trivial⟩,E,Bd,Br,B4,Nat.zero_le _,an,LSt.start _ _ _ _ _,qO,rfl⟩
  ·clear E Bd Br B4;rintro _ _ W3 ⟨s,vs,aq,ap,⟨j3,rfl⟩,E,Bd,Br,B4,hs,hE,hL,am,rfl⟩;refine AI (Y (qM _ rfl (qM _ rfl (qV (G0 rfl rfl) (AA (qC rfl (fun cj=>?_) (fun cj=>?_)))))))
   ·obtain ⟨ag,ah⟩:=AK (l:=(Cz n c d).next) (i:=s) qO;have bn:=((HO ok).row ag (List.mem_of_getElem? ah)).1;refine AM (AB (AI (AO (Y (qA _ rfl (AA (AI (Y (qF bd 0 2 rfl underlying48 rfl A' rfl (qV (AE rfl A4 (Bd.cell rfl)) (qV (AC (b:=nb) (o:=no) (len:=n) (cap:=nc) (i:=0) (o':=no+0) rfl rfl rfl underlying46 Ay qO qO) (qV (AE rfl Ax (E.cell (fun f=>f) (by rw[Nat.add_zero] at *;exact a3))) ?_))))))))))));obtain ⟨z0,cn⟩:∃z0,z0=(W3).heap.size:=⟨_,rfl⟩;have bm:∀b,Un (.slice aq s ap) vs b→b<z0:=fun b hb=>by rw[cn];exact (hL.ltB hb).2
    refine qV (AL underlying22 rfl) (qM _ rfl (AA (AO (Ap (fun nn_ σ W5=>∃(x:Nat) (ra:Option Addr) (rc:Nat),(∃jj_,σ=BK jj_ [(1,(P6 bd 0)),(2,(P6 br 0)),(3,(I6 (n:Int))),(4,(P6 b4 0)),(5,(I6 (s:Int))),(30,(I6 (c:Int))),(31,(I6 (x:Int))),(6,(.slice ra x rc))])∧Chg Ab w0 W5∧Az W5 bd #[(I6 d.start),(.slice (some ⟨ab,ao,none⟩) n ac),(.slice (some ⟨nb,no,none⟩) n nc)] 48∧Az W5 br #[(I6 0),(.slice none 0 0),(.slice none 0 0)] 48∧Az W5 b4 (#[Value.int .i64 d.start,.slice ai (n+1) ak,.slice aq s ap]) 48∧(x≤c)∧(W5.ownsRow z0 CF 1 (.slice ra x rc) x ((ag.take x).map (Value.int .i64)))∧(W5.ownsRow n0 CF 1 (.slice ai (n+1) ak) (n+1) ((d.accept++[-1]).map (Value.int .i64)))∧(LSt CX CF 1 W5 n1 (.slice aq s ap) vs (((Cz n c d).next.take s).map D9))∧(z0≤W5.heap.size)∧nn_=c - x) (n:=c - 0) ?_ ?_))))
    ·exact ⟨0,none,0,Ac.out ⟨rfl,rfl,rfl,rfl,rfl,rfl,rfl,rfl,trivial⟩,E,Bd,Br,B4,Nat.zero_le _,World.ownsRow_nil _ _ _ _,hE,hL,qO,rfl⟩
    ·clear E Bd Br B4;rintro _ _ W5 ⟨x,ra,rc,⟨j5,rfl⟩,E,Bd,Br,B4,hx,ad,hE,hL,am,rfl⟩;refine Y (qV (A0 rfl rfl) (AA (AI (qC rfl (fun bs=>?_) (fun bs=>?_)))))
     ·obtain ⟨y,hy⟩:=AK (l:=ag) (i:=x) qO;refine AM (AB (AI (AO (Y (qM _ rfl (qA _ rfl (AA (Y (qM _ rfl (qA _ rfl (AA (AI (Y (qM _ rfl (qM _ rfl (qV (A0 rfl rfl) (qM _ rfl ?_)))))))))))))))));rcases Bool.eq_false_or_eq_true (decide ((((s:Nat):Int):Int)<((n:Nat):Int))) with af|af
      ·have au:=af;replace au:=of_decide_eq_true au;obtain ⟨row,ra1,b2,ar,bq,aw,cb⟩:=ax s qO;obtain ⟨t,ht⟩:=AK (l:=row) (i:=x) qO;obtain ⟨rb,ro,rfl,b3⟩:=Ao (n:=c) cb qO;have b6:y=nt n t:=by have h9:=Q2 ok ar;rw[ah] at h9;cases h9;rw[List.getElem?_map,ht] at hy;exact (Option.some.inj hy).symm
       refine AD rfl rfl qD (BH af) (qF bd 0 2 rfl underlying48 rfl A' rfl (AD rfl rfl qD (BH af) (qV (AE rfl A4 (Bd.cell rfl)) (AD rfl rfl qD (BH af) (qM _ rfl (AD rfl rfl qD (BH af) (qV (AC (b:=nb) (o:=no) (len:=n) (cap:=nc) (i:=s) (o':=no+s) rfl rfl rfl underlying46 Ay qO qO) (AD rfl rfl qD (BH af) (qV (AE rfl Ax (E.cell (fun f=>f) aw)) (AD rfl rfl qD (BH af) (qM _ rfl (AD rfl rfl qD (BH af) (qV (AC (b:=rb) (o:=ro) (len:=c) (cap:=b2) (i:=x) (o':=ro+x) rfl rfl rfl underlying22 Ad qO qO) (AD rfl rfl qD (BH af) ?_))))))))))))));refine qV (AE rfl Ai (E.cell (fun f=>f) (b3 x t ht))) (AD rfl rfl qD (BH af) (qV (CT rfl rfl) (qV (Ag (v:=(.bool (decide ((0:Int)≤t)))) rfl (by rw[af];rfl)) (AA (O8 (fun σ W8=>∃(y1:Int),(∃jj_,σ=BK jj_ [(1,(P6 bd 0)),(2,(P6 br 0)),(3,(I6 (n:Int))),(4,(P6 b4 0)),(5,(I6 (s:Int))),(6,(.slice ra x rc)),(30,(I6 (c:Int))),(31,(I6 (x:Int))),(8,(I6 y1))])∧Chg Ab w0 W8∧Az W8 bd #[(I6 d.start),(.slice (some ⟨ab,ao,none⟩) n ac),(.slice (some ⟨nb,no,none⟩) n nc)] 48∧Az W8 br #[(I6 0),(.slice none 0 0),(.slice none 0 0)] 48∧Az W8 b4 (#[Value.int .i64 d.start,.slice ai (n+1) ak,.slice aq s ap]) 48∧(y1=y)∧(W8.ownsRow z0 CF 1 (.slice ra x rc) x ((ag.take x).map (Value.int .i64)))∧(W8.ownsRow n0 CF 1 (.slice ai (n+1) ak) (n+1) ((d.accept++[-1]).map (Value.int .i64)))∧(LSt CX CF 1 W8 n1 (.slice aq s ap) vs (((Cz n c d).next.take s).map D9))∧(z0≤W8.heap.size)) ?_ ?_)))))
       ·skip
        refine qC rfl (fun cr=>?_) (fun cr=>?_)
        ·refine AJ (qF bd 0 2 rfl underlying48 rfl A' rfl (qV (AE rfl A4 (Bd.cell rfl)) (qM _ rfl (qV (AC (b:=nb) (o:=no) (len:=n) (cap:=nc) (i:=s) (o':=no+s) rfl rfl rfl underlying46 Ay qO qO) (qV (AE rfl Ax (E.cell (fun f=>f) aw)) (qM _ rfl (qV (AC (b:=rb) (o:=ro) (len:=c) (cap:=b2) (i:=x) (o':=ro+x) rfl rfl rfl underlying22 Ad qO qO) (qV (AE rfl Ai (E.cell (fun f=>f) (b3 x t ht))) (qA _ rfl (AA (AB ?_)))))))))));exact ⟨t,Ac.out ⟨rfl,rfl,rfl,rfl,rfl,rfl,rfl,rfl,rfl,trivial⟩,E,Bd,Br,B4,(by rw[b6];unfold nt;rw[if_neg qO]),ad,hE,hL,am⟩
        ·refine AM (AB ?_);exact ⟨((n:Nat):Int),Ac.out ⟨rfl,rfl,rfl,rfl,rfl,rfl,rfl,rfl,rfl,trivial⟩,E,Bd,Br,B4,(by rw[b6];unfold nt;rw[if_pos qO]),ad,hE,hL,am⟩
       ·clear E Bd Br B4;rintro _ W8 ⟨y1,⟨j8,rfl⟩,E,Bd,Br,B4,cz,ad,hE,hL,am⟩;subst cz;refine AJ (qM _ rfl (qM _ rfl (Ah (ps:=[(0,(I6 y1))]) (c:=#[(I6 y1)]) qD rfl underlying22 Ad BY qD qD qK ?_)));intro bp wp Np;have Fp:=Np.ge E;have Op_bd:=Np.lt Bd;have Op_br:=Np.lt Br;have Op_b4:=Np.lt B4;replace Bd:=Np.keep Bd;replace Br:=Np.keep Br;replace B4:=Np.keep B4;replace ad:=Am ad Np.ext;replace hE:=Am hE Np.ext;replace hL:=hL.ext Np.ext;replace am:=Nat.le_trans am Np.ext.size;replace E:=E.ext Np.ext;have Bp:=Np.blk;refine BU (base:=z0) (n:=x) (m:=1) (xs:=(ag.take x).map (Value.int .i64)) (news:=[(I6 y1)]) (size:=1) (bytes:=8) (v:=(.slice ra x rc)) qD underlying22 Ad Dj BY rfl qD rfl ad rfl (rfl) (Bp.cells rfl) qS (by unfold maxLen;omega) qO (am) ?_;intro v9 cm ba aj cl;replace Bd:=aj.keep (fun h=>by have:=(ad.lt _ h).1;omega) Bd;replace Br:=aj.keep (fun h=>by have:=(ad.lt _ h).1;omega) Br;replace B4:=aj.keep (fun h=>(by have:=(ad.lt _ h).1;omega)) B4;replace E:=E.step aj (fun x hx h=>absurd (ad.lt x h).1 qO);obtain ⟨bv,bw,rfl⟩:=BD ba;have a1:=Av hE aj (fun b hb h=>by have:=(ad.lt b h).1;have:=(a5 b hb).2;omega);have ay:=hL.chg2 aj (fun b hb h=>by have:=(ad.lt b h).1;have:=bm b hb;omega);refine qA _ rfl (AA (AN (AB (AJ (qV (Ar rfl rfl (A5 qO)) (qM _ rfl (AA (AB ?_))))))));exact ⟨c - (x+1),qO,x+1,bv,bw,Ac.out ⟨rfl,rfl,rfl,rfl,rfl,rfl,rfl,rfl,trivial⟩,E,Bd,Br,B4,qO,(by rw[List.take_add_one,hy,List.map_append];skip;exact ba),a1,ay,Nat.le_trans am aj.size,rfl⟩
      ·have au:=af;replace au:=of_decide_eq_false au;have cv:y=((n:Nat):Int):=by have h9:=Pb ok;rw[show s=n by omega,h9] at ah;cases ah;rw[List.getElem?_replicate,if_pos qO] at hy;exact (Option.some.inj hy).symm
       refine AF rfl rfl qD (v:=.bool false) (BH af) (Or.inl rfl) (AF rfl rfl qD (v:=.bool false) (BH af) (Or.inl rfl) (AF rfl rfl qD (v:=.bool false) (BH af) (Or.inl rfl) (AF rfl rfl qD (v:=.bool false) (BH af) (Or.inl rfl) (AF rfl rfl qD (v:=.bool false) (BH af) (Or.inl rfl) (AF rfl rfl qD (v:=.bool false) (BH af) (Or.inl rfl) (AF rfl rfl qD (v:=.bool false) (BH af) (Or.inl rfl) (AF rfl rfl qD (v:=.bool false) (BH af) (Or.inl rfl) (AF rfl rfl qD (v:=.bool false) (BH af) (Or.inl rfl) (qV (Ag (v:=(.bool false)) rfl (by rw[af];rfl)) (AA (AW rfl (AM (AB (AJ (qM _ rfl (qM _ rfl ?_))))))))))))))));refine Ah (ps:=[(0,(I6 (n:Int)))]) (c:=#[(I6 (n:Int))]) qD rfl underlying22 Ad BY qD qD qK ?_;intro bp wp Np;have Fp:=Np.ge E;have Op_bd:=Np.lt Bd;have Op_br:=Np.lt Br;have Op_b4:=Np.lt B4;replace Bd:=Np.keep Bd;replace Br:=Np.keep Br;replace B4:=Np.keep B4;replace ad:=Am ad Np.ext;replace hE:=Am hE Np.ext;replace hL:=hL.ext Np.ext;replace am:=Nat.le_trans am Np.ext.size;replace E:=E.ext Np.ext;have Bp:=Np.blk;refine BU (base:=z0) (n:=x) (m:=1) (xs:=(ag.take x).map (Value.int .i64)) (news:=[(I6 (n:Int))]) (size:=1) (bytes:=8) (v:=(.slice ra x rc)) qD underlying22 Ad Dj BY rfl qD rfl ad rfl (rfl) (Bp.cells rfl) qS (by unfold maxLen;omega) qO (am) ?_;intro v9 cm ba aj cl;replace Bd:=aj.keep (fun h=>by have:=(ad.lt _ h).1;omega) Bd;replace Br:=aj.keep (fun h=>by have:=(ad.lt _ h).1;omega) Br;replace B4:=aj.keep (fun h=>(by have:=(ad.lt _ h).1;omega)) B4;replace E:=E.step aj (fun x hx h=>absurd (ad.lt x h).1 qO);obtain ⟨bv,bw,rfl⟩:=BD ba;have a1:=Av hE aj (fun b hb h=>by have:=(ad.lt b h).1;have:=(a5 b hb).2;omega);have ay:=hL.chg2 aj (fun b hb h=>by have:=(ad.lt b h).1;have:=bm b hb;omega);refine qA _ rfl (AA (AN (AB (AJ (qV (Ar rfl rfl (A5 qO)) (qM _ rfl (AA (AB ?_))))))));exact ⟨c - (x+1),qO,x+1,bv,bw,Ac.out ⟨rfl,rfl,rfl,rfl,rfl,rfl,rfl,rfl,trivial⟩,E,Bd,Br,B4,qO,(by rw[List.take_add_one,hy,List.map_append];rw[cv];exact ba),a1,ay,Nat.le_trans am aj.size,rfl⟩
     ·have cy:x=c:=qO
      rw[show ag.take x=ag from List.take_of_length_le qO] at ad;have bb:s=(((Cz n c d).next.take s).map D9).length:=by rw[List.length_map,List.length_take];omega
      have a6:=hL.on bb;have a0:∀b,(Value.slice aq s ap).ownBlock=some b→n1≤b∧b<z0:=fun b hb=>⟨(hL.ltB (.inl hb)).1,bm b (.inl hb)⟩;refine Ak (AP (AP (Ae (AB (AJ (qF b4 0 2 rfl underlying48 rfl A' rfl (qV (AE rfl A4 (B4.cell rfl)) (qM _ rfl (Ah (ps:=[(0,(.slice ra x rc))]) (c:=#[(.slice ra x rc)]) qD rfl underlying46 Ay DY qD qD qK ?_)))))))));intro bp wp Np;have Fp:=Np.ge E;have Op_bd:=Np.lt Bd;have Op_br:=Np.lt Br;have Op_b4:=Np.lt B4;replace Bd:=Np.keep Bd;replace Br:=Np.keep Br;replace B4:=Np.keep B4;replace ad:=Am ad Np.ext;replace hE:=Am hE Np.ext;replace hL:=hL.ext Np.ext;replace a6:=Am a6 Np.ext;replace am:=Nat.le_trans am Np.ext.size;replace E:=E.ext Np.ext;have Bp:=Np.blk;refine BU (base:=n1) (n:=s) (m:=1) (xs:=vs) (news:=[(.slice ra x rc)]) (size:=1) (bytes:=24) (v:=(.slice aq s ap)) qD underlying46 Ay IR DY rfl qD rfl a6 rfl (rfl) (Bp.cells rfl) qS (by unfold maxLen;omega) qO (qO) ?_;intro v8 w39 b0 a2 c4;replace Bd:=a2.keep (fun h=>by have:=(a6.lt _ h).1;omega) Bd;replace Br:=a2.keep (fun h=>by have:=(a6.lt _ h).1;omega) Br;replace B4:=a2.keep (fun h=>(by have:=(a0 _ h).1;omega)) B4;replace E:=E.step a2 (fun x hx h=>absurd (a6.lt x h).1 qO);obtain ⟨bx,bt,rfl⟩:=BD b0;have a1:=Av hE a2 (fun b hb h=>by have:=(a0 b h).1;have:=(a5 b hb).2;omega);have hLw:=hL;have ay:=hL.push bb ad qO (fun k hk=>(a0 k hk).2) b0 a2 c4;have a9:=Nat.le_trans am a2.size;have b9:((Cz n c d).next.take (s+1)).map D9=((Cz n c d).next.take s).map D9++[(x,ag.map (Value.int .i64))]:=by rw[List.take_add_one,ah,List.map_append];simp[D9,bn,cy]
      refine qF b4 0 2 rfl underlying48 rfl A' rfl (A9 (b:=b4) (o:=2) (c':=#[(I6 d.start),(.slice ai (n+1) ak),(.slice bx (s+1) bt)]) (v:=(.slice bx (s+1) bt)) rfl rfl rfl A' B4 qP rfl ?_);intro w10 az;replace a1:=Av a1 az.chg fun b hb h=>by have h':b=b4:=h;exact (a5 b hb).2.2 h'
      replace ay:=ay.chg2 az.chg fun b hb h=>by have h':b=b4:=h;have:=(ay.ltB hb).1;omega
      replace a9:=Nat.le_trans a9 az.chg.size;replace Bd:=az.keep qO Bd;replace Br:=az.keep qO Br;replace E:=az.step E qQ;replace B4:=az.blk;refine AA (AN (AB (AJ (qM _ rfl (qV (Ar rfl rfl (A5 qO)) (qA _ rfl (AA (AB ?_))))))));exact ⟨n+1 - (s+1),qO,s+1,vs++[.slice ra x rc],bx,bt,Ac.out ⟨rfl,rfl,rfl,rfl,rfl,trivial⟩,E,Bd,Br,B4,qO,a1,(by rw[b9];exact ay),qO,rfl⟩
   ·have a8:s=n+1:=qO
    rw[a8] at hL;rw[show (Cz n c d).next.take (n+1)=(Cz n c d).next from List.take_of_length_le qO] at hL;have bj:(d.accept++[-1]).length=n+1:=by simp[bh]
    have hO:=OutSt.of (n0:=w0.heap.size) (acc:=d.accept++[-1]) (Dc (by rw[bj];exact hE) qO) hL (fun b hb=>(a5 b hb).2.1) qO;refine Ak (AP (AP (Ae (AB (Y (qV (Aa (vs:=[(I6 d.start),(.slice ai (n+1) ak),(.slice aq s ap)]) rfl BB Aw rfl (B4.cells rfl)) (A8 (b:=br) (o:=0) (c':=#[(I6 d.start),(.slice ai (n+1) ak),(.slice aq s ap)]) rfl rfl qS Aw rfl Br qL rfl ?_)))))));intro w11 a7;replace hO:=hO.chg a7.chg fun b hb h=>by have h':b=br:=h;rcases hb with hb|hb;have:=(a5 b hb).1;omega;have:=(hL.ltB hb).1;omega
    replace Bd:=a7.keep qO Bd;replace B4:=a7.keep qO B4;replace E:=a7.step E qQ;replace Br:=a7.blk;refine AA (AS (C5 results77 (vs:=[(.int .i64 d.start),(.slice ai (n+1) ak),(.slice aq s ap)]) (b:=br) rfl BB Aw rfl (Br.cells rfl) ?_));exact ⟨⟨ai,ak,aq,ap,vs,by rw[a8],hO⟩,E⟩
end Go.Proofs
namespace Go.Proofs
open Go Go.Eng Go.Sort
set_option maxRecDepth 100000
abbrev Vo:Nat:=87
structure BTab (w:World) (n0 ob n:Nat) (bs:List Nat) (T:List (List Bool)):Prop where
 lo:n0<=ob
 bk:Az w ob ((bs.map λb=>Value.slice (some ⟨b,0,none⟩) n n)++List.replicate (n - bs.length) (Value.slice none 0 0)).toArray Vo
 len:bs.length=T.length
 row:∀(i b:Nat) (r:List Bool),bs[i]?=some b->T[i]?=some r->n0<=b∧Az w b (r.map Value.bool).toArray TB∧r.length=n
 inj:∀i j b:Nat,bs[i]?=some b->bs[j]?=some b->i=j
theorem BTab.get {w:World} {n0 e n i:Nat} {a:List Nat} {T:List (List Bool)} (h:BTab w n0 e n a T) (hi:i<T.length):∃b r,a[i]?=some b∧T[i]?=some r∧n0<=b∧Az w b (r.map Value.bool).toArray TB∧r.length=n:=by
 obtain ⟨r,d⟩:=AK hi;obtain ⟨b,c⟩:=AK (l:=a) (i:=i) (by rw[h.len];exact hi);have:=h.row i b r c d;exact ⟨b,r,c,d,this⟩
theorem BTab.lt {w:World} {n0 d n:Nat} {f:List Nat} {T:List (List Bool)} (h:BTab w n0 d n f T):∀b∈f,n0<=b∧b<w.heap.size∧b≠d:=λb g=>by
 obtain ⟨i,hi⟩:=List.getElem?_of_mem g;obtain ⟨r,j⟩:=AK (l:=T) (i:=i) (by rw[<-h.len];exact AG hi);have:=h.row i b r hi j;refine ⟨this.1,this.2.1.lt,λe=>?_⟩;have c:=this.2.1;have a:=h.bk;rw[e] at c;unfold Az at c a;rw[c] at a;simp at a;exact absurd a.2 qD
theorem BTab.chg {M:Nat->Prop} {w w':World} {n0 a n:Nat} {d:List Nat} {T:List (List Bool)} (h:BTab w n0 a n d T) (C:Chg M w w') (c:∀b,n0<=b->b<w.heap.size->¬M b):BTab w' n0 a n d T:=
 ⟨h.lo,C.keep (c _ h.lo h.bk.lt) h.bk,h.len,λi b r e f=>by have:=h.row i b r e f;exact ⟨this.1,C.keep (c _ this.1 this.2.1.lt) this.2.1,this.2.2⟩,h.inj⟩
theorem BTab.ext {w w':World} {n0 a n:Nat} {b:List Nat} {T:List (List Bool)} (h:BTab w n0 a n b T) (C:Al w w'):BTab w' n0 a n b T:=h.chg C λ_ _ _ f=>f
theorem BTab.low {w:World} {n0 n1 c n:Nat} {e:List Nat} {T:List (List Bool)} (h:BTab w n0 c n e T) (f:n1<=n0):BTab w n1 c n e T:=⟨Nat.le_trans f h.lo,h.bk,h.len,λi b r a d=>⟨Nat.le_trans f (h.row i b r a d).1,(h.row i b r a d).2⟩,h.inj⟩
theorem BTab.cell {w:World} {n0 c n i b:Nat} {d:List Nat} {T:List (List Bool)} (h:BTab w n0 c n d T) (a:d[i]?=some b):w.cell? ⟨c,0+i,none⟩=some (.slice (some ⟨b,0,none⟩) n n):=by
 rw[Nat.zero_add];refine h.bk.cell ?_;rw[List.getElem?_toArray,List.getElem?_append_left (by rw[List.length_map];exact AG a),List.getElem?_map,a];rfl
theorem BTab.at {w:World} {n0 f n s t b:Nat} {d:List Nat} {T:List (List Bool)} (h:BTab w n0 f n d T) (a:SqF n T) (c:d[s]?=some b) (i:t<n):w.cell? ⟨b,0+t,none⟩=some (.bool (EF T s t)):=by
 have hs:s<n:=by have:=AG c;have:=h.len;have:=a.len;omega
 obtain ⟨r,e,h2,g⟩:=a.cell hs i;rw[Nat.zero_add];refine (h.row s b r c e).2.1.cell ?_;rw[List.getElem?_toArray,List.getElem?_map,g];rfl
theorem BTab.start {w:World} {n0 c n:Nat} (d:Az w c (List.replicate n (Value.slice none 0 0)).toArray Vo) (h:n0<=c):BTab w n0 c n [] []:=
 ⟨h,by simpa using d,O,λi b r a=>by simp at a,λi j b a=>by simp at a⟩
theorem BTab.push {w w':World} {n0 u n b:Nat} {a:List Nat} {T:List (List Bool)} {r:List Bool} {cs:Array Value} (h:BTab w n0 u n a T) (P:Put w w' u cs Vo) (t:cs=((a.map λb=>Value.slice (some ⟨b,0,none⟩) n n)++List.replicate (n - a.length) (Value.slice none 0 0)).toArray.setIfInBounds (0+a.length) (.slice (some ⟨b,0,none⟩) n n)) (v:Az w' b (r.map Value.bool).toArray TB) (x:r.length=n) (A:n0<=b) (f:b∉a) (hl:a.length<n):BTab w' n0 u n (a++[b]) (T++[r]):=by
 have p:=h.lt;have k:=h.len;refine ⟨h.lo,?_,by simp[k],λi m z c d=>?_,λi j m hi g=>?_⟩
 .have q:=P.blk;rw[t] at q;have e:((a.map λb=>Value.slice (some ⟨b,0,none⟩) n n)++List.replicate (n - a.length) (Value.slice none 0 0)).toArray.setIfInBounds (0+a.length) (Value.slice (some ⟨b,0,none⟩) n n)=(((a++[b]).map λb=>Value.slice (some ⟨b,0,none⟩) n n)++List.replicate (n - (a++[b]).length) (Value.slice none 0 0)).toArray:=by
   apply Array.ext';rw[Array.toList_setIfInBounds,Nat.zero_add];rw[show n - a.length=(n - (a.length+1))+1 by omega,List.replicate_succ];simp only;rw[List.set_append_right _ _ (by rw[List.length_map];exact Nat.le_refl _),List.length_map,Nat.sub_self,List.set_cons_zero];simp
  rw[e] at q;exact q
 .rcases Nat.lt_or_ge i a.length with hi|hi
  .rw[List.getElem?_append_left hi] at c;rw[List.getElem?_append_left qO] at d;have:=h.row i m z c d;exact ⟨this.1,P.keep (p m (List.mem_of_getElem? c)).2.2 this.2.1,this.2.2⟩
  .have s:=AG c;rw[List.length_append,List.length_singleton] at s;rw[show i=a.length by omega,List.getElem?_concat_length] at c;rw[show i=T.length by omega,List.getElem?_concat_length] at d;cases c;cases d;exact ⟨A,v,x⟩
 .have s:=AG hi;have y:=AG g;rw[List.length_append,List.length_singleton] at s y;rcases Nat.lt_or_ge i a.length with o|o
  .rcases Nat.lt_or_ge j a.length with l|l
   .rw[List.getElem?_append_left o] at hi;rw[List.getElem?_append_left l] at g;exact h.inj i j m hi g
   .rw[List.getElem?_append_left o] at hi;rw[show j=a.length by omega,List.getElem?_concat_length] at g;cases g;exact absurd (List.mem_of_getElem? hi) f
  .rcases Nat.lt_or_ge j a.length with l|l
   .rw[List.getElem?_append_left l] at g;rw[show i=a.length by omega,List.getElem?_concat_length] at hi;cases hi;exact absurd (List.mem_of_getElem? g) f
   .omega
theorem BTab.put {w w':World} {n0 p n b s t:Nat} {j:List Nat} {T:List (List Bool)} {r:List Bool} {v:Bool} {cs:Array Value} (h:BTab w n0 p n j T) (P:Put w w' b cs TB) (d:j[s]?=some b) (k:T[s]?=some r) (g:cs=(r.map Value.bool).toArray.setIfInBounds (0+t) (.bool v)):BTab w' n0 p n j (T.set s (r.set t v)):=by
 have f:=h.lt;have l:=h.row s b r d k;refine ⟨h.lo,P.keep (λe=>(f b (List.mem_of_getElem? d)).2.2 e.symm) h.bk,by rw[List.length_set];exact h.len,λi o q a c=>?_,h.inj⟩;by_cases hi:s=i
 .subst hi;rw[List.getElem?_set_self (AG k)] at c;rw[d] at a;cases c;cases a;have m:=P.blk;rw[g,H_] at m;exact ⟨l.1,m,by rw[List.length_set];exact l.2.2⟩
 .rw[List.getElem?_set_ne hi] at c;have:=h.row i o q a c;exact ⟨this.1,P.keep (λe=>hi (h.inj s i o (by rw[e];exact d) a)) this.2.1,this.2.2⟩
def pR (n:Nat) (d:Dfa) (s t:Nat):List Bool:=(List.range n).map λu=>decide (u<t) && decide (Co d ((s:Nat):Int)≠Co d ((u:Nat):Int))
theorem Se (n:Nat) (d:Dfa) (s:Nat):pR n d s 0=List.replicate n false:=by
 unfold pR;rw[List.eq_replicate_iff];refine ⟨qP,λb a=>?_⟩;obtain ⟨u,_,rfl⟩:=List.mem_map.1 a;simp
theorem NC (n:Nat) (d:Dfa) (s t:Nat):(pR n d s t).length=n:=by simp[pR]
theorem UD {n s t:Nat} {d:Dfa} {a b:Int} (ht:t<n) (c:Co d ((s:Nat):Int)=a) (e:Co d ((t:Nat):Int)=b):(pR n d s t).set t (decide (a≠b))=pR n d s (t+1):=by
 refine List.ext_getElem (by simp[NC]) λi h1 h2=>?_;rw[List.getElem_set];simp only[pR,List.getElem_map,List.getElem_range];by_cases h:t=i
 .subst h;rw[if_pos O,c,e];simp
 .rw[if_neg h];rw[show decide (i<t)=decide (i<t+1) from by rw[decide_eq_decide];omega]
theorem Sf {n s:Nat} {d:Dfa} (hs:s<n):(M0 n d).take s++[pR n d s n]=(M0 n d).take (s+1):=by
 rw[List.take_add_one];congr 1;unfold M0;rw[List.getElem?_map,List.getElem?_range hs];simp only[Option.map_some,Option.toList_some,List.cons.injEq,and_true];unfold pR;refine List.map_congr_left λu a=>?_;rw[decide_eq_true (List.mem_range.1 a),Bool.true_and]
theorem TK {α:Type} {l:List α} {x:α} {n:Nat} (h:l.length=n):(l++[x])[n]?=some x:=by rw[<-h,List.getElem?_concat_length]
theorem T8 {w:World} {n0 a n s:Nat} {c:List Nat} {T:List (List Bool)} {r q:List Bool} (h:T.length=s) (b:BTab w n0 a n c (T++[r].set (s - T.length) q)):BTab w n0 a n c (T++[q]):=by
 rw[h,Nat.sub_self,List.set_cons_zero] at b;exact b
def Vr (n c:Nat) (d:Dfa) (T:List (List Bool)) (s t x:Nat):Prop:=∀s' t' x':Nat,s'<n->t'<n->x'<c->(s'<s∨s'=s∧(t'<t∨t'=t∧x'<x))->Kt d T s' t' x'
structure FarI (n c:Nat) (d:Dfa) (m:Nat) (ag:Bool) (T:List (List Bool)) (s t x:Nat):Prop where
 far:FarT n c d T
 clo:ag=false->Vr n c d T s t x
 mes:Di T+ag.toNat<=m
theorem FarI.start {n c:Nat} {d:Dfa} {T:List (List Bool)} (h:FarT n c d T):FarI n c d (Di T) false T 0 0 0:=⟨h,λ_ s t x _ _ _ h=>qO,Nat.le_refl _⟩
theorem FarI.skip {n c m s t x:Nat} {d:Dfa} {ag:Bool} {T:List (List Bool)} (h:FarI n c d m ag T s t x) (hc:Kt d T s t x):FarI n c d m ag T s t (x+1):=⟨h.far,λha s' t' x' h1 h2 h3 h4=>by
 by_cases h5:s'=s∧t'=t∧x'=x
 ·obtain ⟨rfl,rfl,rfl⟩:=h5;exact hc
 ·exact h.clo ha s' t' x' h1 h2 h3 qO,h.mes⟩
theorem FarI.put {n c m s t x:Nat} {d:Dfa} {j:Bool} {T:List (List Bool)} (h:FarI n c d m j T s t x) (ok:OkD n c d) (i:IS n c d) (hs:s<n) (a:t<n) (f:x<c) (b:EF T s t=false) (g:EF T (Bu d ((s:Nat):Int) x).toNat (Bu d ((t:Nat):Int) x).toNat=true):FarI n c d m true (IX T s t) s t (x+1):=
 ⟨h.far.put ok i hs a f g,λe=>(by cases e),(by have:=NV h.far.sq hs a b;have:=h.mes;show Di (IX T s t)+1<=m;omega)⟩
theorem FarI.col {n c m s t:Nat} {d:Dfa} {a:Bool} {T:List (List Bool)} (h:FarI n c d m a T s t c):FarI n c d m a T s (t+1) 0:=⟨h.far,λg f t' e b i j h4=>h.clo g f t' e b i j qO,h.mes⟩
theorem FarI.line {n c m s:Nat} {d:Dfa} {a:Bool} {T:List (List Bool)} (h:FarI n c d m a T s n 0):FarI n c d m a T (s+1) 0 0:=⟨h.far,λi e t' b g f j h4=>h.clo i e t' b g f j qO,h.mes⟩
theorem FarI.all {n c m:Nat} {d:Dfa} {a:Bool} {T:List (List Bool)} (h:FarI n c d m a T n 0 0):a=false->∀s t x:Nat,s<n->t<n->x<c->Kt d T s t x:=λe s t x b f g=>h.clo e s t x b f g qO
theorem QJ (w0:World) (n c:Nat) (d:Dfa) (dv:List Value) (ok:OkD n c d) (fu:IS n c d) (h:BC w0 d dv) (hn:1≤n∧n≤1000) (hc:1≤c∧c≤16) :
  CB prog 127 #[.agg dv.toArray] w0 fun r w=>(∃ob bs T,r=.slice (some ⟨ob,0,none⟩) n n∧BTab w w0.heap.size ob n bs T∧FarT n c d T∧∀s t x:Nat,s<n→t<n→x<c→Kt d T s t x)∧Al w0 w:=by
 obtain ⟨aa,ac,na,nc,rfl,bw,bv⟩:=h;have du:=ok.nl;have dt:=ok.al;rw[dt,du];rw[dt] at bw;rw[du] at bv;obtain ⟨nb,no,rfl,fj⟩:=BL (n:=n) bv qO;obtain ⟨ab,ao,rfl,e8⟩:=Ao (n:=n) bw qO;have aj:∀(s:Nat),s<n→∃row rb ro rc,d.next[s]?=some row∧row.length=c∧w0.cell? ⟨nb,no+s,none⟩=some (.slice (some ⟨rb,ro,none⟩) c rc)∧∀x t,row[x]?=some t→w0.cell? ⟨rb,ro+x,none⟩=some (.int .i64 t):=fun s hs=>by
  obtain ⟨row,a0⟩:=AK (l:=d.next) (i:=s) qO;have dq:=(ok.row row (List.mem_of_getElem? a0)).1;obtain ⟨ra,rc,h1,h2⟩:=fj s row a0;rw[dq] at h1 h2;obtain ⟨rb,ro,rfl,e4⟩:=Ao (n:=c) h2 qO;exact ⟨row,rb,ro,rc,a0,dq,h1,e4⟩
 have d0:∀s:Nat,s<n→∃a,Co d ((s:Nat):Int)=a∧w0.cell? ⟨ab,ao+s,none⟩=some (.int .i64 a):=fun s hs=>by
  obtain ⟨a,ha⟩:=AK (l:=d.accept) (i:=s) qO;exact ⟨a,Cn ha,e8 s a ha⟩
 obtain ⟨fg,rb0,ro0,rc0,dw,eo,az,fm⟩:=aj 0 qO;refine qR func127 rfl ntmps127 rfl (fun E=>(Y (BP (v:=(.agg #[(I6 d.start),(.slice (some ⟨ab,ao,none⟩) n ac),(.slice (some ⟨nb,no,none⟩) n nc)])) (c:=#[(I6 d.start),(.slice (some ⟨ab,ao,none⟩) n ac),(.slice (some ⟨nb,no,none⟩) n nc)]) qD rfl rfl ?_)));intro bd wd Nd;have Fd:=Nd.ge E;replace E:=E.ext Nd.ext;have Bd:=Nd.blk;refine qA _ rfl (AA (Y (qF bd 0 2 rfl underlying48 rfl A' rfl (qV (AE rfl A4 (Bd.cell rfl)) (qV (AL underlying46 rfl) (qA _ rfl (AA (Y (qM _ rfl (Dx (n:=n) (z:=(.slice none 0 0)) (bytes:=24) qD underlying122 EM VK Te rfl rfl rfl qO qO ?_))))))))));intro bo wo No;have Fo:=No.ge E;have Oo_bd:=No.lt Bd;replace Bd:=No.keep Bd;replace E:=E.ext No.ext;have Bo:=No.blk;refine qA _ rfl (AA (AI (Y (qM _ rfl (qV (AL underlying122 rfl) (qM _ rfl (AA (AO ?_))))))));obtain ⟨n0,hn0⟩:∃n0,n0=wd.heap.size:=⟨_,rfl⟩;have d3:w0.heap.size≤n0∧bd<n0∧n0≤bo:=⟨by have:=Nd.ext.size;omega,by have:=Nd.eq;have:=Nd.size;omega,by have:=No.eq;omega⟩;have ec:=BTab.start Bo d3.2.2;have d8:n0≤wo.heap.size:=by have:=No.ext.size;omega
 refine Ap (fun nn_ σ W1=>∃(s:Nat) (bs:List Nat),(∃jj_,σ=BK jj_ [(1,(P6 bd 0)),(3,(I6 (n:Int))),(4,(.slice (some ⟨bo,0,none⟩) n n)),(17,(I6 (n:Int))),(18,(I6 (s:Int)))])∧Chg Ab w0 W1∧Az W1 bd #[(I6 d.start),(.slice (some ⟨ab,ao,none⟩) n ac),(.slice (some ⟨nb,no,none⟩) n nc)] 48∧(s≤n)∧(BTab W1 n0 bo n bs ((M0 n d).take s))∧(n0≤W1.heap.size)∧nn_=n - s) (n:=n - 0) ?_ ?_
 ·exact ⟨0,[],Ac.out ⟨rfl,rfl,rfl,rfl,rfl,trivial⟩,E,Bd,Nat.zero_le _,ec,d8,rfl⟩
 ·clear E Bd;rintro _ _ W1 ⟨s,bs,⟨j1,rfl⟩,E,Bd,hs,hB,ai,rfl⟩;refine Y (qV (A0 rfl rfl) (AA (AI (qC rfl (fun ew=>?_) (fun ew=>?_)))))
  ·have b9:bs.length=s:=by rw[hB.len,List.length_take];simp[M0];omega
   have dg:=hB;obtain ⟨z0,hz0⟩:∃z0,z0=(W1).heap.size:=⟨_,rfl⟩;have hO:=hB.bk;have aq:True:=trivial;refine AM (AB (AI (AO (Y (qM _ rfl (qA _ rfl (AA (Y (qM _ rfl (qM _ rfl (qM _ rfl (Dx (n:=n) (z:=(.bool false)) (bytes:=1) qD underlying87 EZ VL Uv rfl rfl rfl qO qO ?_))))))))))));intro br wr Nr;have Fr:=Nr.ge E;have Or_bd:=Nr.lt Bd;have Or_bo:=Nr.lt hO;replace Bd:=Nr.keep Bd;replace hO:=Nr.keep hO;replace hB:=hB.ext Nr.ext;replace ai:=Nat.le_trans ai Nr.ext.size;replace E:=E.ext Nr.ext;have Br:=Nr.blk;refine qV (AC (b:=bo) (o:=0) (len:=n) (cap:=n) (i:=s) (o':=0+s) rfl rfl qO underlying122 EM qO qO) (A9 (b:=bo) (o:=0+s) (c':=(((bs.map fun b=>Value.slice (some ⟨b,0,none⟩) n n)++List.replicate (n - bs.length) (Value.slice none 0 0)).toArray).setIfInBounds (0+s) (.slice (some ⟨br,0,none⟩) n n)) (v:=(.slice (some ⟨br,0,none⟩) n n)) rfl rfl rfl EM hO (by simp;omega) (rfl) ?_);intro w3 S3;replace aq:=S3;replace Bd:=S3.keep qO Bd;replace Br:=S3.keep qO Br;replace E:=S3.step E qQ;replace hO:=S3.blk;have dd:Az w3 br ((pR n d s 0).map Value.bool).toArray TB:=by rw[Se,List.map_replicate];exact Br
   have ff:=hB.push aq (by rw[b9]) dd (NC n d s 0) (by have:=Nr.eq;omega) (fun h=>by have:=(dg.lt br h).2.1;have:=Nr.eq;omega) qO;have a8:n0≤(w3).heap.size:=Nat.le_trans ai aq.chg.size;refine AA (Y (qM _ rfl (qV (AL underlying122 rfl) (qM _ rfl (AA (AO (Ap (fun nn_ σ W4=>∃(t:Nat),(∃jj_,σ=BK jj_ [(1,(P6 bd 0)),(3,(I6 (n:Int))),(4,(.slice (some ⟨bo,0,none⟩) n n)),(5,(I6 (s:Int))),(17,(I6 (n:Int))),(18,(I6 (s:Int))),(27,(I6 (n:Int))),(28,(I6 (t:Int)))])∧Chg Ab w0 W4∧Az W4 bd #[(I6 d.start),(.slice (some ⟨ab,ao,none⟩) n ac),(.slice (some ⟨nb,no,none⟩) n nc)] 48∧(t≤n)∧(BTab W4 n0 bo n (bs++[br]) ((M0 n d).take s++[pR n d s t]))∧(n0≤W4.heap.size)∧nn_=n - t) (n:=n - 0) ?_ ?_)))))))
   ·exact ⟨0,Ac.out ⟨rfl,rfl,rfl,rfl,rfl,rfl,rfl,rfl,trivial⟩,E,Bd,Nat.zero_le _,ff,a8,rfl⟩
   ·clear E Bd;rintro _ _ W4 ⟨t,⟨j4,rfl⟩,E,Bd,ht,hB,ai,rfl⟩;refine Y (qV (A0 rfl rfl) (AA (AI (qC rfl (fun dk=>?_) (fun dk=>?_)))))
    ·obtain ⟨a1,fn,cl⟩:=d0 s qO;obtain ⟨a2,ex,dl⟩:=d0 t qO;have cd:(bs++[br])[s]?=some br:=by rw[←b9,List.getElem?_concat_length]
     have dm:((M0 n d).take s++[pR n d s t])[s]?=some (pR n d s t):=TK (by rw[←dg.len,b9]);have c1:=hB.cell cd;have av:=(hB.row s br _ cd dm).2.1;have hrn:=(hB.row s br _ cd dm).1;have aq:True:=trivial;refine AM (AB (AI (AO (Y (qM _ rfl (qA _ rfl (AA ?_)))))));have eu:w0.heap.size≤W4.heap.size:=E.size;have ch:bd<W4.heap.size:=Bd.lt;have cb:br<W4.heap.size:=av.lt;obtain ⟨ee,ah⟩:∃Fs:List CO,Fs=[(eF (.slice (some ⟨bo,0,none⟩) n n)),(eF (I6 (s:Int))),(eF (.pointer (some ⟨bo,0+s,none⟩))),(eF (.slice (some ⟨br,0,none⟩) n n)),(eF (I6 (t:Int))),(eF (P6 bd 1)),(eF (.slice (some ⟨ab,ao,none⟩) n ac)),(eF (I6 (s:Int))),(eF (.pointer (some ⟨ab,ao+s,none⟩))),(eF (I6 a1)),(eF (P6 bd 1)),(eF (.slice (some ⟨ab,ao,none⟩) n ac)),(eF (I6 (t:Int))),(eF (.pointer (some ⟨ab,ao+t,none⟩))),(eF (I6 a2)),(eF (.bool (decide ((a1:Int)≠a2)))),(eF undef),(eF undef)]:=⟨_,rfl⟩;refine EJ (Ld []) [true,true,true,true,true,true,true,true,true,true,true,true,true,true,true,true,false,false] [16,17] [31,32,33,34,35,36,37,38,39,40,41,42,43,44,45,46,126,127] [[],[],[0,1],[2],[],[],[5],[],[6,7],[8],[],[10],[],[11,12],[13],[9,14],[],[]] [[],[],[0,1],[2,0,1],[],[],[5],[],[6,5,7],[8,6,5,7],[],[10],[],[11,10,12],[13,11,10,12],[9,8,6,5,7,14,13,11,10,12],[],[]] ee ah qK mixed qK qK qK qK ?_ ?_
     ·intro wd X0;refine qZ (fun S s' w' hi hN X U V H=>?_) ?_
      ·replace X:=BX X;exact AH (AZ (U 4 rfl)) rfl
      refine qZ (fun S s' w' hi hN X U V H=>?_) ?_
      ·replace X:=BX X;exact AH (AZ (U 5 rfl)) rfl
      refine qZ (fun S s' w' hi hN X U V H=>?_) ?_
      ·replace X:=BX X;have d6:=(H 0 rfl).2 31 _ rfl (by rw[ah];rfl);have eg:=(H 1 rfl).2 32 _ rfl (by rw[ah];rfl);exact AH (AC (i:=s) d6 eg rfl underlying122 EM qO qO) rfl
      refine qZ (fun S s' w' hi hN X U V H=>?_) ?_
      ·replace X:=BX X;have ed:=(H 2 rfl).2 33 _ rfl (by rw[ah];rfl);exact AH (AE ed D3 ((Al.cell X (X0.cell c1)))) rfl
      refine qZ (fun S s' w' hi hN X U V H=>?_) ?_
      ·replace X:=BX X;exact AH (AZ (U 6 rfl)) rfl
      refine qZ (fun S s' w' hi hN X U V H=>?_) ?_
      ·replace X:=BX X;exact AH (AT (U 1 rfl) underlying48 rfl Ay rfl) rfl
      refine qZ (fun S s' w' hi hN X U V H=>?_) ?_
      ·replace X:=BX X;have fd:=(H 5 rfl).2 36 _ rfl (by rw[ah];rfl);exact AH (AE fd Ax (((X0.trans X).keep Bd).cell rfl)) rfl
      refine qZ (fun S s' w' hi hN X U V H=>?_) ?_
      ·replace X:=BX X;exact AH (AZ (U 5 rfl)) rfl
      refine qZ (fun S s' w' hi hN X U V H=>?_) ?_
      ·replace X:=BX X;have d9:=(H 6 rfl).2 37 _ rfl (by rw[ah];rfl);have eh:=(H 7 rfl).2 38 _ rfl (by rw[ah];rfl);exact AH (AC (i:=s) d9 eh rfl underlying22 Ad qO qO) rfl
      refine qZ (fun S s' w' hi hN X U V H=>?_) ?_
      ·replace X:=BX X;have e3:=(H 8 rfl).2 39 _ rfl (by rw[ah];rfl);exact AH (AE e3 Ai ((Al.trans E (X0.trans X)).cell cl)) rfl
      refine qZ (fun S s' w' hi hN X U V H=>?_) ?_
      ·replace X:=BX X;exact AH (AT (U 1 rfl) underlying48 rfl Ay rfl) rfl
      refine qZ (fun S s' w' hi hN X U V H=>?_) ?_
      ·replace X:=BX X;have e7:=(H 10 rfl).2 41 _ rfl (by rw[ah];rfl);exact AH (AE e7 Ax (((X0.trans X).keep Bd).cell rfl)) rfl
      refine qZ (fun S s' w' hi hN X U V H=>?_) ?_
      ·replace X:=BX X;exact AH (AZ (U 6 rfl)) rfl
      refine qZ (fun S s' w' hi hN X U V H=>?_) ?_
      ·replace X:=BX X;have ej:=(H 11 rfl).2 42 _ rfl (by rw[ah];rfl);have fo:=(H 12 rfl).2 43 _ rfl (by rw[ah];rfl);exact AH (AC (i:=t) ej fo rfl underlying22 Ad qO qO) rfl
      refine qZ (fun S s' w' hi hN X U V H=>?_) ?_
      ·replace X:=BX X;have ez:=(H 13 rfl).2 44 _ rfl (by rw[ah];rfl);exact AH (AE ez Ai ((Al.trans E (X0.trans X)).cell dl)) rfl
      refine qZ (fun S s' w' hi hN X U V H=>?_) ?_
      ·replace X:=BX X;have ep:=(H 9 rfl).2 40 _ rfl (by rw[ah];rfl);have fa:=(H 14 rfl).2 45 _ rfl (by rw[ah];rfl);exact AH (CE ep fa) rfl
      refine DagStepsS.tail (DagStepsS.tail ?_);exact DagStepsS.nil
     ·intro s' wd6 w6 X0 X6 U H;replace X6:=X6.mono (M':=Ab) (fun y _ h=>by
        obtain ⟨j,hj,h⟩:=h;exact h.elim)
      have fb:=H 3 rfl 34 _ rfl (by rw[ah];rfl);have ey:=H 4 rfl 35 _ rfl (by rw[ah];rfl);have ea:=H 15 rfl 46 _ rfl (by rw[ah];rfl);obtain ⟨j6,rfl⟩:=Ac.out (σ:=s') (l:=[(1,(.pointer (some ⟨bd,0,none⟩))),(3,(.int .i64 ((n:Nat):Int))),(4,(.slice (some ⟨bo,0,none⟩) n n)),(5,(.int .i64 ((s:Nat):Int))),(17,(.int .i64 ((n:Nat):Int))),(18,(.int .i64 ((s:Nat):Int))),(27,(.int .i64 ((n:Nat):Int))),(28,(.int .i64 ((t:Nat):Int))),(34,(.slice (some ⟨br,0,none⟩) n n)),(35,(.int .i64 ((t:Nat):Int))),(46,(.bool (decide ((a1:Int)≠a2))))]) ⟨U 1 rfl,U 3 rfl,U 4 rfl,U 5 rfl,U 17 rfl,U 18 rfl,U 27 rfl,U 28 rfl,fb,ey,ea,trivial⟩;clear U H;replace Bd:=(X0.trans X6).keep Bd;replace av:=(X0.trans X6).keep av;replace hB:=hB.ext (X0.trans X6);replace ai:=Nat.le_trans ai (X0.trans X6).size;replace X6:=X0.trans X6;replace E:=E.ext X6;refine qV (AC (b:=br) (o:=0) (len:=n) (cap:=n) (i:=t) (o':=0+t) rfl rfl qO underlying87 EZ qO qO) (A9 (b:=br) (o:=0+t) (c':=(((pR n d s t).map Value.bool).toArray).setIfInBounds (0+t) (.bool (decide (a1≠a2)))) (v:=(.bool (decide ((a1:Int)≠a2)))) rfl rfl rfl EZ av (by simp[NC];omega) (rfl) ?_);intro w7 S7;replace aq:=S7;replace Bd:=S7.keep qO Bd;replace E:=S7.step E qQ;replace av:=S7.blk;have cf:=hB.put aq cd dm rfl;rw[UD qO fn ex,List.set_append_right _ _ (by rw[List.length_take];omega)] at cf;have a8:n0≤(w7).heap.size:=Nat.le_trans ai aq.chg.size;refine AA (AN (AB (AJ (qV (Ar rfl rfl (A5 qO)) (qM _ rfl (AA (AB ?_)))))));exact ⟨n - (t+1),qO,t+1,Ac.out ⟨rfl,rfl,rfl,rfl,rfl,rfl,rfl,rfl,trivial⟩,E,Bd,qO,T8 (dg.len.symm.trans b9) cf,a8,rfl⟩
    ·have e0:t=n:=qO
     rw[e0,Sf qO] at hB;refine Ak (AP (AP (Ae (AN (AB (AJ (qV (Ar rfl rfl (A5 qO)) (qM _ rfl (AA (AB ?_))))))))));exact ⟨n - (s+1),qO,s+1,bs++[br],Ac.out ⟨rfl,rfl,rfl,rfl,rfl,trivial⟩,E,Bd,qO,hB,ai,rfl⟩
  ·have fh:s=n:=qO
   rw[fh,List.take_of_length_le (by simp[M0])] at hB;refine Ak (AP (AP (Ae (AB (AI (Y (qA _ rfl (AA (AO (Ap (fun nn_ σ W8=>∃(ag:Bool) (T:List (List Bool)),(∃jj_,σ=BK jj_ [(1,(P6 bd 0)),(4,(.slice (some ⟨bo,0,none⟩) n n)),(7,(.bool ag))])∧Chg Ab w0 W8∧Az W8 bd #[(I6 d.start),(.slice (some ⟨ab,ao,none⟩) n ac),(.slice (some ⟨nb,no,none⟩) n nc)] 48∧(BTab W8 n0 bo n bs T)∧(FarT n c d T)∧(ag=false→∀s t x:Nat,s<n→t<n→x<c→Kt d T s t x)∧(n0≤W8.heap.size)∧nn_=Di T+ag.toNat) (n:=Di (M0 n d)+true.toNat) ?_ ?_))))))))))
   ·exact ⟨true,M0 n d,Ac.out ⟨rfl,rfl,rfl,trivial⟩,E,Bd,hB,FarT.start n c d,(fun h=>by cases h),ai,rfl⟩
   ·clear E Bd;rintro _ _ W8 ⟨ag,T,⟨j8,rfl⟩,E,Bd,hB,hF,c1,ai,rfl⟩;refine AI (Y (qM _ rfl (AA (As rfl (fun b6=>?_) (fun b6=>?_)))))
    ·have db:=b6;refine AM (AB (AO (Y (qA _ rfl (AA (Y (qM _ rfl (qV (AL underlying122 rfl) (qM _ rfl (AA (AO (Ap (fun nn_ σ bu=>∃(a2:Bool) (a9:List (List Bool)) (i:Nat),(∃jj_,σ=BK jj_ [(1,(P6 bd 0)),(4,(.slice (some ⟨bo,0,none⟩) n n)),(52,(I6 (n:Int))),(7,(.bool a2)),(53,(I6 (i:Int)))])∧Chg Ab w0 bu∧Az bu bd #[(I6 d.start),(.slice (some ⟨ab,ao,none⟩) n ac),(.slice (some ⟨nb,no,none⟩) n nc)] 48∧(i≤n)∧(BTab bu n0 bo n bs a9)∧(FarI n c d (Di T) a2 a9 i 0 0)∧(n0≤bu.heap.size)∧nn_=n - i) (n:=n - 0) ?_ ?_))))))))))))
     ·exact ⟨false,T,0,Ac.out ⟨rfl,rfl,rfl,rfl,rfl,trivial⟩,E,Bd,Nat.zero_le _,hB,FarI.start hF,ai,rfl⟩
     ·clear E Bd;rintro _ _ bu ⟨a2,a9,i,⟨j10,rfl⟩,E,Bd,hi,hB,hI,ai,rfl⟩;refine Y (qV (A0 rfl rfl) (AA (AI (qC rfl (fun e1=>?_) (fun e1=>?_)))))
      ·refine AM (AB (AI (AO (Y (qM _ rfl (qA _ rfl (AA (Y (qM _ rfl (qV (AL underlying122 rfl) (qM _ rfl (AA (AO (Ap (fun nn_ σ b7=>∃(a3:Bool) (b3:List (List Bool)) (j:Nat),(∃jj_,σ=BK jj_ [(1,(P6 bd 0)),(4,(.slice (some ⟨bo,0,none⟩) n n)),(8,(I6 (i:Int))),(52,(I6 (n:Int))),(53,(I6 (i:Int))),(57,(I6 (n:Int))),(7,(.bool a3)),(58,(I6 (j:Int)))])∧Chg Ab w0 b7∧Az b7 bd #[(I6 d.start),(.slice (some ⟨ab,ao,none⟩) n ac),(.slice (some ⟨nb,no,none⟩) n nc)] 48∧(j≤n)∧(BTab b7 n0 bo n bs b3)∧(FarI n c d (Di T) a3 b3 i j 0)∧(n0≤b7.heap.size)∧nn_=n - j) (n:=n - 0) ?_ ?_))))))))))))))
       ·exact ⟨a2,a9,0,Ac.out ⟨rfl,rfl,rfl,rfl,rfl,rfl,rfl,rfl,trivial⟩,E,Bd,Nat.zero_le _,hB,hI,ai,rfl⟩
       ·clear E Bd;rintro _ _ b7 ⟨a3,b3,j,⟨j12,rfl⟩,E,Bd,hj,hB,hI,ai,rfl⟩;refine Y (qV (A0 rfl rfl) (AA (AI (qC rfl (fun fk=>?_) (fun fk=>?_)))))
        ·refine AM (AB (AI (AO (Y (qM _ rfl (qA _ rfl (AA (Y (qF bd 0 2 rfl underlying48 rfl A' rfl (qV (AE rfl A4 (Bd.cell rfl)) (qV (AC (b:=nb) (o:=no) (len:=n) (cap:=nc) (i:=0) (o':=no+0) rfl rfl rfl underlying46 Ay qO qO) (qV (AE rfl Ax (E.cell (fun f=>f) (by rw[Nat.add_zero] at *;exact az))) (qV (AL underlying22 rfl) (qM _ rfl (AA (AO (Ap (fun nn_ σ an=>∃(a4:Bool) (ar:List (List Bool)) (x:Nat),(∃jj_,σ=BK jj_ [(1,(P6 bd 0)),(4,(.slice (some ⟨bo,0,none⟩) n n)),(8,(I6 (i:Int))),(9,(I6 (j:Int))),(52,(I6 (n:Int))),(53,(I6 (i:Int))),(57,(I6 (n:Int))),(58,(I6 (j:Int))),(65,(I6 (c:Int))),(7,(.bool a4)),(66,(I6 (x:Int)))])∧Chg Ab w0 an∧Az an bd #[(I6 d.start),(.slice (some ⟨ab,ao,none⟩) n ac),(.slice (some ⟨nb,no,none⟩) n nc)] 48∧(x≤c)∧(BTab an n0 bo n bs ar)∧(FarI n c d (Di T) a4 ar i j x)∧(n0≤an.heap.size)∧nn_=c - x) (n:=c - 0) ?_ ?_)))))))))))))))))
         ·exact ⟨a3,b3,0,Ac.out ⟨rfl,rfl,rfl,rfl,rfl,rfl,rfl,rfl,rfl,rfl,rfl,trivial⟩,E,Bd,Nat.zero_le _,hB,hI,ai,rfl⟩
         ·clear E Bd;rintro _ _ an ⟨a4,ar,x,⟨j14,rfl⟩,E,Bd,hx,hB,hI,ai,rfl⟩;refine Y (qV (A0 rfl rfl) (AA (AI (qC rfl (fun fc=>?_) (fun fc=>?_)))))
          ·have hTl:=hI.far.sq.len;obtain ⟨de,cg,cc,dx,ba,en,am,bx⟩:=aj i qO;obtain ⟨c4,b8,ce,dr,bp,er,ap,bn⟩:=aj j qO;obtain ⟨y1,dh⟩:=AK (l:=de) (i:=x) qO;obtain ⟨y2,c8⟩:=AK (l:=c4) (i:=x) qO;have ci:=DQ ba dh;have cz:=DQ bp c8;have ds:=fu ((i:Nat):Int) x qO qO qO;have dz:=fu ((j:Nat):Int) x qO qO qO;have d5:=ok.to (s:=((i:Nat):Int)) (x:=x);have e6:=ok.to (s:=((j:Nat):Int)) (x:=x);rw[ci] at ds d5;rw[cz] at dz e6;obtain ⟨k1,rfl⟩:=Int.eq_ofNat_of_zero_le ds;obtain ⟨k2,rfl⟩:=Int.eq_ofNat_of_zero_le dz;obtain ⟨b1,q1,bt,cp,em,es,c5⟩:=hB.get (i:=i) qO;obtain ⟨b2,q2,dp,hq2,et,e9,ek⟩:=hB.get (i:=k1) qO;have a7:=hB.cell bt;have b4:=hB.cell dp;have ak:=hB.at hI.far.sq bt (t:=j) qO;have au:=hB.at hI.far.sq dp (t:=k2) qO;rcases Bool.eq_false_or_eq_true (EF ar i j) with a6|a6
           ·have c9:=a6;rw[a6] at ak;refine AM (AB (AI (AO (Y (qM _ rfl (qA _ rfl (AA ?_)))))));have d4:w0.heap.size≤an.heap.size:=E.size;have bq:bd<an.heap.size:=Bd.lt;refine AI ?_;obtain ⟨c7,af⟩:∃Fs:List CO,Fs=[(eF (.slice (some ⟨bo,0,none⟩) n n)),(eF (I6 (i:Int))),(eF (.pointer (some ⟨bo,0+i,none⟩))),(eF (.slice (some ⟨b1,0,none⟩) n n)),(eF (I6 (j:Int))),(eF (.pointer (some ⟨b1,0+j,none⟩))),(eF (.bool true)),(eF (.bool false)),(eF (.bool false)),(eF undef),(eF undef),(eF undef),(eF undef),(eF undef),(eF undef),(eF undef),(eF undef),(eF undef),(eF undef),(eF undef),(eF undef),(eF undef),(eF undef),(eF undef),(eF undef),(eF undef),(eF undef),(eF undef),(eF undef),(eF undef),(eF (.bool false))]:=⟨_,rfl⟩;refine EJ (Ld []) [true,true,true,true,true,true,true,true,true,true,true,true,true,true,true,true,true,true,true,true,true,true,true,true,true,true,true,true,true,true,true] [] [69,70,71,72,73,74,75,76,77,78,79,80,81,82,83,84,85,86,87,88,89,90,91,92,93,94,95,96,97,98,99] [[],[],[0,1],[2],[],[3,4],[5],[6],[7],[8],[8],[8,10],[8],[8,11,12],[8,13],[8],[8,14,15],[8,16],[8,9,17],[8,18],[8],[8,20],[8],[8,21,22],[8,23],[8],[8,24,25],[8,26],[8,19,27],[8,28],[8,29]] [[],[],[0,1],[2,0,1],[],[3,2,0,1,4],[5,3,2,0,1,4],[6,5,3,2,0,1,4],[7,6,5,3,2,0,1,4],[8,7,6,5,3,2,0,1,4],[8,7,6,5,3,2,0,1,4],[8,7,6,5,3,2,0,1,4,10],[8,7,6,5,3,2,0,1,4],[8,7,6,5,3,2,0,1,4,11,10,12],[8,7,6,5,3,2,0,1,4,13,11,10,12],[8,7,6,5,3,2,0,1,4],[8,7,6,5,3,2,0,1,4,14,13,11,10,12,15],[8,7,6,5,3,2,0,1,4,16,14,13,11,10,12,15],[8,7,6,5,3,2,0,1,4,9,17,16,14,13,11,10,12,15],[8,7,6,5,3,2,0,1,4,18,9,17,16,14,13,11,10,12,15],[8,7,6,5,3,2,0,1,4],[8,7,6,5,3,2,0,1,4,20],[8,7,6,5,3,2,0,1,4],[8,7,6,5,3,2,0,1,4,21,20,22],[8,7,6,5,3,2,0,1,4,23,21,20,22],[8,7,6,5,3,2,0,1,4],[8,7,6,5,3,2,0,1,4,24,23,21,20,22,25],[8,7,6,5,3,2,0,1,4,26,24,23,21,20,22,25],[8,7,6,5,3,2,0,1,4,19,18,9,17,16,14,13,11,10,12,15,27,26,24,23,21,20,22,25],[8,7,6,5,3,2,0,1,4,28,19,18,9,17,16,14,13,11,10,12,15,27,26,24,23,21,20,22,25],[8,7,6,5,3,2,0,1,4,29,28,19,18,9,17,16,14,13,11,10,12,15,27,26,24,23,21,20,22,25]] c7 af qK mixed qK qK qK qK ?_ ?_
            ·intro wd X0;refine qZ (fun S s' w' hi hN X U V H=>?_) ?_
             ·replace X:=BX X;exact AH (AZ (U 4 rfl)) rfl
             refine qZ (fun S s' w' hi hN X U V H=>?_) ?_
             ·replace X:=BX X;exact AH (AZ (U 8 rfl)) rfl
             refine qZ (fun S s' w' hi hN X U V H=>?_) ?_
             ·replace X:=BX X;have bz:=(H 0 rfl).2 69 _ rfl (by rw[af];rfl);have be:=(H 1 rfl).2 70 _ rfl (by rw[af];rfl);exact AH (AC (i:=i) bz be rfl underlying122 EM qO qO) rfl
             refine qZ (fun S s' w' hi hN X U V H=>?_) ?_
             ·replace X:=BX X;have b0:=(H 2 rfl).2 71 _ rfl (by rw[af];rfl);exact AH (AE b0 D3 ((Al.cell X (X0.cell a7)))) rfl
             refine qZ (fun S s' w' hi hN X U V H=>?_) ?_
             ·replace X:=BX X;exact AH (AZ (U 9 rfl)) rfl
             refine qZ (fun S s' w' hi hN X U V H=>?_) ?_
             ·replace X:=BX X;have bf:=(H 3 rfl).2 72 _ rfl (by rw[af];rfl);have bb:=(H 4 rfl).2 73 _ rfl (by rw[af];rfl);exact AH (AC (i:=j) bf bb rfl underlying87 EZ qO qO) rfl
             refine qZ (fun S s' w' hi hN X U V H=>?_) ?_
             ·replace X:=BX X;have b5:=(H 5 rfl).2 74 _ rfl (by rw[af];rfl);exact AH (AE b5 E7 ((Al.cell X (X0.cell ak)))) rfl
             refine qZ (fun S s' w' hi hN X U V H=>?_) ?_
             ·replace X:=BX X;have bi:=(H 6 rfl).2 75 _ rfl (by rw[af];rfl);exact AH (CM bi) rfl
             refine qZ (fun S s' w' hi hN X U V H=>?_) ?_
             ·replace X:=BX X;have bj:=(H 7 rfl).2 76 _ rfl (by rw[af];rfl);exact AH (AZ bj) rfl
             refine DagStepsS.cons (Au.eq) (A_.const) (fun S s' w' hi hN X U V H=>Or.inr ⟨BR rfl rfl (d:=77) (Or.inl ((H 8 rfl).2 77 (eF (.bool false)) rfl (by rw[af];rfl))),?_⟩) ?_
             ·exact rfl
             refine DagStepsS.cons (Au.eq) (A_.const) (fun S s' w' hi hN X U V H=>Or.inr ⟨BR rfl rfl (d:=77) (Or.inl ((H 8 rfl).2 77 (eF (.bool false)) rfl (by rw[af];rfl))),?_⟩) ?_
             ·exact rfl
             refine DagStepsS.cons (Au.eq) (A_.const) (fun S s' w' hi hN X U V H=>Or.inr ⟨BR rfl rfl (d:=77) (Or.inl ((H 8 rfl).2 77 (eF (.bool false)) rfl (by rw[af];rfl))),?_⟩) ?_
             ·exact rfl
             refine DagStepsS.cons (Au.eq) (A_.const) (fun S s' w' hi hN X U V H=>Or.inr ⟨BR rfl rfl (d:=77) (Or.inl ((H 8 rfl).2 77 (eF (.bool false)) rfl (by rw[af];rfl))),?_⟩) ?_
             ·exact rfl
             refine DagStepsS.cons (Au.eq) (A_.const) (fun S s' w' hi hN X U V H=>Or.inr ⟨BR rfl rfl (d:=77) (Or.inl ((H 8 rfl).2 77 (eF (.bool false)) rfl (by rw[af];rfl))),?_⟩) ?_
             ·exact rfl
             refine DagStepsS.cons (Au.eq) (A_.const) (fun S s' w' hi hN X U V H=>Or.inr ⟨BR rfl rfl (d:=77) (Or.inl ((H 8 rfl).2 77 (eF (.bool false)) rfl (by rw[af];rfl))),?_⟩) ?_
             ·exact rfl
             refine DagStepsS.cons (Au.eq) (A_.const) (fun S s' w' hi hN X U V H=>Or.inr ⟨BR rfl rfl (d:=77) (Or.inl ((H 8 rfl).2 77 (eF (.bool false)) rfl (by rw[af];rfl))),?_⟩) ?_
             ·exact rfl
             refine DagStepsS.cons (Au.eq) (A_.const) (fun S s' w' hi hN X U V H=>Or.inr ⟨BR rfl rfl (d:=77) (Or.inl ((H 8 rfl).2 77 (eF (.bool false)) rfl (by rw[af];rfl))),?_⟩) ?_
             ·exact rfl
             refine DagStepsS.cons (Au.eq) (A_.const) (fun S s' w' hi hN X U V H=>Or.inr ⟨BR rfl rfl (d:=77) (Or.inl ((H 8 rfl).2 77 (eF (.bool false)) rfl (by rw[af];rfl))),?_⟩) ?_
             ·exact rfl
             refine DagStepsS.cons (Au.eq) (A_.const) (fun S s' w' hi hN X U V H=>Or.inr ⟨BR rfl rfl (d:=77) (Or.inl ((H 8 rfl).2 77 (eF (.bool false)) rfl (by rw[af];rfl))),?_⟩) ?_
             ·exact rfl
             refine DagStepsS.cons (Au.eq) (A_.const) (fun S s' w' hi hN X U V H=>Or.inr ⟨BR rfl rfl (d:=77) (Or.inl ((H 8 rfl).2 77 (eF (.bool false)) rfl (by rw[af];rfl))),?_⟩) ?_
             ·exact rfl
             refine DagStepsS.cons (Au.eq) (A_.const) (fun S s' w' hi hN X U V H=>Or.inr ⟨BR rfl rfl (d:=77) (Or.inl ((H 8 rfl).2 77 (eF (.bool false)) rfl (by rw[af];rfl))),?_⟩) ?_
             ·exact rfl
             refine DagStepsS.cons (Au.eq) (A_.const) (fun S s' w' hi hN X U V H=>Or.inr ⟨BR rfl rfl (d:=77) (Or.inl ((H 8 rfl).2 77 (eF (.bool false)) rfl (by rw[af];rfl))),?_⟩) ?_
             ·exact rfl
             refine DagStepsS.cons (Au.eq) (A_.const) (fun S s' w' hi hN X U V H=>Or.inr ⟨BR rfl rfl (d:=77) (Or.inl ((H 8 rfl).2 77 (eF (.bool false)) rfl (by rw[af];rfl))),?_⟩) ?_
             ·exact rfl
             refine DagStepsS.cons (Au.eq) (A_.const) (fun S s' w' hi hN X U V H=>Or.inr ⟨BR rfl rfl (d:=77) (Or.inl ((H 8 rfl).2 77 (eF (.bool false)) rfl (by rw[af];rfl))),?_⟩) ?_
             ·exact rfl
             refine DagStepsS.cons (Au.eq) (A_.const) (fun S s' w' hi hN X U V H=>Or.inr ⟨BR rfl rfl (d:=77) (Or.inl ((H 8 rfl).2 77 (eF (.bool false)) rfl (by rw[af];rfl))),?_⟩) ?_
             ·exact rfl
             refine DagStepsS.cons (Au.eq) (A_.const) (fun S s' w' hi hN X U V H=>Or.inr ⟨BR rfl rfl (d:=77) (Or.inl ((H 8 rfl).2 77 (eF (.bool false)) rfl (by rw[af];rfl))),?_⟩) ?_
             ·exact rfl
             refine DagStepsS.cons (Au.eq) (A_.const) (fun S s' w' hi hN X U V H=>Or.inr ⟨BR rfl rfl (d:=77) (Or.inl ((H 8 rfl).2 77 (eF (.bool false)) rfl (by rw[af];rfl))),?_⟩) ?_
             ·exact rfl
             refine DagStepsS.cons (Au.eq) (A_.const) (fun S s' w' hi hN X U V H=>Or.inr ⟨BR rfl rfl (d:=77) (Or.inl ((H 8 rfl).2 77 (eF (.bool false)) rfl (by rw[af];rfl))),?_⟩) ?_
             ·exact rfl
             refine DagStepsS.cons (Au.eq) (A_.const) (fun S s' w' hi hN X U V H=>Or.inr ⟨BR rfl rfl (d:=77) (Or.inl ((H 8 rfl).2 77 (eF (.bool false)) rfl (by rw[af];rfl))),?_⟩) ?_
             ·exact rfl
             refine DagStepsS.cons (Au.eq) (A_.const) (fun S s' w' hi hN X U V H=>Or.inr ⟨BR rfl rfl (d:=77) (Or.inl ((H 8 rfl).2 77 (eF (.bool false)) rfl (by rw[af];rfl))),?_⟩) ?_
             ·exact rfl
             refine qZ (fun S s' w' hi hN X U V H=>?_) ?_
             ·replace X:=BX X;have bh:=(H 8 rfl).2 77 _ rfl (by rw[af];rfl);exact AH (Ag bh rfl) rfl
             exact DagStepsS.nil
            ·intro s' d7 w16 X0 aw U H;replace aw:=aw.mono (M':=Ab) (fun y _ h=>by
               obtain ⟨j,hj,h⟩:=h;exact h.elim)
             have bc:=H 30 rfl 99 _ rfl (by rw[af];rfl);obtain ⟨j16,rfl⟩:=Ac.out (σ:=s') (l:=[(1,(.pointer (some ⟨bd,0,none⟩))),(4,(.slice (some ⟨bo,0,none⟩) n n)),(7,(.bool a4)),(8,(.int .i64 ((i:Nat):Int))),(9,(.int .i64 ((j:Nat):Int))),(52,(.int .i64 ((n:Nat):Int))),(53,(.int .i64 ((i:Nat):Int))),(57,(.int .i64 ((n:Nat):Int))),(58,(.int .i64 ((j:Nat):Int))),(65,(.int .i64 ((c:Nat):Int))),(66,(.int .i64 ((x:Nat):Int))),(99,(.bool false))]) ⟨U 1 rfl,U 4 rfl,U 7 rfl,U 8 rfl,U 9 rfl,U 52 rfl,U 53 rfl,U 57 rfl,U 58 rfl,U 65 rfl,U 66 rfl,bc,trivial⟩;clear U H;replace Bd:=(X0.trans aw).keep Bd;replace hB:=hB.ext (X0.trans aw);replace ai:=Nat.le_trans ai (X0.trans aw).size;replace aw:=X0.trans aw;replace E:=E.ext aw;refine AA (AB (AW rfl (AM (AN (AB (AJ (qV (Ar rfl rfl (A5 qO)) (qM _ rfl (AA (AB ?_))))))))));exact ⟨c - (x+1),qO,a4,ar,x+1,Ac.out ⟨rfl,rfl,rfl,rfl,rfl,rfl,rfl,rfl,rfl,rfl,rfl,trivial⟩,E,Bd,qO,hB,hI.skip (fun _=>a6),ai,rfl⟩
           ·have c9:=a6;rw[a6] at ak;rcases Bool.eq_false_or_eq_true (EF ar k1 k2) with a5|a5
            ·have dn:=a5;rw[a5] at au;refine AM (AB (AI (AO (Y (qM _ rfl (qA _ rfl (AA ?_)))))));have d1:w0.heap.size≤an.heap.size:=E.size;have bg:bd<an.heap.size:=Bd.lt;refine AI ?_;obtain ⟨c6,ad⟩:∃Fs:List CO,Fs=[(eF (.slice (some ⟨bo,0,none⟩) n n)),(eF (I6 (i:Int))),(eF (.pointer (some ⟨bo,0+i,none⟩))),(eF (.slice (some ⟨b1,0,none⟩) n n)),(eF (I6 (j:Int))),(eF (.pointer (some ⟨b1,0+j,none⟩))),(eF (.bool false)),(eF (.bool true)),(eF (.bool true)),(eF (.slice (some ⟨bo,0,none⟩) n n)),(eF (P6 bd 2)),(eF (.slice (some ⟨nb,no,none⟩) n nc)),(eF (I6 (i:Int))),(eF (.pointer (some ⟨nb,no+i,none⟩))),(eF (.slice (some ⟨cg,cc,none⟩) c dx)),(eF (I6 (x:Int))),(eF (.pointer (some ⟨cg,cc+x,none⟩))),(eF (I6 (k1:Int))),(eF (.pointer (some ⟨bo,0+k1,none⟩))),(eF (.slice (some ⟨b2,0,none⟩) n n)),(eF (P6 bd 2)),(eF (.slice (some ⟨nb,no,none⟩) n nc)),(eF (I6 (j:Int))),(eF (.pointer (some ⟨nb,no+j,none⟩))),(eF (.slice (some ⟨b8,ce,none⟩) c dr)),(eF (I6 (x:Int))),(eF (.pointer (some ⟨b8,ce+x,none⟩))),(eF (I6 (k2:Int))),(eF (.pointer (some ⟨b2,0+k2,none⟩))),(eF (.bool true)),(eF (.bool true))]:=⟨_,rfl⟩;refine EJ (Ld []) [true,true,true,true,true,true,true,true,true,true,true,true,true,true,true,true,true,true,true,true,true,true,true,true,true,true,true,true,true,true,true] [] [69,70,71,72,73,74,75,76,77,78,79,80,81,82,83,84,85,86,87,88,89,90,91,92,93,94,95,96,97,98,99] [[],[],[0,1],[2],[],[3,4],[5],[6],[7],[8],[8],[8,10],[8],[8,11,12],[8,13],[8],[8,14,15],[8,16],[8,9,17],[8,18],[8],[8,20],[8],[8,21,22],[8,23],[8],[8,24,25],[8,26],[8,19,27],[8,28],[8,29]] [[],[],[0,1],[2,0,1],[],[3,2,0,1,4],[5,3,2,0,1,4],[6,5,3,2,0,1,4],[7,6,5,3,2,0,1,4],[8,7,6,5,3,2,0,1,4],[8,7,6,5,3,2,0,1,4],[8,7,6,5,3,2,0,1,4,10],[8,7,6,5,3,2,0,1,4],[8,7,6,5,3,2,0,1,4,11,10,12],[8,7,6,5,3,2,0,1,4,13,11,10,12],[8,7,6,5,3,2,0,1,4],[8,7,6,5,3,2,0,1,4,14,13,11,10,12,15],[8,7,6,5,3,2,0,1,4,16,14,13,11,10,12,15],[8,7,6,5,3,2,0,1,4,9,17,16,14,13,11,10,12,15],[8,7,6,5,3,2,0,1,4,18,9,17,16,14,13,11,10,12,15],[8,7,6,5,3,2,0,1,4],[8,7,6,5,3,2,0,1,4,20],[8,7,6,5,3,2,0,1,4],[8,7,6,5,3,2,0,1,4,21,20,22],[8,7,6,5,3,2,0,1,4,23,21,20,22],[8,7,6,5,3,2,0,1,4],[8,7,6,5,3,2,0,1,4,24,23,21,20,22,25],[8,7,6,5,3,2,0,1,4,26,24,23,21,20,22,25],[8,7,6,5,3,2,0,1,4,19,18,9,17,16,14,13,11,10,12,15,27,26,24,23,21,20,22,25],[8,7,6,5,3,2,0,1,4,28,19,18,9,17,16,14,13,11,10,12,15,27,26,24,23,21,20,22,25],[8,7,6,5,3,2,0,1,4,29,28,19,18,9,17,16,14,13,11,10,12,15,27,26,24,23,21,20,22,25]] c6 ad qK mixed qK qK qK qK ?_ ?_
             ·intro wd X0;refine qZ (fun S s' w' hi hN X U V H=>?_) ?_
              ·replace X:=BX X;exact AH (AZ (U 4 rfl)) rfl
              refine qZ (fun S s' w' hi hN X U V H=>?_) ?_
              ·replace X:=BX X;exact AH (AZ (U 8 rfl)) rfl
              refine qZ (fun S s' w' hi hN X U V H=>?_) ?_
              ·replace X:=BX X;have bz:=(H 0 rfl).2 69 _ rfl (by rw[ad];rfl);have be:=(H 1 rfl).2 70 _ rfl (by rw[ad];rfl);exact AH (AC (i:=i) bz be rfl underlying122 EM qO qO) rfl
              refine qZ (fun S s' w' hi hN X U V H=>?_) ?_
              ·replace X:=BX X;have b0:=(H 2 rfl).2 71 _ rfl (by rw[ad];rfl);exact AH (AE b0 D3 ((Al.cell X (X0.cell a7)))) rfl
              refine qZ (fun S s' w' hi hN X U V H=>?_) ?_
              ·replace X:=BX X;exact AH (AZ (U 9 rfl)) rfl
              refine qZ (fun S s' w' hi hN X U V H=>?_) ?_
              ·replace X:=BX X;have bf:=(H 3 rfl).2 72 _ rfl (by rw[ad];rfl);have bb:=(H 4 rfl).2 73 _ rfl (by rw[ad];rfl);exact AH (AC (i:=j) bf bb rfl underlying87 EZ qO qO) rfl
              refine qZ (fun S s' w' hi hN X U V H=>?_) ?_
              ·replace X:=BX X;have b5:=(H 5 rfl).2 74 _ rfl (by rw[ad];rfl);exact AH (AE b5 E7 ((Al.cell X (X0.cell ak)))) rfl
              refine qZ (fun S s' w' hi hN X U V H=>?_) ?_
              ·replace X:=BX X;have bi:=(H 6 rfl).2 75 _ rfl (by rw[ad];rfl);exact AH (CM bi) rfl
              refine qZ (fun S s' w' hi hN X U V H=>?_) ?_
              ·replace X:=BX X;have bj:=(H 7 rfl).2 76 _ rfl (by rw[ad];rfl);exact AH (AZ bj) rfl
              refine DagStepsS.cons (Au.eq) (A_.const) (fun S s' w' hi hN X U V H=>Or.inl ⟨AX rfl rfl (d:=77) ((H 8 rfl).2 77 (eF (.bool true)) rfl (by rw[ad];rfl)),?_⟩) ?_
              ·replace X:=BX X;exact AH (AZ (U 4 rfl)) rfl
              refine DagStepsS.cons (Au.eq) (A_.const) (fun S s' w' hi hN X U V H=>Or.inl ⟨AX rfl rfl (d:=77) ((H 8 rfl).2 77 (eF (.bool true)) rfl (by rw[ad];rfl)),?_⟩) ?_
              ·replace X:=BX X;exact AH (AT (U 1 rfl) underlying48 rfl A' rfl) rfl
              refine DagStepsS.cons (Au.eq) (A_.const) (fun S s' w' hi hN X U V H=>Or.inl ⟨AX rfl rfl (d:=77) ((H 8 rfl).2 77 (eF (.bool true)) rfl (by rw[ad];rfl)),?_⟩) ?_
              ·replace X:=BX X;have df:=(H 10 rfl).2 79 _ rfl (by rw[ad];rfl);exact AH (AE df A4 (((X0.trans X).keep Bd).cell rfl)) rfl
              refine DagStepsS.cons (Au.eq) (A_.const) (fun S s' w' hi hN X U V H=>Or.inl ⟨AX rfl rfl (d:=77) ((H 8 rfl).2 77 (eF (.bool true)) rfl (by rw[ad];rfl)),?_⟩) ?_
              ·replace X:=BX X;exact AH (AZ (U 8 rfl)) rfl
              refine DagStepsS.cons (Au.eq) (A_.const) (fun S s' w' hi hN X U V H=>Or.inl ⟨AX rfl rfl (d:=77) ((H 8 rfl).2 77 (eF (.bool true)) rfl (by rw[ad];rfl)),?_⟩) ?_
              ·replace X:=BX X;have c2:=(H 11 rfl).2 80 _ rfl (by rw[ad];rfl);have co:=(H 12 rfl).2 81 _ rfl (by rw[ad];rfl);exact AH (AC (i:=i) c2 co rfl underlying46 Ay qO qO) rfl
              refine DagStepsS.cons (Au.eq) (A_.const) (fun S s' w' hi hN X U V H=>Or.inl ⟨AX rfl rfl (d:=77) ((H 8 rfl).2 77 (eF (.bool true)) rfl (by rw[ad];rfl)),?_⟩) ?_
              ·replace X:=BX X;have c3:=(H 13 rfl).2 82 _ rfl (by rw[ad];rfl);exact AH (AE c3 Ax ((Al.trans E (X0.trans X)).cell am)) rfl
              refine DagStepsS.cons (Au.eq) (A_.const) (fun S s' w' hi hN X U V H=>Or.inl ⟨AX rfl rfl (d:=77) ((H 8 rfl).2 77 (eF (.bool true)) rfl (by rw[ad];rfl)),?_⟩) ?_
              ·replace X:=BX X;exact AH (AZ (U 10 rfl)) rfl
              refine DagStepsS.cons (Au.eq) (A_.const) (fun S s' w' hi hN X U V H=>Or.inl ⟨AX rfl rfl (d:=77) ((H 8 rfl).2 77 (eF (.bool true)) rfl (by rw[ad];rfl)),?_⟩) ?_
              ·replace X:=BX X;have ct:=(H 14 rfl).2 83 _ rfl (by rw[ad];rfl);have da:=(H 15 rfl).2 84 _ rfl (by rw[ad];rfl);exact AH (AC (i:=x) ct da rfl underlying22 Ad qO qO) rfl
              refine DagStepsS.cons (Au.eq) (A_.const) (fun S s' w' hi hN X U V H=>Or.inl ⟨AX rfl rfl (d:=77) ((H 8 rfl).2 77 (eF (.bool true)) rfl (by rw[ad];rfl)),?_⟩) ?_
              ·replace X:=BX X;have ck:=(H 16 rfl).2 85 _ rfl (by rw[ad];rfl);exact AH (AE ck Ai ((Al.trans E (X0.trans X)).cell (bx x _ dh))) rfl
              refine DagStepsS.cons (Au.eq) (A_.const) (fun S s' w' hi hN X U V H=>Or.inl ⟨AX rfl rfl (d:=77) ((H 8 rfl).2 77 (eF (.bool true)) rfl (by rw[ad];rfl)),?_⟩) ?_
              ·replace X:=BX X;have cy:=(H 9 rfl).2 78 _ rfl (by rw[ad];rfl);have di:=(H 17 rfl).2 86 _ rfl (by rw[ad];rfl);exact AH (AC (i:=k1) cy di rfl underlying122 EM qO qO) rfl
              refine DagStepsS.cons (Au.eq) (A_.const) (fun S s' w' hi hN X U V H=>Or.inl ⟨AX rfl rfl (d:=77) ((H 8 rfl).2 77 (eF (.bool true)) rfl (by rw[ad];rfl)),?_⟩) ?_
              ·replace X:=BX X;have c0:=(H 18 rfl).2 87 _ rfl (by rw[ad];rfl);exact AH (AE c0 D3 ((Al.cell X (X0.cell b4)))) rfl
              refine DagStepsS.cons (Au.eq) (A_.const) (fun S s' w' hi hN X U V H=>Or.inl ⟨AX rfl rfl (d:=77) ((H 8 rfl).2 77 (eF (.bool true)) rfl (by rw[ad];rfl)),?_⟩) ?_
              ·replace X:=BX X;exact AH (AT (U 1 rfl) underlying48 rfl A' rfl) rfl
              refine DagStepsS.cons (Au.eq) (A_.const) (fun S s' w' hi hN X U V H=>Or.inl ⟨AX rfl rfl (d:=77) ((H 8 rfl).2 77 (eF (.bool true)) rfl (by rw[ad];rfl)),?_⟩) ?_
              ·replace X:=BX X;have cq:=(H 20 rfl).2 89 _ rfl (by rw[ad];rfl);exact AH (AE cq A4 (((X0.trans X).keep Bd).cell rfl)) rfl
              refine DagStepsS.cons (Au.eq) (A_.const) (fun S s' w' hi hN X U V H=>Or.inl ⟨AX rfl rfl (d:=77) ((H 8 rfl).2 77 (eF (.bool true)) rfl (by rw[ad];rfl)),?_⟩) ?_
              ·replace X:=BX X;exact AH (AZ (U 9 rfl)) rfl
              refine DagStepsS.cons (Au.eq) (A_.const) (fun S s' w' hi hN X U V H=>Or.inl ⟨AX rfl rfl (d:=77) ((H 8 rfl).2 77 (eF (.bool true)) rfl (by rw[ad];rfl)),?_⟩) ?_
              ·replace X:=BX X;have dj:=(H 21 rfl).2 90 _ rfl (by rw[ad];rfl);have cw:=(H 22 rfl).2 91 _ rfl (by rw[ad];rfl);exact AH (AC (i:=j) dj cw rfl underlying46 Ay qO qO) rfl
              refine DagStepsS.cons (Au.eq) (A_.const) (fun S s' w' hi hN X U V H=>Or.inl ⟨AX rfl rfl (d:=77) ((H 8 rfl).2 77 (eF (.bool true)) rfl (by rw[ad];rfl)),?_⟩) ?_
              ·replace X:=BX X;have cm:=(H 23 rfl).2 92 _ rfl (by rw[ad];rfl);exact AH (AE cm Ax ((Al.trans E (X0.trans X)).cell ap)) rfl
              refine DagStepsS.cons (Au.eq) (A_.const) (fun S s' w' hi hN X U V H=>Or.inl ⟨AX rfl rfl (d:=77) ((H 8 rfl).2 77 (eF (.bool true)) rfl (by rw[ad];rfl)),?_⟩) ?_
              ·replace X:=BX X;exact AH (AZ (U 10 rfl)) rfl
              refine DagStepsS.cons (Au.eq) (A_.const) (fun S s' w' hi hN X U V H=>Or.inl ⟨AX rfl rfl (d:=77) ((H 8 rfl).2 77 (eF (.bool true)) rfl (by rw[ad];rfl)),?_⟩) ?_
              ·replace X:=BX X;have dc:=(H 24 rfl).2 93 _ rfl (by rw[ad];rfl);have cn:=(H 25 rfl).2 94 _ rfl (by rw[ad];rfl);exact AH (AC (i:=x) dc cn rfl underlying22 Ad qO qO) rfl
              refine DagStepsS.cons (Au.eq) (A_.const) (fun S s' w' hi hN X U V H=>Or.inl ⟨AX rfl rfl (d:=77) ((H 8 rfl).2 77 (eF (.bool true)) rfl (by rw[ad];rfl)),?_⟩) ?_
              ·replace X:=BX X;have cr:=(H 26 rfl).2 95 _ rfl (by rw[ad];rfl);exact AH (AE cr Ai ((Al.trans E (X0.trans X)).cell (bn x _ c8))) rfl
              refine DagStepsS.cons (Au.eq) (A_.const) (fun S s' w' hi hN X U V H=>Or.inl ⟨AX rfl rfl (d:=77) ((H 8 rfl).2 77 (eF (.bool true)) rfl (by rw[ad];rfl)),?_⟩) ?_
              ·replace X:=BX X;have cj:=(H 19 rfl).2 88 _ rfl (by rw[ad];rfl);have cu:=(H 27 rfl).2 96 _ rfl (by rw[ad];rfl);exact AH (AC (i:=k2) cj cu rfl underlying87 EZ qO qO) rfl
              refine DagStepsS.cons (Au.eq) (A_.const) (fun S s' w' hi hN X U V H=>Or.inl ⟨AX rfl rfl (d:=77) ((H 8 rfl).2 77 (eF (.bool true)) rfl (by rw[ad];rfl)),?_⟩) ?_
              ·replace X:=BX X;have cx:=(H 28 rfl).2 97 _ rfl (by rw[ad];rfl);exact AH (AE cx E7 ((Al.cell X (X0.cell au)))) rfl
              refine qZ (fun S s' w' hi hN X U V H=>?_) ?_
              ·replace X:=BX X;have bh:=(H 8 rfl).2 77 _ rfl (by rw[ad];rfl);have cs:=(H 29 rfl).2 98 _ rfl (by rw[ad];rfl);exact AH (Ag bh cs) rfl
              exact DagStepsS.nil
             ·intro s' fe w17 X0 ax U H;replace ax:=ax.mono (M':=Ab) (fun y _ h=>by
                obtain ⟨j,hj,h⟩:=h;exact h.elim)
              have bc:=H 30 rfl 99 _ rfl (by rw[ad];rfl);obtain ⟨j17,rfl⟩:=Ac.out (σ:=s') (l:=[(1,(.pointer (some ⟨bd,0,none⟩))),(4,(.slice (some ⟨bo,0,none⟩) n n)),(7,(.bool a4)),(8,(.int .i64 ((i:Nat):Int))),(9,(.int .i64 ((j:Nat):Int))),(52,(.int .i64 ((n:Nat):Int))),(53,(.int .i64 ((i:Nat):Int))),(57,(.int .i64 ((n:Nat):Int))),(58,(.int .i64 ((j:Nat):Int))),(65,(.int .i64 ((c:Nat):Int))),(66,(.int .i64 ((x:Nat):Int))),(99,(.bool true))]) ⟨U 1 rfl,U 4 rfl,U 7 rfl,U 8 rfl,U 9 rfl,U 52 rfl,U 53 rfl,U 57 rfl,U 58 rfl,U 65 rfl,U 66 rfl,bc,trivial⟩;clear U H;replace Bd:=(X0.trans ax).keep Bd;replace hB:=hB.ext (X0.trans ax);replace ai:=Nat.le_trans ai (X0.trans ax).size;replace ax:=X0.trans ax;replace E:=E.ext ax;have av:=(hB.row i b1 _ bt cp).2.1;refine AA (AB (A7 rfl (AJ (qM _ rfl (qM _ rfl (qV (AC (b:=bo) (o:=0) (len:=n) (cap:=n) (i:=i) (o':=0+i) rfl rfl rfl underlying122 EM qO qO) (qV (AE rfl D3 (hB.cell bt)) ?_)))))));have aq:True:=trivial;refine qM _ rfl (qV (AC (b:=b1) (o:=0) (len:=n) (cap:=n) (i:=j) (o':=0+j) rfl rfl rfl underlying87 EZ qO qO) (A9 (b:=b1) (o:=0+j) (c':=((q1.map Value.bool).toArray).setIfInBounds (0+j) (.bool true)) (v:=(.bool true)) rfl rfl rfl EZ av (by simp[c5];omega) (rfl) ?_));intro w18 ca;replace aq:=ca;replace Bd:=ca.keep qO Bd;replace E:=ca.step E qQ;replace av:=ca.blk;have cf:=hB.put aq bt cp rfl;have ef:ar.getD i []=q1:=by rw[List.getD_eq_getElem?_getD,cp];rfl
              refine qA _ rfl (AA (AN (AB (AJ (qV (Ar rfl rfl (A5 qO)) (qM _ rfl (AA (AB ?_))))))));exact ⟨c - (x+1),qO,true,IX ar i j,x+1,Ac.out ⟨rfl,rfl,rfl,rfl,rfl,rfl,rfl,rfl,rfl,rfl,rfl,trivial⟩,E,Bd,qO,(by unfold IX;rw[ef];exact cf),hI.put ok fu qO qO qO a6 (by rw[ci,cz];exact a5),Nat.le_trans ai aq.chg.size,rfl⟩
            ·have dn:=a5;rw[a5] at au;refine AM (AB (AI (AO (Y (qM _ rfl (qA _ rfl (AA ?_)))))));have dy:w0.heap.size≤an.heap.size:=E.size;have bm:bd<an.heap.size:=Bd.lt;refine AI ?_;obtain ⟨cv,ae⟩:∃Fs:List CO,Fs=[(eF (.slice (some ⟨bo,0,none⟩) n n)),(eF (I6 (i:Int))),(eF (.pointer (some ⟨bo,0+i,none⟩))),(eF (.slice (some ⟨b1,0,none⟩) n n)),(eF (I6 (j:Int))),(eF (.pointer (some ⟨b1,0+j,none⟩))),(eF (.bool false)),(eF (.bool true)),(eF (.bool true)),(eF (.slice (some ⟨bo,0,none⟩) n n)),(eF (P6 bd 2)),(eF (.slice (some ⟨nb,no,none⟩) n nc)),(eF (I6 (i:Int))),(eF (.pointer (some ⟨nb,no+i,none⟩))),(eF (.slice (some ⟨cg,cc,none⟩) c dx)),(eF (I6 (x:Int))),(eF (.pointer (some ⟨cg,cc+x,none⟩))),(eF (I6 (k1:Int))),(eF (.pointer (some ⟨bo,0+k1,none⟩))),(eF (.slice (some ⟨b2,0,none⟩) n n)),(eF (P6 bd 2)),(eF (.slice (some ⟨nb,no,none⟩) n nc)),(eF (I6 (j:Int))),(eF (.pointer (some ⟨nb,no+j,none⟩))),(eF (.slice (some ⟨b8,ce,none⟩) c dr)),(eF (I6 (x:Int))),(eF (.pointer (some ⟨b8,ce+x,none⟩))),(eF (I6 (k2:Int))),(eF (.pointer (some ⟨b2,0+k2,none⟩))),(eF (.bool false)),(eF (.bool false))]:=⟨_,rfl⟩;refine EJ (Ld []) [true,true,true,true,true,true,true,true,true,true,true,true,true,true,true,true,true,true,true,true,true,true,true,true,true,true,true,true,true,true,true] [] [69,70,71,72,73,74,75,76,77,78,79,80,81,82,83,84,85,86,87,88,89,90,91,92,93,94,95,96,97,98,99] [[],[],[0,1],[2],[],[3,4],[5],[6],[7],[8],[8],[8,10],[8],[8,11,12],[8,13],[8],[8,14,15],[8,16],[8,9,17],[8,18],[8],[8,20],[8],[8,21,22],[8,23],[8],[8,24,25],[8,26],[8,19,27],[8,28],[8,29]] [[],[],[0,1],[2,0,1],[],[3,2,0,1,4],[5,3,2,0,1,4],[6,5,3,2,0,1,4],[7,6,5,3,2,0,1,4],[8,7,6,5,3,2,0,1,4],[8,7,6,5,3,2,0,1,4],[8,7,6,5,3,2,0,1,4,10],[8,7,6,5,3,2,0,1,4],[8,7,6,5,3,2,0,1,4,11,10,12],[8,7,6,5,3,2,0,1,4,13,11,10,12],[8,7,6,5,3,2,0,1,4],[8,7,6,5,3,2,0,1,4,14,13,11,10,12,15],[8,7,6,5,3,2,0,1,4,16,14,13,11,10,12,15],[8,7,6,5,3,2,0,1,4,9,17,16,14,13,11,10,12,15],[8,7,6,5,3,2,0,1,4,18,9,17,16,14,13,11,10,12,15],[8,7,6,5,3,2,0,1,4],[8,7,6,5,3,2,0,1,4,20],[8,7,6,5,3,2,0,1,4],[8,7,6,5,3,2,0,1,4,21,20,22],[8,7,6,5,3,2,0,1,4,23,21,20,22],[8,7,6,5,3,2,0,1,4],[8,7,6,5,3,2,0,1,4,24,23,21,20,22,25],[8,7,6,5,3,2,0,1,4,26,24,23,21,20,22,25],[8,7,6,5,3,2,0,1,4,19,18,9,17,16,14,13,11,10,12,15,27,26,24,23,21,20,22,25],[8,7,6,5,3,2,0,1,4,28,19,18,9,17,16,14,13,11,10,12,15,27,26,24,23,21,20,22,25],[8,7,6,5,3,2,0,1,4,29,28,19,18,9,17,16,14,13,11,10,12,15,27,26,24,23,21,20,22,25]] cv ae qK mixed qK qK qK qK ?_ ?_
             ·intro wd X0;refine qZ (fun S s' w' hi hN X U V H=>?_) ?_
              ·replace X:=BX X;exact AH (AZ (U 4 rfl)) rfl
              refine qZ (fun S s' w' hi hN X U V H=>?_) ?_
              ·replace X:=BX X;exact AH (AZ (U 8 rfl)) rfl
              refine qZ (fun S s' w' hi hN X U V H=>?_) ?_
              ·replace X:=BX X;have bz:=(H 0 rfl).2 69 _ rfl (by rw[ae];rfl);have be:=(H 1 rfl).2 70 _ rfl (by rw[ae];rfl);exact AH (AC (i:=i) bz be rfl underlying122 EM qO qO) rfl
              refine qZ (fun S s' w' hi hN X U V H=>?_) ?_
              ·replace X:=BX X;have b0:=(H 2 rfl).2 71 _ rfl (by rw[ae];rfl);exact AH (AE b0 D3 ((Al.cell X (X0.cell a7)))) rfl
              refine qZ (fun S s' w' hi hN X U V H=>?_) ?_
              ·replace X:=BX X;exact AH (AZ (U 9 rfl)) rfl
              refine qZ (fun S s' w' hi hN X U V H=>?_) ?_
              ·replace X:=BX X;have bf:=(H 3 rfl).2 72 _ rfl (by rw[ae];rfl);have bb:=(H 4 rfl).2 73 _ rfl (by rw[ae];rfl);exact AH (AC (i:=j) bf bb rfl underlying87 EZ qO qO) rfl
              refine qZ (fun S s' w' hi hN X U V H=>?_) ?_
              ·replace X:=BX X;have b5:=(H 5 rfl).2 74 _ rfl (by rw[ae];rfl);exact AH (AE b5 E7 ((Al.cell X (X0.cell ak)))) rfl
              refine qZ (fun S s' w' hi hN X U V H=>?_) ?_
              ·replace X:=BX X;have bi:=(H 6 rfl).2 75 _ rfl (by rw[ae];rfl);exact AH (CM bi) rfl
              refine qZ (fun S s' w' hi hN X U V H=>?_) ?_
              ·replace X:=BX X;have bj:=(H 7 rfl).2 76 _ rfl (by rw[ae];rfl);exact AH (AZ bj) rfl
              refine DagStepsS.cons (Au.eq) (A_.const) (fun S s' w' hi hN X U V H=>Or.inl ⟨AX rfl rfl (d:=77) ((H 8 rfl).2 77 (eF (.bool true)) rfl (by rw[ae];rfl)),?_⟩) ?_
              ·replace X:=BX X;exact AH (AZ (U 4 rfl)) rfl
              refine DagStepsS.cons (Au.eq) (A_.const) (fun S s' w' hi hN X U V H=>Or.inl ⟨AX rfl rfl (d:=77) ((H 8 rfl).2 77 (eF (.bool true)) rfl (by rw[ae];rfl)),?_⟩) ?_
              ·replace X:=BX X;exact AH (AT (U 1 rfl) underlying48 rfl A' rfl) rfl
              refine DagStepsS.cons (Au.eq) (A_.const) (fun S s' w' hi hN X U V H=>Or.inl ⟨AX rfl rfl (d:=77) ((H 8 rfl).2 77 (eF (.bool true)) rfl (by rw[ae];rfl)),?_⟩) ?_
              ·replace X:=BX X;have df:=(H 10 rfl).2 79 _ rfl (by rw[ae];rfl);exact AH (AE df A4 (((X0.trans X).keep Bd).cell rfl)) rfl
              refine DagStepsS.cons (Au.eq) (A_.const) (fun S s' w' hi hN X U V H=>Or.inl ⟨AX rfl rfl (d:=77) ((H 8 rfl).2 77 (eF (.bool true)) rfl (by rw[ae];rfl)),?_⟩) ?_
              ·replace X:=BX X;exact AH (AZ (U 8 rfl)) rfl
              refine DagStepsS.cons (Au.eq) (A_.const) (fun S s' w' hi hN X U V H=>Or.inl ⟨AX rfl rfl (d:=77) ((H 8 rfl).2 77 (eF (.bool true)) rfl (by rw[ae];rfl)),?_⟩) ?_
              ·replace X:=BX X;have c2:=(H 11 rfl).2 80 _ rfl (by rw[ae];rfl);have co:=(H 12 rfl).2 81 _ rfl (by rw[ae];rfl);exact AH (AC (i:=i) c2 co rfl underlying46 Ay qO qO) rfl
              refine DagStepsS.cons (Au.eq) (A_.const) (fun S s' w' hi hN X U V H=>Or.inl ⟨AX rfl rfl (d:=77) ((H 8 rfl).2 77 (eF (.bool true)) rfl (by rw[ae];rfl)),?_⟩) ?_
              ·replace X:=BX X;have c3:=(H 13 rfl).2 82 _ rfl (by rw[ae];rfl);exact AH (AE c3 Ax ((Al.trans E (X0.trans X)).cell am)) rfl
              refine DagStepsS.cons (Au.eq) (A_.const) (fun S s' w' hi hN X U V H=>Or.inl ⟨AX rfl rfl (d:=77) ((H 8 rfl).2 77 (eF (.bool true)) rfl (by rw[ae];rfl)),?_⟩) ?_
              ·replace X:=BX X;exact AH (AZ (U 10 rfl)) rfl
              refine DagStepsS.cons (Au.eq) (A_.const) (fun S s' w' hi hN X U V H=>Or.inl ⟨AX rfl rfl (d:=77) ((H 8 rfl).2 77 (eF (.bool true)) rfl (by rw[ae];rfl)),?_⟩) ?_
              ·replace X:=BX X;have ct:=(H 14 rfl).2 83 _ rfl (by rw[ae];rfl);have da:=(H 15 rfl).2 84 _ rfl (by rw[ae];rfl);exact AH (AC (i:=x) ct da rfl underlying22 Ad qO qO) rfl
              refine DagStepsS.cons (Au.eq) (A_.const) (fun S s' w' hi hN X U V H=>Or.inl ⟨AX rfl rfl (d:=77) ((H 8 rfl).2 77 (eF (.bool true)) rfl (by rw[ae];rfl)),?_⟩) ?_
              ·replace X:=BX X;have ck:=(H 16 rfl).2 85 _ rfl (by rw[ae];rfl);exact AH (AE ck Ai ((Al.trans E (X0.trans X)).cell (bx x _ dh))) rfl
              refine DagStepsS.cons (Au.eq) (A_.const) (fun S s' w' hi hN X U V H=>Or.inl ⟨AX rfl rfl (d:=77) ((H 8 rfl).2 77 (eF (.bool true)) rfl (by rw[ae];rfl)),?_⟩) ?_
              ·replace X:=BX X;have cy:=(H 9 rfl).2 78 _ rfl (by rw[ae];rfl);have di:=(H 17 rfl).2 86 _ rfl (by rw[ae];rfl);exact AH (AC (i:=k1) cy di rfl underlying122 EM qO qO) rfl
              refine DagStepsS.cons (Au.eq) (A_.const) (fun S s' w' hi hN X U V H=>Or.inl ⟨AX rfl rfl (d:=77) ((H 8 rfl).2 77 (eF (.bool true)) rfl (by rw[ae];rfl)),?_⟩) ?_
              ·replace X:=BX X;have c0:=(H 18 rfl).2 87 _ rfl (by rw[ae];rfl);exact AH (AE c0 D3 ((Al.cell X (X0.cell b4)))) rfl
              refine DagStepsS.cons (Au.eq) (A_.const) (fun S s' w' hi hN X U V H=>Or.inl ⟨AX rfl rfl (d:=77) ((H 8 rfl).2 77 (eF (.bool true)) rfl (by rw[ae];rfl)),?_⟩) ?_
              ·replace X:=BX X;exact AH (AT (U 1 rfl) underlying48 rfl A' rfl) rfl
              refine DagStepsS.cons (Au.eq) (A_.const) (fun S s' w' hi hN X U V H=>Or.inl ⟨AX rfl rfl (d:=77) ((H 8 rfl).2 77 (eF (.bool true)) rfl (by rw[ae];rfl)),?_⟩) ?_
              ·replace X:=BX X;have cq:=(H 20 rfl).2 89 _ rfl (by rw[ae];rfl);exact AH (AE cq A4 (((X0.trans X).keep Bd).cell rfl)) rfl
              refine DagStepsS.cons (Au.eq) (A_.const) (fun S s' w' hi hN X U V H=>Or.inl ⟨AX rfl rfl (d:=77) ((H 8 rfl).2 77 (eF (.bool true)) rfl (by rw[ae];rfl)),?_⟩) ?_
              ·replace X:=BX X;exact AH (AZ (U 9 rfl)) rfl
              refine DagStepsS.cons (Au.eq) (A_.const) (fun S s' w' hi hN X U V H=>Or.inl ⟨AX rfl rfl (d:=77) ((H 8 rfl).2 77 (eF (.bool true)) rfl (by rw[ae];rfl)),?_⟩) ?_
              ·replace X:=BX X;have dj:=(H 21 rfl).2 90 _ rfl (by rw[ae];rfl);have cw:=(H 22 rfl).2 91 _ rfl (by rw[ae];rfl);exact AH (AC (i:=j) dj cw rfl underlying46 Ay qO qO) rfl
              refine DagStepsS.cons (Au.eq) (A_.const) (fun S s' w' hi hN X U V H=>Or.inl ⟨AX rfl rfl (d:=77) ((H 8 rfl).2 77 (eF (.bool true)) rfl (by rw[ae];rfl)),?_⟩) ?_
              ·replace X:=BX X;have cm:=(H 23 rfl).2 92 _ rfl (by rw[ae];rfl);exact AH (AE cm Ax ((Al.trans E (X0.trans X)).cell ap)) rfl
              refine DagStepsS.cons (Au.eq) (A_.const) (fun S s' w' hi hN X U V H=>Or.inl ⟨AX rfl rfl (d:=77) ((H 8 rfl).2 77 (eF (.bool true)) rfl (by rw[ae];rfl)),?_⟩) ?_
              ·replace X:=BX X;exact AH (AZ (U 10 rfl)) rfl
              refine DagStepsS.cons (Au.eq) (A_.const) (fun S s' w' hi hN X U V H=>Or.inl ⟨AX rfl rfl (d:=77) ((H 8 rfl).2 77 (eF (.bool true)) rfl (by rw[ae];rfl)),?_⟩) ?_
              ·replace X:=BX X;have dc:=(H 24 rfl).2 93 _ rfl (by rw[ae];rfl);have cn:=(H 25 rfl).2 94 _ rfl (by rw[ae];rfl);exact AH (AC (i:=x) dc cn rfl underlying22 Ad qO qO) rfl
              refine DagStepsS.cons (Au.eq) (A_.const) (fun S s' w' hi hN X U V H=>Or.inl ⟨AX rfl rfl (d:=77) ((H 8 rfl).2 77 (eF (.bool true)) rfl (by rw[ae];rfl)),?_⟩) ?_
              ·replace X:=BX X;have cr:=(H 26 rfl).2 95 _ rfl (by rw[ae];rfl);exact AH (AE cr Ai ((Al.trans E (X0.trans X)).cell (bn x _ c8))) rfl
              refine DagStepsS.cons (Au.eq) (A_.const) (fun S s' w' hi hN X U V H=>Or.inl ⟨AX rfl rfl (d:=77) ((H 8 rfl).2 77 (eF (.bool true)) rfl (by rw[ae];rfl)),?_⟩) ?_
              ·replace X:=BX X;have cj:=(H 19 rfl).2 88 _ rfl (by rw[ae];rfl);have cu:=(H 27 rfl).2 96 _ rfl (by rw[ae];rfl);exact AH (AC (i:=k2) cj cu rfl underlying87 EZ qO qO) rfl
              refine DagStepsS.cons (Au.eq) (A_.const) (fun S s' w' hi hN X U V H=>Or.inl ⟨AX rfl rfl (d:=77) ((H 8 rfl).2 77 (eF (.bool true)) rfl (by rw[ae];rfl)),?_⟩) ?_
              ·replace X:=BX X;have cx:=(H 28 rfl).2 97 _ rfl (by rw[ae];rfl);exact AH (AE cx E7 ((Al.cell X (X0.cell au)))) rfl
              refine qZ (fun S s' w' hi hN X U V H=>?_) ?_
              ·replace X:=BX X;have bh:=(H 8 rfl).2 77 _ rfl (by rw[ae];rfl);have cs:=(H 29 rfl).2 98 _ rfl (by rw[ae];rfl);exact AH (Ag bh cs) rfl
              exact DagStepsS.nil
             ·intro s' e5 w19 X0 ay U H;replace ay:=ay.mono (M':=Ab) (fun y _ h=>by
                obtain ⟨j,hj,h⟩:=h;exact h.elim)
              have bc:=H 30 rfl 99 _ rfl (by rw[ae];rfl);obtain ⟨j19,rfl⟩:=Ac.out (σ:=s') (l:=[(1,(.pointer (some ⟨bd,0,none⟩))),(4,(.slice (some ⟨bo,0,none⟩) n n)),(7,(.bool a4)),(8,(.int .i64 ((i:Nat):Int))),(9,(.int .i64 ((j:Nat):Int))),(52,(.int .i64 ((n:Nat):Int))),(53,(.int .i64 ((i:Nat):Int))),(57,(.int .i64 ((n:Nat):Int))),(58,(.int .i64 ((j:Nat):Int))),(65,(.int .i64 ((c:Nat):Int))),(66,(.int .i64 ((x:Nat):Int))),(99,(.bool false))]) ⟨U 1 rfl,U 4 rfl,U 7 rfl,U 8 rfl,U 9 rfl,U 52 rfl,U 53 rfl,U 57 rfl,U 58 rfl,U 65 rfl,U 66 rfl,bc,trivial⟩;clear U H;replace Bd:=(X0.trans ay).keep Bd;replace hB:=hB.ext (X0.trans ay);replace ai:=Nat.le_trans ai (X0.trans ay).size;replace ay:=X0.trans ay;replace E:=E.ext ay;refine AA (AB (AW rfl (AM (AN (AB (AJ (qV (Ar rfl rfl (A5 qO)) (qM _ rfl (AA (AB ?_))))))))));exact ⟨c - (x+1),qO,a4,ar,x+1,Ac.out ⟨rfl,rfl,rfl,rfl,rfl,rfl,rfl,rfl,rfl,rfl,rfl,trivial⟩,E,Bd,qO,hB,hI.skip (fun h9=>by rw[ci,cz] at h9;rw[Int.toNat_natCast,Int.toNat_natCast,a5] at h9;cases h9),ai,rfl⟩
          ·have fi:x=c:=qO
           rw[fi] at hI;refine Ak (AP (AP (Ae (AN (AB (AJ (qV (Ar rfl rfl (A5 qO)) (qM _ rfl (AA (AB ?_))))))))));exact ⟨n - (j+1),qO,a4,ar,j+1,Ac.out ⟨rfl,rfl,rfl,rfl,rfl,rfl,rfl,rfl,trivial⟩,E,Bd,qO,hB,hI.col,ai,rfl⟩
        ·have e2:j=n:=qO
         rw[e2] at hI;refine Ak (AP (AP (Ae (AN (AB (AJ (qV (Ar rfl rfl (A5 qO)) (qM _ rfl (AA (AB ?_))))))))));exact ⟨n - (i+1),qO,a3,b3,i+1,Ac.out ⟨rfl,rfl,rfl,rfl,rfl,trivial⟩,E,Bd,qO,hB,hI.line,ai,rfl⟩
      ·have eb:i=n:=qO
       rw[eb] at hI;have hms:=hI.mes;have ei:ag.toNat=1:=by rw[b6];rfl
       refine Ak (AP (AP (Ae (AN (AB ?_)))));exact ⟨Di a9+a2.toNat,qO,a2,a9,Ac.out ⟨rfl,rfl,rfl,trivial⟩,E,Bd,hB,hI.far,hI.all,ai,rfl⟩
    ·have db:=b6;refine Ak (AP (AP (Ae (AB (Y (qM _ rfl (qA _ rfl (AA (AS (AY results127 (v:=(.slice (some ⟨bo,0,none⟩) n n)) rfl ?_))))))))));exact ⟨⟨bo,bs,T,rfl,hB.low d3.1,hF,c1 b6⟩,E⟩
end Go.Proofs
