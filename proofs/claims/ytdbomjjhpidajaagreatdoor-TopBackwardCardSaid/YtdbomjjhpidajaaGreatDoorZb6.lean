/- Contracts and plain lemmas, part 6. -/
import Derived.Test.YtdbomjjhpidajaaGreatDoorZb5
open Go.Proofs.Tryz
set_option maxHeartbeats 16000000
namespace Go.Proofs
open Go Go.Eng Go.Sort
set_option maxRecDepth 100000
theorem zIl {w:World} {b o:Nat} {c:Array Value} {t:TypeId} (h:Blk w b c t):w.cell? ⟨b,o,none⟩=c[o]?:=by
 unfold Blk at h;simp[World.cell?,h]
theorem zJV {w w':World} {k:Nat} {v:Value} {rows:List (List Value)} (h:zCQ w k v rows) (hc:∀b o r,r∈rows→zAz w b o r→zAz w' b o r):zCQ w' k v rows:=by
 obtain ⟨a,ab,hv,hl,aa,h⟩:=h;refine ⟨a,ab,hv,hl,aa,?_⟩;rcases h with h|⟨b,o,ha,h⟩
 ·exact .inl h
 ·exact .inr ⟨b,o,ha,fun i r hr=>hc _ _ r (List.mem_of_getElem? hr) (h i r hr)⟩
theorem zQK {w w':World} {br T:Nat} {x:Int} {v:Value} {cs:List (List Sp)} (h:zBl w v cs) (hne:∀l∈cs,l≠[]) (hB:Blk w br #[.int .i64 x,.slice none 0 0,.slice none 0 0] T) (c:Chg (fun y=>y=br) w w'):zBl w' v cs:=by
  obtain ⟨us,h1,h2,h3⟩:=h;have ab:∀(u:Value) (l:List Sp),zBc w u l→zBc w' u l:=fun u l h=>zJV h fun b o r hr aa=>by
    by_cases e:b=br
    · subst e;obtain ⟨s,_,rfl⟩:=List.mem_map.1 hr;have a0:=aa 0 _ rfl;have a1:=aa 1 _ rfl;rw[zIl hB] at a0 a1;exfalso
      match o with
      | 0=>simp at a1
      | 1=>simp at a0
      | 2=>simp at a0
      | o+3=>simp at a0
    · exact aa.chg c e
  refine ⟨us,zJV h1 fun b o r hr aa=>?_,h2,fun i u l hu hl=>ab u l (h3 i u l hu hl)⟩;by_cases e:b=br
  · subst e;obtain ⟨u,hu,rfl⟩:=List.mem_map.1 hr;obtain ⟨i,hi⟩:=List.getElem?_of_mem hu;obtain ⟨l,hl⟩:=zAJ (l:=cs) (i:=i) (by rw[←h2];exact zAE hi);obtain ⟨a,cap,hv,_⟩:=h3 i u l hi hl;have hn:=List.length_pos_iff.2 (hne l (List.mem_of_getElem? hl));have a0:=aa 0 _ rfl;rw[zIl hB,hv] at a0;exfalso
    match o with
    | 0=>simp at a0
    | 1=>simp at a0;omega
    | 2=>simp at a0;omega
    | o+3=>simp at a0
  · exact aa.chg c e
def OfR (t:Re) (m:Nat) (r:Value) (w:World):Prop:=
 (∃e,(zCv t 40≠0∧e=zCv t 40∨zCv t 40=0∧zDv [10] t=true∧e=3∨zCv t 40=0∧zDv [10] t=false∧((∃out,zNJ (zCq t) out 2)∨∃cs,zNJ (zCq t) cs 0∧trO cs.length cs t=none)∧e=2)∧r=.tuple #[.agg #[.int .i64 0,.slice none 0 0,.slice none 0 0],.slice none 0 0,.int .i64 e])∨
 (zCv t 40=0∧zDv [10] t=false∧∃(cs:List (List Sp)) (d:Dfa) (ca:Option Addr) (cc:Nat) (ea:Option Addr) (ec:Nat) (na:Option Addr) (nc:Nat),zNJ (zCq t) cs 0∧trO cs.length cs t=some d∧GoodD cs.length d∧d.next.length≤200∧1≤cs.length∧cs.length≤16∧
  r=.tuple #[.agg #[.int .i64 d.start,.slice ea d.accept.length ec,.slice na d.next.length nc],.slice ca cs.length cc,.int .i64 0]∧zBW (fun b=>m≤b) w d [.int .i64 d.start,.slice ea d.accept.length ec,.slice na d.next.length nc]∧zBl w (.slice ca cs.length cc) cs)
theorem zNH (w0:World) (t:Re) (vs:List Value) (ht:zBm w0 t vs) :
  Ret prog 10 #[.agg vs.toArray] w0 fun r w=>OfR t w0.heap.size r w∧Ext w0 w:=by
 have am:=ht;obtain ⟨sa,sc,aa,ac,rfl,_,_,_⟩:=ht.form;refine qR func10 rfl ntmps10 rfl (fun E=>(zAA (zBY (v:=(.agg (R6 t sa sc aa ac))) (c:=(R6 t sa sc aa ac)) qD rfl rfl ?_)));intro bq wq Nq;have Fq:=Nq.ge E;replace E:=E.ext Nq.ext;have Bq:=Nq.blk;refine zBB (c:=#[(I6 0),(.slice none 0 0),(.slice none 0 0)]) qD zBn rfl ?_;intro br wr Nr;have Fr:=Nr.ge E;have Or_bq:=Nr.lt Bq;replace Bq:=Nr.keep Bq;replace E:=E.ext Nr.ext;have Br:=Nr.blk;refine qA _ rfl (qA _ rfl (zAB (zAH (zAA (qV (zAP (vs:=[(I6 t.kind),(.slice sa t.set.length sc),(.slice aa t.args.length ac),(I6 t.mn),(I6 t.mx),(.bool t.neg)]) rfl zBZ zAp rfl (Bq.cells rfl)) (qE rfl (zAU func30 kQ kQ rfl) (zNK _ t _ (zBm.ext E t am)) ?_))))));rintro _ w9 ⟨rfl,X9⟩;replace Bq:=X9.keep Bq;replace Br:=X9.keep Br;replace E:=E.ext X9;refine qA _ rfl (zAB (zAA (qM _ rfl (qV (zEY rfl rfl) (zAB (qC rfl (fun he=>?_) (fun he=>?_)))))))
 ·refine zAA (qV (zBF (ps:=[]) (v:=(.agg #[(I6 0),(.slice none 0 0),(.slice none 0 0)])) rfl qK) (qM _ rfl (zAa (b:=br) (o:=0) (c':=#[(I6 0),(.slice none 0 0),(.slice none 0 0)]) rfl rfl qS zAi rfl Br qL rfl ?_)));intro w2 S2;replace Bq:=S2.keep qO Bq;replace E:=S2.step E qQ;replace Br:=S2.blk;refine qA _ rfl (qA _ rfl (zAB (zAW (zAX (zDa results10 (vs:=[(.int .i64 0),(.slice none 0 0),(.slice none 0 0)]) (b:=br) (v':=(.slice none 0 0)) (v'':=(.int .i64 (zCv t 40))) rfl zBC zAi rfl (Br.cells rfl) rfl rfl ?_)))));exact ⟨.inl ⟨_,.inl ⟨he,rfl⟩,rfl⟩,E⟩
 ·have ah:zCv t 40=0:=qO
  obtain ⟨aw,hsz⟩:=(zDP qD qD).1 ah;have hv:=zFJ aw;have ab:=zHz hv;have aq:=zNd t;have ar:=zTm ab;refine zAO (zAC (zAH (zAA (qV (zAP (vs:=[(I6 t.kind),(.slice sa t.set.length sc),(.slice aa t.args.length ac),(I6 t.mn),(I6 t.mx),(.bool t.neg)]) rfl zBZ zAp rfl (Bq.cells rfl)) (zAc (ps:=[(0,(I6 10))]) (c:=#[(I6 10)]) qD rfl underlying22 zAv zDJ qD qD qK ?_)))));intro bk wk Nk;have Fk:=Nk.ge E;have Ok_bq:=Nk.lt Bq;have Ok_br:=Nk.lt Br;replace Bq:=Nk.keep Bq;replace Br:=Nk.keep Br;replace E:=E.ext Nk.ext;have Bk:=Nk.blk;refine qE rfl (zAU func31 kQ kQ rfl) (zUg _ t _ [10] _ (zBm.ext E t am) (zFh Bk rfl qD)) ?_;rintro _ w19 ⟨rfl,al⟩;replace Bq:=al.keep Bq;replace Br:=al.keep Br;replace Bk:=al.keep Bk;replace E:=E.ext al;refine zAB (zAx rfl (fun hu=>?_) (fun hu=>?_))
  ·have a2:=hu;refine zAA (qV (zBF (ps:=[]) (v:=(.agg #[(I6 0),(.slice none 0 0),(.slice none 0 0)])) rfl qK) (zAa (b:=br) (o:=0) (c':=#[(I6 0),(.slice none 0 0),(.slice none 0 0)]) rfl rfl qS zAi rfl Br qL rfl ?_));intro w4 S4;replace Bq:=S4.keep qO Bq;replace Bk:=S4.keep qO Bk;replace E:=S4.step E qQ;replace Br:=S4.blk;refine qA _ rfl (qA _ rfl (zAB (zAW (zAX (zDa results10 (vs:=[(.int .i64 0),(.slice none 0 0),(.slice none 0 0)]) (b:=br) (v':=(.slice none 0 0)) (v'':=(.int .i64 3)) rfl zBC zAi rfl (Br.cells rfl) rfl rfl ?_)))));exact ⟨.inl ⟨3,.inr (.inl ⟨ah,hu,rfl⟩),rfl⟩,E⟩
  ·have a2:=hu;refine zAO (zAC (zAA (qV (zAP (vs:=[(I6 t.kind),(.slice sa t.set.length sc),(.slice aa t.args.length ac),(I6 t.mn),(I6 t.mx),(.bool t.neg)]) rfl zBZ zAp rfl (Bq.cells rfl)) (qE rfl (zAU func34 kQ kQ rfl) ((zZY _ t _ (zBm.ext E t am) hv qO).mono (R':=fun v w=>(∃a c,v=.slice a (zCq t).length c∧zBl w (.slice a (zCq t).length c) (zCq t))∧Ext _ w) (fun v w h=>⟨by obtain ⟨a,c,h1,_⟩:=h.1.form;exact ⟨a,c,h1,h1▸h.1⟩,h.2⟩)) ?_))));rintro _ w29 ⟨⟨a9,c9,rfl,a4⟩,aj⟩;replace Bq:=aj.keep Bq;replace Br:=aj.keep Br;replace Bk:=aj.keep Bk;replace E:=E.ext aj;refine qE rfl (zAU func17 kQ kQ rfl) (zWm _ _ (zCq t) a4 qO qO) ?_;rintro _ a3 ⟨⟨cs,e,ae,ca,cc,rfl,ad⟩,ai⟩;replace Bq:=ai.keep Bq;replace Br:=ai.keep Br;replace Bk:=ai.keep Bk;replace E:=E.ext ai;refine qM _ rfl (qV (zAb rfl rfl) (qV (zAb rfl rfl) (qA _ rfl (qA _ rfl (zAB (zAH (zAA (qM _ rfl (qV (zEY rfl rfl) (zAB (qC rfl (fun av=>?_) (fun av=>?_))))))))))))
   ·have ak:=zUA ae ab av;refine zAA (qV (zBF (ps:=[]) (v:=(.agg #[(I6 0),(.slice none 0 0),(.slice none 0 0)])) rfl qK) (qM _ rfl (zAa (b:=br) (o:=0) (c':=#[(I6 0),(.slice none 0 0),(.slice none 0 0)]) rfl rfl qS zAi rfl Br qL rfl ?_)));intro w6 S6;replace Bq:=S6.keep qO Bq;replace Bk:=S6.keep qO Bk;replace E:=S6.step E qQ;replace Br:=S6.blk;refine qA _ rfl (qA _ rfl (zAB (zAW (zAX (zDa results10 (vs:=[(.int .i64 0),(.slice none 0 0),(.slice none 0 0)]) (b:=br) (v':=(.slice none 0 0)) (v'':=(.int .i64 e)) rfl zBC zAi rfl (Br.cells rfl) rfl rfl ?_)))));exact ⟨.inl ⟨e,.inr (.inr ⟨ah,hu,.inl ⟨cs,by rw[←ak];exact ae⟩,ak⟩),rfl⟩,E⟩
   ·have ak:e=0:=qO
    rw[ak] at ae;obtain ⟨au,af⟩:=zWl ae ab rfl;have ax:=zTz au (zVB ab);have az:1≤cs.length:=by
     obtain ⟨cl,hm,_⟩:=zWj (c:=0) au (zVB ab) qD qD;exact List.length_pos_of_mem hm
    refine zAO (zAC (zAA (qV (zAP (vs:=[(I6 t.kind),(.slice sa t.set.length sc),(.slice aa t.args.length ac),(I6 t.mn),(I6 t.mx),(.bool t.neg)]) rfl zBZ zAp rfl (Bq.cells rfl)) (qM _ rfl ?_))));obtain ⟨n9,ap⟩:∃n9,n9=(a3).heap.size:=⟨_,rfl⟩;have hlt:w0.heap.size≤n9∧br<n9:=⟨by rw[ap];exact E.size,by rw[ap];exact Br.lt⟩;refine qE rfl (zAU func35 kQ kQ rfl) ((zXu _ cs t _ ca cc ⟨az,af⟩ (fun l hl=>(ax l hl).1) aw qO ad (zBm.ext E t am)).mono (R':=fun r w=>(∃(d:Dfa) (ea:Option Addr) (ec:Nat) (na:Option Addr) (nc:Nat) (e:Int),r=.tuple #[.agg #[.int .i64 d.start,.slice ea d.accept.length ec,.slice na d.next.length nc],.int .i64 e]∧((e=0∧trO cs.length cs t=some d∧GoodD cs.length d∧d.next.length≤200∧zBW (fun b=>n9≤b) w d [.int .i64 d.start,.slice ea d.accept.length ec,.slice na d.next.length nc])∨(e=2∧trO cs.length cs t=none)))∧Ext _ w) (fun r w h=>⟨by
     rcases h.1 with ⟨d,ea,ec,na,nc,h1,h2,h3,h4,h5⟩|⟨h1,h2⟩
     ·exact ⟨d,ea,ec,na,nc,0,h4,.inl ⟨rfl,h1,h2,h3,by rw[ap];exact h5⟩⟩
     ·exact ⟨⟨0,[],[]⟩,none,0,none,0,2,h2,.inr ⟨rfl,h1⟩⟩,h.2⟩)) ?_
    rintro _ w49 ⟨⟨d,ea,ec,na,nc,e9,rfl,ay⟩,ag⟩;replace Bq:=ag.keep Bq;replace Br:=ag.keep Br;replace Bk:=ag.keep Bk;replace E:=E.ext ag;replace ad:=ad.ext ag;refine qM _ rfl (qV (zAb rfl rfl) (qV (zAb rfl rfl) (zAd (v:=(.agg #[(I6 d.start),(.slice ea d.accept.length ec),(.slice na d.next.length nc)])) (c:=#[(I6 d.start),(.slice ea d.accept.length ec),(.slice na d.next.length nc)]) (n:=3) qD zBn rfl zAi rfl rfl rfl qS ?_)));intro bd wd Nd;have Fd:=Nd.ge E;have Od_bq:=Nd.lt Bq;have Od_br:=Nd.lt Br;have Od_bk:=Nd.lt Bk;replace Bq:=Nd.keep Bq;replace Br:=Nd.keep Br;replace Bk:=Nd.keep Bk;replace ad:=ad.ext Nd.ext;replace E:=E.ext Nd.ext;have Bd:=Nd.blk;refine qA _ rfl (zAB (zAH (zAA (qM _ rfl (qV (zEY rfl rfl) (zAB (qC rfl (fun an=>?_) (fun an=>?_))))))))
    ·have a0:e9=2∧trO cs.length cs t=none:=by rcases ay with h|h;exact absurd h.1 an;exact h
     refine zAA (qV (zBF (ps:=[]) (v:=(.agg #[(I6 0),(.slice none 0 0),(.slice none 0 0)])) rfl qK) (qM _ rfl (zAa (b:=br) (o:=0) (c':=#[(I6 0),(.slice none 0 0),(.slice none 0 0)]) rfl rfl qS zAi rfl Br qL rfl ?_)));intro w8 S8;replace Bq:=S8.keep qO Bq;replace Bk:=S8.keep qO Bk;replace Bd:=S8.keep qO Bd;replace E:=S8.step E qQ;replace Br:=S8.blk;refine qA _ rfl (qA _ rfl (zAB (zAW (zAX (zDa results10 (vs:=[(.int .i64 0),(.slice none 0 0),(.slice none 0 0)]) (b:=br) (v':=(.slice none 0 0)) (v'':=(.int .i64 e9)) rfl zBC zAi rfl (Br.cells rfl) rfl rfl ?_)))));exact ⟨.inl ⟨e9,.inr (.inr ⟨ah,hu,.inr ⟨cs,ae,a0.2⟩,a0.1⟩),rfl⟩,E⟩
    ·obtain ⟨_,hd,gd,a1,hD⟩:=ay.resolve_right (fun h=>an (by rw[h.1];decide));replace hD:=hD.ext Nd.ext;have ao:=Br;refine zAO (zAC (zAA (qV (zAP (vs:=[(I6 d.start),(.slice ea d.accept.length ec),(.slice na d.next.length nc)]) rfl zBC zAi rfl (Bd.cells rfl)) (qM _ rfl (zAa (b:=br) (o:=0) (c':=#[(I6 d.start),(.slice ea d.accept.length ec),(.slice na d.next.length nc)]) rfl rfl qS zAi rfl Br qL rfl ?_)))));intro w9 S9;replace hD:=hD.put S9.chg fun y h1 h=>by have h':y=_:=h;omega
     replace ad:=zQK ad (fun l hl=>(ax l hl).1) ao S9.chg;replace Bq:=S9.keep qO Bq;replace Bk:=S9.keep qO Bk;replace Bd:=S9.keep qO Bd;replace E:=S9.step E qQ;replace Br:=S9.blk;refine qA _ rfl (qA _ rfl (zAB (zAW (zDa results10 (vs:=[(.int .i64 d.start),(.slice ea d.accept.length ec),(.slice na d.next.length nc)]) (b:=br) (v':=(.slice ca cs.length cc)) (v'':=(.int .i64 0)) rfl zBC zAi rfl (Br.cells rfl) rfl rfl ?_))));exact ⟨.inr ⟨ah,hu,cs,d,ca,cc,ea,ec,na,nc,ae,hd,gd,a1,az,af,rfl,hD.mono fun b hb=>by have hb':n9≤b:=hb;omega,ad⟩,E⟩
end Go.Proofs
namespace Go.Proofs
open Go Go.Eng Go.Sort
set_option maxRecDepth 100000
def unnP (s:List Sp) (cs:List (List Sp)):Prop:=∀x∈cs,∀o,zHQ o (fun r=>inS s r && inS x r)→o=[]∨o=x
open Classical in
noncomputable def unnB (s:List Sp) (cs:List (List Sp)):Bool:=decide (unnP s cs)
open Classical in
open Classical in
open Classical in
noncomputable def OvE (t:Re) (cs:List (List Sp)):Int:=if zCv t 40≠0 then zCv t 40 else if partE cs≠0 then partE cs else if zDv [10] t=true∨(zCq t).any (fun s=>!unnB s cs)=true then 3 else if trO cs.length cs t=none then 2 else 0
end Go.Proofs
namespace Go.Proofs
open Go Go.Eng Go.Sort
set_option maxRecDepth 100000
theorem zTo (w0:World) (v1 v2:Value) (l1 l2:List (List Sp)) (h1:zBl w0 v1 l1) (h2:zBl w0 v2 l2) (n1 n2:Nat) (a1 a2:Option Addr) (c1 c2:Nat) (e1:v1=.slice a1 n1 c1) (e2:v2=.slice a2 n2 c2) (hn1:l1.length=n1) (hn2:l2.length=n2) (hb:n1≤20000) :
  Ret prog 13 #[v1,v2,.func (.func 14) #[] #[]] w0 fun v w=>v=.bool (decide (l1=l2))∧Ext w0 w:=by
 subst e1;subst e2;refine qR func13 rfl ntmps13 rfl (fun E=>(zAA (qA _ rfl (zAB (zAH (zAA (qM _ rfl (qV (zAK underlying35 rfl) (qM _ rfl (qV (zAK underlying35 rfl) (qV (zEY rfl rfl) (zAB (qC rfl (fun hl=>?_) (fun hl=>?_))))))))))))))
 ·refine zAA (qA _ rfl (zAB (zAW (zAX (zAZ results13 (v:=(.bool false)) rfl ?_)))));exact ⟨zBx (by symm;rw[decide_eq_false_iff_not];intro h;rw[h] at hn1;omega),E⟩
 ·refine zAO (zAC (zAH (zAA (qM _ rfl (qV (zAK underlying35 rfl) (qM _ rfl (zAB (zAT (zAo (fun nn_ σ W2=>∃(k:Nat),(∃jj_,σ=zCT jj_ [(1,(.slice a2 n2 c2)),(2,(.func (.func 14) #[] #[])),(15,(.slice a1 n1 c1)),(16,(I6 (n1:Int))),(17,(I6 (k:Int)))])∧Chg zAe w0 W2∧(k≤n1)∧(∀(i:Nat),i<k→l1[i]?=l2[i]?)∧nn_=n1 - k) (n:=n1 - 0) ?_ ?_)))))))))
  ·exact ⟨0,zAs.out ⟨rfl,rfl,rfl,rfl,rfl,trivial⟩,E,Nat.zero_le _,(fun i h=>absurd h (Nat.not_lt_zero _)),rfl⟩
  ·clear E;rintro _ _ W2 ⟨k,⟨j2,rfl⟩,E,hk,ad,rfl⟩;refine zAA (qV (zBA rfl rfl) (zAB (zAH (qC rfl (fun ah=>?_) (fun ah=>?_)))))
   ·obtain ⟨p,hp⟩:=zAJ (l:=l1) (i:=k) qO;obtain ⟨q,hq⟩:=zAJ (l:=l2) (i:=k) qO;obtain ⟨b1,o1,rfl,ak⟩:=zDK h1 qO;obtain ⟨b2,o2,rfl,aj⟩:=zDK h2 qO;obtain ⟨ra1,rc1,af,ag⟩:=ak k p hp;obtain ⟨ra2,rc2,ae,ai⟩:=aj k q hq;refine zAO (zAC (zAH (zAT (zAA (qM _ rfl (qV (zAD (b:=b1) (o:=o1) (len:=n1) (cap:=c1) (i:=k) (o':=o1+k) rfl rfl rfl underlying35 zCi qO qO) (qV (zAG rfl zCs (E.cell (fun f=>f) af)) (qA _ rfl (qA _ rfl (zAB (zAA (qM _ rfl (qM _ rfl (qV (zAD (b:=b2) (o:=o2) (len:=n2) (cap:=c2) (i:=k) (o':=o2+k) rfl rfl rfl underlying35 zCi qO qO) (qV (zAG rfl zCs (E.cell (fun f=>f) ae)) (qA _ rfl (zAB (zAA (qM _ rfl (qM _ rfl ?_))))))))))))))))))));refine qM _ rfl (qE rfl (zCy rfl func14 kQ kQ rfl rfl) (zUh _ _ _ p q (ag.ext E) (ai.ext E)) ?_);rintro _ w9 ⟨rfl,X9⟩;replace E:=E.ext X9;refine qV (zCa rfl) (zAB (zAx rfl (fun aa=>?_) (fun aa=>?_)))
    ·have ac:=aa;replace aa:=by simpa using aa
     refine zAA (qA _ rfl (zAB (zAW (zAh (zAX (zAX (zAh (zAX (zAZ results13 (v:=(.bool false)) rfl ?_)))))))));exact ⟨zBx (by symm;rw[decide_eq_false_iff_not];intro h;rw[h] at hp;rw[hp] at hq;exact aa (Option.some.inj hq)),E⟩
    ·have ac:=aa;replace aa:=by simpa using aa
     refine zAO (zAS (zAC (zAF (qV (zAw rfl rfl (zBf qO)) (qM _ rfl (zAB (zAC ?_)))))));exact ⟨n1 - (k+1),qO,k+1,zAs.out ⟨rfl,rfl,rfl,rfl,rfl,trivial⟩,E,qO,(fun i hi=>by rcases Nat.lt_or_ge i k with h|h;exact ad i h;(have h':i=k:=qO);subst h';(have ab:p=q:=by simpa using aa);rw[hp,hq,ab]),rfl⟩
   ·refine zAl (zAV (zAV (zAf (zAC (zAA (qA _ rfl (zAB (zAW (zAZ results13 (v:=(.bool true)) rfl ?_)))))))));exact ⟨zBx (by symm;rw[decide_eq_true_iff];apply List.ext_getElem?;intro i;rcases Nat.lt_or_ge i n1 with h|h;exact ad i qO;rw[List.getElem?_eq_none qO,List.getElem?_eq_none qO]),E⟩
theorem zRP (w0:World) (a b:Dfa) (av bv:List Value) (ha:zBV w0 a av) (hb:zBV w0 b bv) (hn:a.next.length≤20000) :
  Ret prog 12 #[.agg av.toArray,.agg bv.toArray] w0 fun v w=>v=.bool (decide (a=b))∧Ext w0 w:=by
 obtain ⟨aa,ac,na,nc,rfl,hA,hR⟩:=ha;obtain ⟨ah,ai,ag,aj,rfl,ak,al⟩:=hb;refine qR func12 rfl ntmps12 rfl (fun E=>(zAA (zBY (v:=(.agg #[(I6 a.start),(.slice aa a.accept.length ac),(.slice na a.next.length nc)])) (c:=#[(I6 a.start),(.slice aa a.accept.length ac),(.slice na a.next.length nc)]) qD rfl rfl ?_)));intro bp wp Np;replace E:=E.ext Np.ext;have Bp:=Np.blk;refine zBY (v:=(.agg #[(I6 b.start),(.slice ah b.accept.length ai),(.slice ag b.next.length aj)])) (c:=#[(I6 b.start),(.slice ah b.accept.length ai),(.slice ag b.next.length aj)]) qD rfl rfl ?_;intro bq wq Nq;replace Bp:=Nq.keep Bp;replace E:=E.ext Nq.ext;have Bq:=Nq.blk;refine qA _ rfl (zAB (zAA (qF bp 0 0 rfl underlying34 rfl zAv rfl (qV (zAG rfl zAm (Bp.cell rfl)) (qF bq 0 0 rfl underlying34 rfl zAv rfl (qV (zAG rfl zAm (Bq.cell rfl)) (qV (zAq rfl rfl) (qM _ rfl ?_))))))));rcases Bool.eq_false_or_eq_true (decide ((a.start:Int)=b.start)) with hs|hs
 ·have ae:=hs;replace ae:=of_decide_eq_true ae;refine zAL rfl rfl qD (cbk hs) (qF bp 0 1 rfl underlying34 rfl zBE rfl (zAL rfl rfl qD (cbk hs) (qV (zAG rfl zBI (Bp.cell rfl)) (zAL rfl rfl qD (cbk hs) (qF bq 0 1 rfl underlying34 rfl zBE rfl (zAL rfl rfl qD (cbk hs) (qV (zAG rfl zBI (Bq.cell rfl)) (zAL rfl rfl qD (cbk hs) (qE rfl (zAU func25 kQ kQ rfl) (zVC _ _ _ a.accept b.accept (hA.ext E) (ak.ext E)) ?_)))))))));rintro _ w9 ⟨rfl,X9⟩;replace Bp:=X9.keep Bp;replace Bq:=X9.keep Bq;replace E:=E.ext X9;refine qV (zAr (v:=(.bool (decide (a.accept=b.accept)))) rfl (by rw[hs];rfl)) (qM _ rfl ?_);rcases Bool.eq_false_or_eq_true (decide (a.accept=b.accept)) with ad|ad
  ·have ab:=ad;replace ab:=of_decide_eq_true ab;refine zAL rfl rfl qD (cbk ad) (qF bp 0 2 rfl underlying34 rfl zBr rfl (zAL rfl rfl qD (cbk ad) (qV (zAG rfl zBh (Bp.cell rfl)) (zAL rfl rfl qD (cbk ad) (qF bq 0 2 rfl underlying34 rfl zBr rfl (zAL rfl rfl qD (cbk ad) (qV (zAG rfl zBh (Bq.cell rfl)) (zAL rfl rfl qD (cbk ad) (qE rfl (zAU func41 kQ kQ rfl) (zTp _ _ _ a.next b.next (hR.ext E) (al.ext E) _ _ _ _ _ _ rfl rfl rfl rfl hn) ?_)))))))));rintro _ w19 ⟨rfl,af⟩;replace Bp:=af.keep Bp;replace Bq:=af.keep Bq;replace E:=E.ext af;refine qV (zAr (v:=(.bool (decide (a.next=b.next)))) rfl (by rw[ad];rfl)) (qA _ rfl (zAB (zAW (zAZ results12 (v:=(.bool (decide (a.next=b.next)))) rfl ?_))));exact ⟨zBx (by rw[Bool.eq_iff_iff,decide_eq_true_iff,decide_eq_true_iff,zFg];exact ⟨fun h=>⟨ae,ab,h⟩,fun h=>h.2.2⟩),E⟩
  ·have ab:=ad;replace ab:=of_decide_eq_false ab;refine zAM rfl rfl qD (v:=.bool false) (cbk ad) (Or.inl rfl) (zAM rfl rfl qD (v:=.bool false) (cbk ad) (Or.inl rfl) (zAM rfl rfl qD (v:=.bool false) (cbk ad) (Or.inl rfl) (zAM rfl rfl qD (v:=.bool false) (cbk ad) (Or.inl rfl) (zAM rfl rfl qD (v:=.bool false) (cbk ad) (Or.inl rfl) (qV (zAr (v:=(.bool false)) rfl (by rw[ad];rfl)) (qA _ rfl (zAB (zAW (zAZ results12 (v:=(.bool false)) rfl ?_)))))))));exact ⟨zBx (by symm;rw[decide_eq_false_iff_not];intro h;rw[zFg] at h;exact ab h.2.1),E⟩
 ·have ae:=hs;replace ae:=of_decide_eq_false ae;refine zAM rfl rfl qD (v:=.bool false) (cbk hs) (Or.inl rfl) (zAM rfl rfl qD (v:=.bool false) (cbk hs) (Or.inl rfl) (zAM rfl rfl qD (v:=.bool false) (cbk hs) (Or.inl rfl) (zAM rfl rfl qD (v:=.bool false) (cbk hs) (Or.inl rfl) (zAM rfl rfl qD (v:=.bool false) (cbk hs) (Or.inl rfl) (qV (zAr (v:=(.bool false)) rfl (by rw[hs];rfl)) (qM _ rfl (zAM rfl rfl qD (v:=.bool false) rfl (Or.inl rfl) (zAM rfl rfl qD (v:=.bool false) rfl (Or.inl rfl) (zAM rfl rfl qD (v:=.bool false) rfl (Or.inl rfl) (zAM rfl rfl qD (v:=.bool false) rfl (Or.inl rfl) (zAM rfl rfl qD (v:=.bool false) rfl (Or.inl rfl) (qV (zAr rfl rfl) (qA _ rfl (zAB (zAW ?_)))))))))))))));refine zAZ results12 (v:=(.bool false)) rfl ?_;exact ⟨zBx (by symm;rw[decide_eq_false_iff_not];intro h;rw[zFg] at h;exact ae h.1),E⟩
end Go.Proofs
namespace Go.Proofs
open Go Go.Eng Go.Sort
set_option maxRecDepth 100000
def zVE:List (List Sp):=[[(0,96),(98,1114111)],[(97,97)]]
theorem zWk {out:List (List Sp)} {e:Int} (h:zNJ [[(97,97)]] out e):e=0∧out=zVE:=by
 have c1:Canon [((97:Int),(97:Int))]:=Canon.one (by unfold vSp;simp);rcases h with ⟨h1,_⟩|⟨_,cs,hc,hf⟩
 ·refine absurd (zFV fun l hl=>?_) h1;simp at hl;subst hl;exact zRv c1 qP
 ·obtain ⟨p,hp,hl,hm⟩:=hc;have e1:p=[0,97,98]:=zIT hp.1 qP fun x=>by
   rw[hp.2 x];unfold zJw;simp
  subst e1;have e2:zDA (([0,97,98]:List Int).map (zBL [[(97,97)]]))=[[false],[true]]:=qD
  rw[e2] at hl hm;have mk:∀r,zBL [[(97,97)]] r=[decide (97≤r) && decide (r≤97)]:=fun r=>by simp[zBL,inS]
  obtain ⟨x,y,rfl⟩:∃x y,cs=[x,y]:=by
   rcases cs with _|⟨x,_|⟨y,_|⟨z,t⟩⟩⟩<;>simp at hl;exact ⟨x,y,rfl⟩
  have h0:=hm 0 _ x rfl rfl;have h1:=hm 1 _ y rfl rfl;have ex:x=[(0,96),(98,1114111)]:=zIm h0.1 (zSA qD qD qD qD qD) fun r r0 r1=>by
   rw[h0.2 r r0 r1,Bool.eq_iff_iff,decide_eq_true_eq,mk];simp only[zCd,zFw,Bool.or_false,Bool.or_eq_true,Bool.and_eq_true,decide_eq_true_eq,List.cons.injEq,and_true,Bool.and_eq_false_iff,decide_eq_false_iff_not];omega
  have ey:y=[(97,97)]:=zIm h1.1 c1 fun r r0 r1=>by
   rw[h1.2 r r0 r1,Bool.eq_iff_iff,decide_eq_true_eq,mk];simp only[zCd,zFw,Bool.or_false,Bool.and_eq_true,decide_eq_true_eq,List.cons.injEq,and_true]
  subst ex;subst ey;rcases hf with ⟨h5,_⟩|⟨_,h5,h6⟩
  ·rcases h5 with ⟨c,hc,h6⟩|h6
   ·simp at hc;rcases hc with rfl|rfl<;>simp at h6
   ·simp at h6
  ·exact ⟨h5,h6⟩
def aD:Dfa:=⟨0,[-1,0],[[-1,1],[-1,-1]]⟩
theorem zYt (s:Int) (x:Nat):toD aD s x = -1∨toD aD s x=1:=by
  unfold toD aD;split
  · exact .inl rfl
  · match s.toNat,x with
    | 0,0=>exact .inl rfl
    | 0,1=>exact .inr rfl
    | 0,x+2=>exact .inl rfl
    | 1,0=>exact .inl rfl
    | 1,1=>exact .inl rfl
    | 1,x+2=>exact .inl rfl
    | n+2,x=>exact .inl rfl
theorem zZU:zCc 2 (beh (zFu zVE [(97,97)]) 0) aD:=by
  have e:zFu zVE [(97,97)]=aD:=by unfold zFu aD setRow zVE;simp[inS,zBJ,List.replicate]
  rw[e];refine ⟨2,⟨⟨rfl,rfl,qD,qD,qD⟩,rfl,?_,?_,qD⟩,fun w _=>rfl,?_,?_⟩
  · intro k x h
    match k,h with
    | 0,h=>simp[aD] at h;subst h;decide
    | 1,h=>simp[aD] at h;subst h;decide
    | 2,h=>simp[aD] at h;subst h;decide
    | 3,h=>simp[aD] at h;subst h;decide
    | k+4,h=>simp[aD] at h
  · intro i hi
    match i,hi with
    | 0,_=>decide
    | 1,_=>decide
  · intro s t h1 h2 h3 h4 h;have h0:=h [] (fun x hx=>by cases hx);have hs:s=0∨s=1:=qO
    have ht:t=0∨t=1:=qO
    rcases hs with rfl|rfl<;>rcases ht with rfl|rfl
    · rfl
    · exact absurd h0 qD
    · exact absurd h0 qD
    · rfl
  · intro s x _ h;rcases zYt s x with h1|h1
    · rw[h1] at h;exact absurd h qD
    · rw[h1];exact ⟨[],(fun x hx=>by cases hx),qD⟩
def aR:Re:=.mk 2 [(97,97)] [] 0 0 false
theorem zXZ:trO 2 zVE aR=some aD:=by
 have h:trN 2 zVE aR=some aD:=by rw[zSe rfl];exact zIn zZU
 exact (zKD h).1 qD
theorem of_a {m:Nat} {r:Value} {w:World} (h:OfR aR m r w):∃ea ec na nc ca cc,r=.tuple #[.agg #[.int .i64 0,.slice ea 2 ec,.slice na 2 nc],.slice ca 2 cc,.int .i64 0]:=by
 have hf:zCv aR 40=0:=(zDP qD qD).2 ⟨by unfold aR zDo;exact ⟨qD,trivial⟩,qD⟩;have hu:zDv [10] aR=false:=qD
 have hs:zCq aR=[[(97,97)]]:=qD
 rcases h with ⟨e,h1,_⟩|⟨_,_,cs,d,ca,cc,ea,ec,na,nc,h1,h2,_,_,_,_,h3,_⟩
 ·rcases h1 with ⟨h1,_⟩|⟨_,h1,_⟩|⟨_,_,h1,_⟩
  ·exact absurd hf h1
  ·rw[hu] at h1;cases h1
  ·rw[hs] at h1;rcases h1 with ⟨out,h1⟩|⟨cs,h1,h2⟩
   ·exact absurd (zWk h1).1 qD
   ·rw[(zWk h1).2] at h2;have:=zXZ;rw[show (zVE.length:Nat)=2 from rfl] at h2;rw[h2] at this;cases this
 ·rw[hs] at h1;have hc:=(zWk h1).2;subst hc;rw[show (zVE.length:Nat)=2 from rfl] at h2;rw[zXZ] at h2;cases h2;exact ⟨ea,ec,na,nc,ca,cc,h3⟩
end Go.Proofs
namespace Go.Proofs
open Go Go.Eng Go.Sort
set_option maxRecDepth 100000
def zYi (x:Int):Array Value:=(Value.int .u32 x::List.replicate 24 (Value.int .u32 0)).toArray
theorem zZE (w0:World) (vs:List Value) (vt:Value) (ht:zBm w0 aR vs) (htx:zBa w0 vt [97]) :
  Ret prog 59 #[.agg vs.toArray,vt] w0 fun v w=>∃b,v=.pointer (some ⟨b,0,none⟩)∧Blk w b (zYi 2) 133∧Ext w0 w:=by
 obtain ⟨sa,sc,aa,ac,rfl,ad,af,_⟩:=ht.form;obtain ⟨ta,tc,rfl⟩:=zCQ.form htx;obtain ⟨tb,to,rfl,ai⟩:=zAy (n:=1) htx qD;refine qR func59 rfl ntmps59 rfl (fun E=>(zAA (zBY (v:=(.agg #[(I6 2),(.slice sa 1 sc),(.slice aa 0 ac),(I6 0),(I6 0),(.bool false)])) (c:=#[(I6 2),(.slice sa 1 sc),(.slice aa 0 ac),(I6 0),(I6 0),(.bool false)]) qD rfl rfl ?_)));intro br wr Nr;have Fr:=Nr.ge E;replace E:=E.ext Nr.ext;have Br:=Nr.blk;refine qA _ rfl (zAB (zAA (qM _ rfl (qV (zAK underlying22 rfl) (qA _ rfl (zAB (zAA (qA _ rfl (zAB (zAH (zAA (qF br 0 2 rfl underlying26 rfl zDn rfl (qV (zAG rfl zCr (Br.cell rfl)) (qV (zAK underlying24 rfl) (qM _ rfl (zAB (zAT (zAo (fun nn_ σ W1=>∃(k:Nat),(∃jj_,σ=zCT jj_ [(1,(.slice (some ⟨tb,to,none⟩) 1 tc)),(2,(P6 br 0)),(5,(I6 1)),(26,(.slice aa 0 ac)),(27,(I6 0)),(28,(I6 (k:Int))),(6,(.slice none 0 0))])∧Chg zAe w0 W1∧Blk W1 br #[(I6 2),(.slice sa 1 sc),(.slice aa 0 ac),(I6 0),(I6 0),(.bool false)] 26∧(k=0)∧nn_=1 - k) (n:=1 - 0) ?_ ?_))))))))))))))))))
 ·exact ⟨0,zAs.out ⟨rfl,rfl,rfl,rfl,rfl,rfl,rfl,trivial⟩,E,Br,rfl,rfl⟩
 ·clear E Br;rintro _ _ W1 ⟨k,⟨j1,rfl⟩,E,Br,hk,rfl⟩;refine zAA (qV (zBA rfl rfl) (zAB (zAH ?_)));have ah:(decide ((((k:Nat):Int):Int)<0))=false:=decide_eq_false qO;refine zAN (cbk ah) (zAl (zAV (zAV (zAf (zAC (zAA (qV (zBF (ps:=[]) (v:=(.agg #[(.int .u32 0),(.int .u32 0),(.int .u32 0),(.int .u32 0),(.int .u32 0),(.int .u32 0),(.int .u32 0),(.int .u32 0),(.int .u32 0),(.int .u32 0),(.int .u32 0),(.int .u32 0),(.int .u32 0),(.int .u32 0),(.int .u32 0),(.int .u32 0),(.int .u32 0),(.int .u32 0),(.int .u32 0),(.int .u32 0),(.int .u32 0),(.int .u32 0),(.int .u32 0),(.int .u32 0),(.int .u32 0)])) rfl qK) (zBY (v:=(.agg #[(.int .u32 0),(.int .u32 0),(.int .u32 0),(.int .u32 0),(.int .u32 0),(.int .u32 0),(.int .u32 0),(.int .u32 0),(.int .u32 0),(.int .u32 0),(.int .u32 0),(.int .u32 0),(.int .u32 0),(.int .u32 0),(.int .u32 0),(.int .u32 0),(.int .u32 0),(.int .u32 0),(.int .u32 0),(.int .u32 0),(.int .u32 0),(.int .u32 0),(.int .u32 0),(.int .u32 0),(.int .u32 0)])) (c:=#[(.int .u32 0),(.int .u32 0),(.int .u32 0),(.int .u32 0),(.int .u32 0),(.int .u32 0),(.int .u32 0),(.int .u32 0),(.int .u32 0),(.int .u32 0),(.int .u32 0),(.int .u32 0),(.int .u32 0),(.int .u32 0),(.int .u32 0),(.int .u32 0),(.int .u32 0),(.int .u32 0),(.int .u32 0),(.int .u32 0),(.int .u32 0),(.int .u32 0),(.int .u32 0),(.int .u32 0),(.int .u32 0)]) qD rfl rfl ?_))))))));intro bq wq Nq;have Fq:=Nq.ge E;have Oq_br:=Nq.lt Br;replace Br:=Nq.keep Br;replace E:=E.ext Nq.ext;have Bq:=Nq.blk;refine qA _ rfl (zAB (zAH (zAA (qF br 0 0 rfl underlying26 rfl zAv rfl (qV (zAG rfl zAm (Br.cell rfl)) (zAB (zAT (zAA (qV (zAq rfl rfl) (qA _ rfl (zAB (zAN rfl (zAA (qV (zAq rfl rfl) (qA _ rfl (zAB (zAk rfl (zAA ?_))))))))))))))))));refine qM _ rfl (qV (zAK underlying22 rfl) (qM _ rfl (zAB (zAT ?_))));replace Bq:Blk wq bq (zYi 0) 133:=Bq;refine zAo (fun nn_ σ W3=>∃(i:Nat),(∃jj_,σ=zCT jj_ [(2,(P6 br 0)),(9,(P6 bq 0)),(49,(.slice (some ⟨tb,to,none⟩) 1 tc)),(50,(I6 1)),(51,(I6 (i:Int)))])∧Chg zAe w0 W3∧Blk W3 br #[(I6 2),(.slice sa 1 sc),(.slice aa 0 ac),(I6 0),(I6 0),(.bool false)] 26∧Blk W3 bq (zYi (if i=0 then 0 else 2)) 133∧(i≤1)∧nn_=1 - i) (n:=1 - 0) ?_ ?_
  ·exact ⟨0,zAs.out ⟨rfl,rfl,rfl,rfl,rfl,trivial⟩,E,Br,Bq,qD,rfl⟩
  ·clear E Br Bq;rintro _ _ W3 ⟨i,⟨j3,rfl⟩,E,Br,Bq,hi,rfl⟩;refine zAA (qV (zBA rfl rfl) (zAB (zAH (qC rfl (fun ag=>?_) (fun ag=>?_)))))
   ·have ab:i=0:=qO
    refine zAO (zAC (zAH (zAT (zAA (qM _ rfl (qV (zAD (b:=tb) (o:=to) (len:=1) (cap:=tc) (i:=i) (o':=to+i) rfl rfl rfl underlying22 zAv qO qO) (qV (zAG rfl zAm (E.cell (fun f=>f) (ai i 97 (by rw[ab];rfl)))) (qA _ rfl (qA _ rfl (zAB (zAA (qF br 0 1 rfl underlying26 rfl zCi rfl (qV (zAG rfl zCs (Br.cell rfl)) (qM _ rfl (qE rfl (zAU func47 kQ kQ rfl) ((zZL _ (.slice sa 1 sc) [(97,97)] 97 (ad.ext E)).mono (R':=fun v w=>v=.bool true∧Ext _ w) (fun v w h=>⟨h.1.trans (cbk qD),h.2⟩)) ?_)))))))))))))));rintro _ w19 ⟨rfl,ae⟩;replace Br:=ae.keep Br;replace Bq:=ae.keep Bq;replace E:=E.ext ae;refine zAB (zAk rfl (zKp 7 mixed qK ?_));intro w5 X5 _;replace Br:=X5.keep Br;replace Bq:=X5.keep Bq;replace E:=E.ext X5;refine qT (zAj rfl) (qT (zAj rfl) (qT (zAj rfl) (qT (zAw rfl rfl (zBf qO)) (qT (zXn (c:=2) rfl rfl qO (by rw[ab];exact shl1 (k:=1) qO)) (qT (zBd rfl) (qT (zCE (b:=bq) (o:=0) (i:=i) (o':=i) rfl rfl rfl underlying133 zVn qO qO) (zEW (zAt (b:=bq) (o:=i) (c':=zYi (if i+1=0 then 0 else 2)) (v:=(.int .u32 2)) rfl rfl rfl zVn Bq (by subst ab;decide) (by subst ab;rfl) ?_))))))));intro w6 S6;replace Br:=S6.keep qO Br;replace E:=S6.step E qQ;replace Bq:=S6.blk;refine zAB (zAS (zAC (zAF (qV (zAw rfl rfl (zBf qO)) (qM _ rfl (zAB (zAC ?_)))))));exact ⟨1 - (i+1),qO,i+1,zAs.out ⟨rfl,rfl,rfl,rfl,rfl,trivial⟩,E,Br,Bq,qO,rfl⟩
   ·have hi1:i=1:=qO
    rw[if_neg qO] at Bq;refine zAl (zAV (zAV (zAf (zAS (zAC (zAA (qM _ rfl (qA _ rfl (zAB (zAW (zAZ results59 (v:=(.pointer (some ⟨bq,0,none⟩))) rfl ?_)))))))))));exact ⟨bq,rfl,Bq,E⟩
theorem zZS:zFT aR [97]=0:=by
 have aa:zDo aR:=by unfold aR zDo;exact ⟨qD,trivial⟩
 have hf:zCv aR 40=0:=(zDP qD qD).2 ⟨aa,qD⟩;unfold zFT;rw[if_neg (by rw[hf];decide),if_neg qD,if_neg qD]
theorem zXl (w0:World) (vs:List Value) (vt:Value) (ht:zBm w0 aR vs) (htx:zBa w0 vt [97]) :
  Ret prog 26 #[.agg vs.toArray,vt] w0 fun v w=>v=.tuple #[.bool true,.int .i64 0]∧Ext w0 w:=by
 have ab:=ht;obtain ⟨sa,sc,aa,ac,rfl,af,ae,_⟩:=ht.form;obtain ⟨ta,tc,rfl⟩:=zCQ.form htx;refine qR func26 rfl ntmps26 rfl (fun E=>(zAA (zBY (v:=(.agg #[(I6 2),(.slice sa 1 sc),(.slice aa 0 ac),(I6 0),(I6 0),(.bool false)])) (c:=#[(I6 2),(.slice sa 1 sc),(.slice aa 0 ac),(I6 0),(I6 0),(.bool false)]) qD rfl rfl ?_)));intro b1 w1 N1;replace E:=E.ext N1.ext;have B1:=N1.blk;refine qA _ rfl (qA _ rfl (zAB (zAH (zAA (qV (zAP (vs:=[(I6 2),(.slice sa 1 sc),(.slice aa 0 ac),(I6 0),(I6 0),(.bool false)]) rfl zBZ zAp rfl (B1.cells rfl)) (qM _ rfl (qE rfl (zAU func58 kQ kQ rfl) ((zTH _ aR _ _ [97] (zBm.ext E aR ab) (htx.ext E)).mono (R':=fun v w=>v=.int .i64 0∧Ext _ w) (fun v w h=>⟨h.1.trans (by rw[zZS]),h.2⟩)) ?_)))))));rintro _ w9 ⟨rfl,X9⟩;replace B1:=X9.keep B1;replace E:=E.ext X9;refine qA _ rfl (zAB (zAA (qM _ rfl (qV (zEY rfl rfl) (zAB (zAN rfl (zAO (zAC (zAA (qV (zAP (vs:=[(I6 2),(.slice sa 1 sc),(.slice aa 0 ac),(I6 0),(I6 0),(.bool false)]) rfl zBZ zAp rfl (B1.cells rfl)) (qM _ rfl (qE rfl (zAU func59 kQ kQ rfl) (zZE _ _ _ (zBm.ext E aR ab) (htx.ext E)) ?_))))))))))));rintro _ w19 ⟨bm,rfl,Bm,ad⟩;replace B1:=ad.keep B1;replace E:=E.ext ad;refine qV (zBd rfl) (qV (zCE (b:=bm) (o:=0) (i:=0) (o':=0) rfl rfl rfl underlying133 zVn qO qO) (qV (zAG rfl zYM (Bm.cell rfl)) (qM _ rfl (qV (zAK underlying22 rfl) (qV (zJE (c:=1) rfl rfl qO qD) (qV (zJd (v:=.int .u32 1) rfl rfl qP (zUL 1 1 qD qD)) (qV (zAq rfl rfl) (qA _ rfl (qA _ rfl (zAB (zAW (zCY results26 (v:=(.bool true)) (v':=(.int .i64 0)) rfl rfl ?_))))))))))));exact ⟨rfl,E⟩
end Go.Proofs
namespace Go.Proofs
open Go Go.Eng Go.Sort
set_option maxRecDepth 100000
theorem zRQ (w0:World) (_:zNR w0):Ret prog 8 #[] w0 fun v w=>v=.bool true∧Ext w0 w:=by
 refine qR func8 rfl ntmps8 rfl (fun E=>(zAA (qA _ rfl (zAB (zAA (qV (zBF (ps:=[(0,(I6 97)),(1,(I6 97))]) (v:=(.agg #[(I6 97),(I6 97)])) rfl qK) (zAc (ps:=[(0,(.agg #[(I6 97),(I6 97)]))]) (c:=#[(I6 97),(I6 97)]) qD rfl underlying23 zCK zGF qD qD qK ?_)))))));intro bs ws Ns;replace E:=E.ext Ns.ext;have Bs:=Ns.blk;refine qV (zBF (ps:=[(0,(I6 2)),(1,(.slice (some ⟨bs,0,none⟩) 1 1))]) (v:=(.agg #[(I6 2),(.slice (some ⟨bs,0,none⟩) 1 1),(.slice none 0 0),(I6 0),(I6 0),(.bool false)])) rfl qK) (zAd (v:=(.agg #[(I6 2),(.slice (some ⟨bs,0,none⟩) 1 1),(.slice none 0 0),(I6 0),(I6 0),(.bool false)])) (c:=#[(I6 2),(.slice (some ⟨bs,0,none⟩) 1 1),(.slice none 0 0),(I6 0),(I6 0),(.bool false)]) (n:=6) qD zDg rfl zAp rfl rfl rfl qS ?_);intro ba wa Na;replace Bs:=Na.keep Bs;replace E:=E.ext Na.ext;have Ba:=Na.blk;refine zAB (zAA (qV (zAP (vs:=[(I6 2),(.slice (some ⟨bs,0,none⟩) 1 1),(.slice none 0 0),(I6 0),(I6 0),(.bool false)]) rfl zBZ zAp rfl (Ba.cells rfl)) ?_));have hA:zBm (wa) aR [.int .i64 2,.slice (some ⟨bs,0,none⟩) 1 1,.slice none 0 0,.int .i64 0,.int .i64 0,.bool false]:=zBm.of (set:=[(97,97)]) (args:=[]) (zHV [(97,97)] Bs qD qD) ⟨qD,qD⟩ (.inl rfl);refine qE rfl (zAU func10 kQ kQ rfl) ((zNH _ aR _ hA).mono (R':=fun r w=>(∃ea ec na nc ca cc,r=.tuple #[.agg #[.int .i64 0,.slice ea 2 ec,.slice na 2 nc],.slice ca 2 cc,.int .i64 0])∧Ext _ w) (fun r w h=>⟨of_a h.1,h.2⟩)) ?_;rintro _ w9 ⟨⟨ea,ec,na,nc,ca,cc,rfl⟩,X9⟩;replace Bs:=X9.keep Bs;replace Ba:=X9.keep Ba;replace hA:=zBm.ext X9 aR hA;replace E:=E.ext X9;refine qM _ rfl (qV (zAb rfl rfl) (qV (zAb rfl rfl) (qV (zAb rfl rfl) (zAd (v:=(.agg #[(I6 0),(.slice ea 2 ec),(.slice na 2 nc)])) (c:=#[(I6 0),(.slice ea 2 ec),(.slice na 2 nc)]) (n:=3) qD zBn rfl zAi rfl rfl rfl qS ?_))));intro bd wd Nd;replace Bs:=Nd.keep Bs;replace Ba:=Nd.keep Ba;replace hA:=zBm.ext Nd.ext aR hA;replace E:=E.ext Nd.ext;have Bd:=Nd.blk;refine qA _ rfl (qA _ rfl (zAB (zAA (qV (zAP (vs:=[(I6 2),(.slice (some ⟨bs,0,none⟩) 1 1),(.slice none 0 0),(I6 0),(I6 0),(.bool false)]) rfl zBZ zAp rfl (Ba.cells rfl)) (zAc (ps:=[(0,(I6 97))]) (c:=#[(I6 97)]) qD rfl underlying22 zAv zDJ qD qD qK ?_)))));intro bt wt Nt;replace Bs:=Nt.keep Bs;replace Ba:=Nt.keep Ba;replace Bd:=Nt.keep Bd;replace hA:=zBm.ext Nt.ext aR hA;replace E:=E.ext Nt.ext;have Bt:=Nt.blk;refine qE rfl (zAU func26 kQ kQ rfl) (zXl _ _ _ hA (zFh Bt rfl qD)) ?_;rintro _ w19 ⟨rfl,aa⟩;replace Bs:=aa.keep Bs;replace Ba:=aa.keep Ba;replace Bd:=aa.keep Bd;replace Bt:=aa.keep Bt;replace hA:=zBm.ext aa aR hA;replace E:=E.ext aa;refine qM _ rfl (qV (zAb rfl rfl) (qV (zAb rfl rfl) (qA _ rfl (qA _ rfl (zAB (zAA (qM _ rfl (qV (zAq rfl rfl) (qM _ rfl (zAL rfl rfl qD rfl (qM _ rfl (zAL rfl rfl qD rfl (qV (zAq rfl rfl) (qV (zAr rfl rfl) (qM _ rfl ?_)))))))))))))));refine zAL rfl rfl qD rfl (qM _ rfl (qV (zAr rfl rfl) (qM _ rfl (zAL rfl rfl qD rfl (qF bd 0 2 rfl underlying34 rfl zBr rfl (zAL rfl rfl qD rfl (qV (zAG rfl zBh (Bd.cell rfl)) (zAL rfl rfl qD rfl (qV (zAK underlying32 rfl) (zAL rfl rfl qD rfl (qV (zAq rfl rfl) (qV (zAr rfl rfl) (qA _ rfl (zAB (zAW ?_)))))))))))))));refine zAZ results8 (v:=(.bool true)) rfl ?_;exact ⟨rfl,E⟩
end Go.Proofs
namespace Go.Proofs
open Go Go.Eng Go.Sort
set_option maxRecDepth 100000
theorem zSz (cs:List (List Sp)) (w:List Nat):zGQ cs w.reverse=(zGQ cs w).reverse:=by simp[zGQ]
theorem zQX {t:Re} {cs cs':List (List Sp)} {d d':Dfa} (hok:zDo t) (hok':zDo (zBy t)) (h1:zNJ (zCq t) cs 0) (h2:zNJ (zCq (zBy t)) cs' 0) (hd:trO cs.length cs t=some d) (hd':trO cs'.length cs' (zBy t)=some d') :
  cs'=cs∧zCc cs.length (zXj (beh d d.start)) d':=by
 have aa:=zHz (zFJ hok);have e:cs=cs':=((zRs (fun l=>(zSn t l).symm) aa h1).uniq h2).2;subst e;refine ⟨rfl,(zSa rfl hok' hd').congr fun w hw=>?_⟩;have h3:=zNX rfl hok hd w.reverse hw.reverse;unfold zXj;rw[h3,zTb _ t (Nat.le_refl _),zSz];unfold zFG;split<;>simp
end Go.Proofs
namespace Go.Proofs
open Go Go.Eng Go.Sort
set_option maxRecDepth 100000
def OfS (t:Re) (r:Value) (w:World):Prop:=∃(d:Dfa) (ea:Option Addr) (ec:Nat) (na:Option Addr) (nc:Nat) (cs:List (List Sp)) (ca:Option Addr) (cc:Nat) (e:Int),r=.tuple #[.agg #[.int .i64 d.start,.slice ea d.accept.length ec,.slice na d.next.length nc],.slice ca cs.length cc,.int .i64 e]∧
 (e=2∨(e=0∧zNJ (zCq t) cs 0∧trO cs.length cs t=some d∧GoodD cs.length d∧d.next.length≤200∧(1≤cs.length∧cs.length≤16)∧zBV w d [.int .i64 d.start,.slice ea d.accept.length ec,.slice na d.next.length nc]∧zBl w (.slice ca cs.length cc) cs))
theorem zUr {t:Re} {m:Nat} {r:Value} {w:World} (hf:zCv t 40=0) (hu:zDv [10] t=false) (h:OfR t m r w):OfS t r w:=by
 rcases h with ⟨e,h1,h2⟩|⟨_,_,cs,d,ca,cc,ea,ec,na,nc,h1,h2,h3,h4,h5,h6,h7,h8,h9⟩
 ·have he:e=2:=by
   rcases h1 with ⟨h1,_⟩|⟨_,h1,_⟩|⟨_,_,_,h1⟩
   ·exact absurd hf h1
   ·rw[hu] at h1;cases h1
   ·exact h1
  exact ⟨⟨0,[],[]⟩,none,0,none,0,[],none,0,e,h2,.inl he⟩
 ·exact ⟨d,ea,ec,na,nc,cs,ca,cc,0,h7,.inr ⟨rfl,h1,h2,h3,h4,⟨h5,h6⟩,h8.at',h9⟩⟩
theorem zPh (w0:World) (hT:zNR w0) (v:Value) (l:List Int) (hl:zBa w0 v l) (hgen:∀t,zHk (zSW 8) t→zDv [10] t=false∧zDv [10] (zBy t)=false) (hfr:∀t,zDo t→t.size≤31→zCv (zBy t) 40=0) :
  Ret prog 3 #[v] w0 fun r w=>r=.bool true∧Ext w0 w:=by
 refine qR func3 rfl ntmps3 rfl (fun E=>(zAA (qA _ rfl (zAB (zAA (qM v rfl ?_))))));refine qE rfl (zAU func7 kQ kQ rfl) ((zYB _ v l hl).mono (R':=fun r w=>(∃(t:Re) (sa aa:Option Addr) (sc ac:Nat),r=.agg #[.int .i64 t.kind,.slice sa t.set.length sc,.slice aa t.args.length ac,.int .i64 t.mn,.int .i64 t.mx,.bool t.neg]∧zHk (zSW 8) t∧t.size≤31∧zBm w t [.int .i64 t.kind,.slice sa t.set.length sc,.slice aa t.args.length ac,.int .i64 t.mn,.int .i64 t.mx,.bool t.neg])∧Ext w0 w) (fun r w h=>by
  obtain ⟨t,vs,rfl,hg,hs,hi,x⟩:=h;have ht:=zBs.at t hi;have bk:=ht;obtain ⟨sa,sc,aa,ac,rfl,_⟩:=ht.form;exact ⟨⟨t,sa,aa,sc,ac,rfl,hg,hs,bk⟩,x⟩)) ?_
 rintro _ w9 ⟨⟨t,sa,aa,sc,ac,rfl,hg,bj,ht⟩,X9⟩;replace E:=E.ext X9;have ap:=zVA t hg;have a2:zCv t 40=0:=(zDP qD qD).2 ⟨ap,qO⟩;obtain ⟨hu,bm⟩:=hgen t hg;have bi:=hfr t ap bj;refine zAd (v:=(.agg (R6 t sa sc aa ac))) (c:=(R6 t sa sc aa ac)) (n:=6) qD zDg rfl zAp rfl rfl rfl qS ?_;intro br wr Nr;replace ht:=zBm.ext Nr.ext t ht;replace E:=E.ext Nr.ext;have Br:=Nr.blk;refine zAB (zAH (zAA (qE rfl (zAU func8 kQ kQ rfl) (zRQ _ (hT.ext E)) ?_)));rintro _ w19 ⟨rfl,ax⟩;replace Br:=ax.keep Br;replace ht:=zBm.ext ax t ht;replace E:=E.ext ax;refine qV (zCa rfl) (zAB (zAN rfl (zAO (zAC (zAA (qV (zAP (vs:=[(I6 t.kind),(.slice sa t.set.length sc),(.slice aa t.args.length ac),(I6 t.mn),(I6 t.mx),(.bool t.neg)]) rfl zBZ zAp rfl (Br.cells rfl)) ?_))))));refine qE rfl (zAU func9 kQ kQ rfl) ((zOv _ t _ ht a2 hu).mono (R':=fun r w=>(∃(sb ab:Option Addr) (sd ad:Nat),r=.tuple #[.agg #[.int .i64 (zBy t).kind,.slice sb (zBy t).set.length sd,.slice ab (zBy t).args.length ad,.int .i64 (zBy t).mn,.int .i64 (zBy t).mx,.bool (zBy t).neg],.int .i64 0]∧zBm w (zBy t) [.int .i64 (zBy t).kind,.slice sb (zBy t).set.length sd,.slice ab (zBy t).args.length ad,.int .i64 (zBy t).mn,.int .i64 (zBy t).mx,.bool (zBy t).neg])∧Ext _ w) (fun r w h=>by
  obtain ⟨us,rfl,hr,x⟩:=h;have ba:=hr;obtain ⟨sb,sd,ab,ad,rfl,_⟩:=hr.form;exact ⟨⟨sb,ab,sd,ad,rfl,ba⟩,x⟩)) ?_
 rintro _ w29 ⟨⟨sb,ab,sd,ad,rfl,hr⟩,av⟩;replace Br:=av.keep Br;replace ht:=zBm.ext av t ht;replace E:=E.ext av;refine qM _ rfl (qV (zAb rfl rfl) (qV (zAb rfl rfl) (zAd (v:=(.agg #[(I6 ((zBy t).kind)),(.slice sb ((zBy t).set.length) sd),(.slice ab ((zBy t).args.length) ad),(I6 ((zBy t).mn)),(I6 ((zBy t).mx)),(.bool ((zBy t).neg))])) (c:=#[(I6 ((zBy t).kind)),(.slice sb ((zBy t).set.length) sd),(.slice ab ((zBy t).args.length) ad),(I6 ((zBy t).mn)),(I6 ((zBy t).mx)),(.bool ((zBy t).neg))]) (n:=6) qD zDg rfl zAp rfl rfl rfl qS ?_)));intro bu wu Nu;replace Br:=Nu.keep Br;replace ht:=zBm.ext Nu.ext t ht;replace hr:=zBm.ext Nu.ext (zBy t) hr;replace E:=E.ext Nu.ext;have Bu:=Nu.blk;refine qA _ rfl (zAB (zAA (qV (zAP (vs:=[(I6 t.kind),(.slice sa t.set.length sc),(.slice aa t.args.length ac),(I6 t.mn),(I6 t.mx),(.bool t.neg)]) rfl zBZ zAp rfl (Br.cells rfl)) (qE rfl (zAU func10 kQ kQ rfl) ((zNH _ t _ ht).mono (R':=fun r w=>OfS t r w∧Ext _ w) (fun r w h=>⟨zUr a2 hu h.1,h.2⟩)) ?_))));rintro _ w39 ⟨⟨d,ea,ec,na,nc,cs,ca,cc,k1,rfl,hd⟩,an⟩;replace Br:=an.keep Br;replace Bu:=an.keep Bu;replace ht:=zBm.ext an t ht;replace hr:=zBm.ext an (zBy t) hr;replace E:=E.ext an;refine qM _ rfl (qV (zAb rfl rfl) (qV (zAb rfl rfl) (qV (zAb rfl rfl) (zAd (v:=(.agg #[(I6 d.start),(.slice ea d.accept.length ec),(.slice na d.next.length nc)])) (c:=#[(I6 d.start),(.slice ea d.accept.length ec),(.slice na d.next.length nc)]) (n:=3) qD zBn rfl zAi rfl rfl rfl qS ?_))));intro bd wd Nd;replace Br:=Nd.keep Br;replace Bu:=Nd.keep Bu;replace ht:=zBm.ext Nd.ext t ht;replace hr:=zBm.ext Nd.ext (zBy t) hr;replace hd:=Or.imp id (fun h=>And.intro h.1 (And.intro h.2.1 (And.intro h.2.2.1 (And.intro h.2.2.2.1 (And.intro h.2.2.2.2.1 (And.intro h.2.2.2.2.2.1 (And.intro (zBV.ext h.2.2.2.2.2.2.1 Nd.ext) (zBl.ext h.2.2.2.2.2.2.2 Nd.ext)))))))) hd;replace E:=E.ext Nd.ext;have Bd:=Nd.blk;refine qA _ rfl (qA _ rfl (zAB (zAA (qV (zAP (vs:=[(I6 ((zBy t).kind)),(.slice sb ((zBy t).set.length) sd),(.slice ab ((zBy t).args.length) ad),(I6 ((zBy t).mn)),(I6 ((zBy t).mx)),(.bool ((zBy t).neg))]) rfl zBZ zAp rfl (Bu.cells rfl)) (qE rfl (zAU func10 kQ kQ rfl) ((zNH _ (zBy t) _ hr).mono (R':=fun r w=>OfS (zBy t) r w∧Ext _ w) (fun r w h=>⟨zUr bi bm h.1,h.2⟩)) ?_)))));rintro _ w49 ⟨⟨d2,fa,fc,ga,gc,a8,da,dc,k2,rfl,ai⟩,am⟩;replace Br:=am.keep Br;replace Bu:=am.keep Bu;replace Bd:=am.keep Bd;replace ht:=zBm.ext am t ht;replace hr:=zBm.ext am (zBy t) hr;replace hd:=Or.imp id (fun h=>And.intro h.1 (And.intro h.2.1 (And.intro h.2.2.1 (And.intro h.2.2.2.1 (And.intro h.2.2.2.2.1 (And.intro h.2.2.2.2.2.1 (And.intro (zBV.ext h.2.2.2.2.2.2.1 am) (zBl.ext h.2.2.2.2.2.2.2 am)))))))) hd;replace E:=E.ext am;refine qM _ rfl (qV (zAb rfl rfl) (qV (zAb rfl rfl) (qV (zAb rfl rfl) (zAd (v:=(.agg #[(I6 d2.start),(.slice fa d2.accept.length fc),(.slice ga d2.next.length gc)])) (c:=#[(I6 d2.start),(.slice fa d2.accept.length fc),(.slice ga d2.next.length gc)]) (n:=3) qD zBn rfl zAi rfl rfl rfl qS ?_))));intro bf wf Nf;replace Br:=Nf.keep Br;replace Bu:=Nf.keep Bu;replace Bd:=Nf.keep Bd;replace ht:=zBm.ext Nf.ext t ht;replace hr:=zBm.ext Nf.ext (zBy t) hr;replace hd:=Or.imp id (fun h=>And.intro h.1 (And.intro h.2.1 (And.intro h.2.2.1 (And.intro h.2.2.2.1 (And.intro h.2.2.2.2.1 (And.intro h.2.2.2.2.2.1 (And.intro (zBV.ext h.2.2.2.2.2.2.1 Nf.ext) (zBl.ext h.2.2.2.2.2.2.2 Nf.ext)))))))) hd;replace ai:=Or.imp id (fun h=>And.intro h.1 (And.intro h.2.1 (And.intro h.2.2.1 (And.intro h.2.2.2.1 (And.intro h.2.2.2.2.1 (And.intro h.2.2.2.2.2.1 (And.intro (zBV.ext h.2.2.2.2.2.2.1 Nf.ext) (zBl.ext h.2.2.2.2.2.2.2 Nf.ext)))))))) ai;replace E:=E.ext Nf.ext;have Bf:=Nf.blk;refine qA _ rfl (qA _ rfl (zAB (zAH (zAA (qM _ rfl (qV (zEY rfl rfl) (zAB (zAN rfl (zAO (zAC (zAH (zAA (qM _ rfl ?_)))))))))))));obtain ⟨e1,aq⟩:∃e,(decide ((k1:Int)≠0))=e:=⟨_,rfl⟩;refine qV ((zEY rfl rfl).trans (by rw[aq];try rfl)) (qM _ rfl (qG (.bool e1) (nU e1 (I6 k2)) (by cases e1<;>first|exact gA|exact gB|exact .inl ⟨rfl,zAj rfl⟩) ?_));obtain ⟨e2,au⟩:∃e,(decide ((k2:Int)≠0))=e:=⟨_,rfl⟩;refine qG (.bool e1) (nU e1 (.bool e2)) (by cases e1<;>first|exact gA|exact gB|exact .inl ⟨rfl,(zEY rfl rfl).trans (by rw[au];try rfl)⟩) ?_;obtain ⟨e3,az⟩:∃e,(e1 || e2)=e:=⟨_,rfl⟩;refine qV (zAr (v:=.bool e3) rfl (by rw[←az];cases e1<;>rfl)) (zAB ?_);subst az;subst au;subst aq;refine zAx rfl (fun hb=>?_) (fun hb=>?_)
 ·have a9:=hb;refine zAA (qM _ rfl ?_);obtain ⟨e5,a1⟩:∃e,(decide ((k1:Int)=2))=e:=⟨_,rfl⟩;refine qV ((zAq rfl rfl).trans (by rw[a1];try rfl)) (qM _ rfl (qG (.bool e5) (nU e5 (I6 k2)) (by cases e5<;>first|exact gA|exact gB|exact .inl ⟨rfl,zAj rfl⟩) ?_));obtain ⟨e6,a0⟩:∃e,(decide ((k2:Int)=2))=e:=⟨_,rfl⟩;refine qG (.bool e5) (nU e5 (.bool e6)) (by cases e5<;>first|exact gA|exact gB|exact .inl ⟨rfl,(zAq rfl rfl).trans (by rw[a0];try rfl)⟩) ?_;obtain ⟨e7,ay⟩:∃e,(e5 || e6)=e:=⟨_,rfl⟩;refine qV (zAr (v:=.bool e7) rfl (by rw[←ay];cases e5<;>rfl)) (qA _ rfl (zAB ?_));subst ay;subst a0;subst a1;refine zAW (zAX (zAZ results3 (v:=(.bool ((decide ((k1:Int)=2)) || (decide ((k2:Int)=2))))) rfl ?_));exact ⟨cbk (by
   rcases hd with h|h
   ·simp[h]
   ·rcases ai with h3|h3
    ·simp[h3]
    ·rw[h.1,h3.1] at hb;simp at hb),E⟩
 ·have a9:=hb;obtain ⟨aq,bn,bg,ar,be,aw,a5,ak⟩:=hd.resolve_left (fun h=>by subst h;simp at hb);obtain ⟨au,bc,a3,gd2,hs2,bh,al,aj⟩:=ai.resolve_left (fun h=>by subst h;subst aq;simp at hb);obtain ⟨a7,ao⟩:=zQX ap (zQk t ap) bn bc bg a3;obtain ⟨G,hG⟩:∃G,G=d2.next.length:=⟨_,rfl⟩;refine zAO (zAC (zAA (qV (zAP (vs:=[(I6 d.start),(.slice ea d.accept.length ec),(.slice na d.next.length nc)]) rfl zBC zAi rfl (Bd.cells rfl)) (qE rfl (zAU func11 kQ kQ rfl) (zYb _ _ cs.length G d _ ar.ok a5 ⟨by have:=ar.ok.st;omega,be⟩ aw ar.acc qO (fun m hm _=>by rw[hG];exact zWX hm ao)) ?_))));rintro _ w59 ⟨⟨C,pa,pc,qa,qc,hC,hCl,hCa,rfl,a4⟩,ah⟩;replace Br:=ah.keep Br;replace Bu:=ah.keep Bu;replace Bd:=ah.keep Bd;replace Bf:=ah.keep Bf;replace ht:=zBm.ext ah t ht;replace hr:=zBm.ext ah (zBy t) hr;replace hd:=Or.imp id (fun h=>And.intro h.1 (And.intro h.2.1 (And.intro h.2.2.1 (And.intro h.2.2.2.1 (And.intro h.2.2.2.2.1 (And.intro h.2.2.2.2.2.1 (And.intro (zBV.ext h.2.2.2.2.2.2.1 ah) (zBl.ext h.2.2.2.2.2.2.2 ah)))))))) hd;replace ai:=Or.imp id (fun h=>And.intro h.1 (And.intro h.2.1 (And.intro h.2.2.1 (And.intro h.2.2.2.1 (And.intro h.2.2.2.2.1 (And.intro h.2.2.2.2.2.1 (And.intro (zBV.ext h.2.2.2.2.2.2.1 ah) (zBl.ext h.2.2.2.2.2.2.2 ah)))))))) ai;replace E:=E.ext ah;have a6:C=d2:=zCc.uniq hC ao fun _ _=>rfl;have ag:=a4.at';replace hd:=hd;replace al:=al.ext ah;replace ak:=ak.ext ah;replace aj:=aj.ext ah;refine qM _ rfl (qV (zAb rfl rfl) (qV (zAb rfl rfl) (zAd (v:=(.agg #[(I6 C.start),(.slice pa C.accept.length pc),(.slice qa C.next.length qc)])) (c:=#[(I6 C.start),(.slice pa C.accept.length pc),(.slice qa C.next.length qc)]) (n:=3) qD zBn rfl zAi rfl rfl rfl qS ?_)));intro bb wb Nb;replace Br:=Nb.keep Br;replace Bu:=Nb.keep Bu;replace Bd:=Nb.keep Bd;replace Bf:=Nb.keep Bf;replace ht:=zBm.ext Nb.ext t ht;replace hr:=zBm.ext Nb.ext (zBy t) hr;replace hd:=Or.imp id (fun h=>And.intro h.1 (And.intro h.2.1 (And.intro h.2.2.1 (And.intro h.2.2.2.1 (And.intro h.2.2.2.2.1 (And.intro h.2.2.2.2.2.1 (And.intro (zBV.ext h.2.2.2.2.2.2.1 Nb.ext) (zBl.ext h.2.2.2.2.2.2.2 Nb.ext)))))))) hd;replace ai:=Or.imp id (fun h=>And.intro h.1 (And.intro h.2.1 (And.intro h.2.2.1 (And.intro h.2.2.2.1 (And.intro h.2.2.2.2.1 (And.intro h.2.2.2.2.2.1 (And.intro (zBV.ext h.2.2.2.2.2.2.1 Nb.ext) (zBl.ext h.2.2.2.2.2.2.2 Nb.ext)))))))) ai;replace ag:=ag.ext Nb.ext;replace al:=al.ext Nb.ext;replace ak:=ak.ext Nb.ext;replace aj:=aj.ext Nb.ext;replace E:=E.ext Nb.ext;have Bb:=Nb.blk;refine qA _ rfl (zAB (zAA (qM _ rfl (qV (zAq rfl rfl) (qM _ rfl (zAL rfl rfl qD rfl (qV (zAP (vs:=[(I6 C.start),(.slice pa C.accept.length pc),(.slice qa C.next.length qc)]) rfl zBC zAi rfl (Bb.cells rfl)) (zAL rfl rfl qD rfl (qV (zAP (vs:=[(I6 d2.start),(.slice fa d2.accept.length fc),(.slice ga d2.next.length gc)]) rfl zBC zAi rfl (Bf.cells rfl)) (zAL rfl rfl qD rfl (qE rfl (zAU func12 kQ kQ rfl) ((zRP _ C d2 _ _ ag al qO).mono (R':=fun v w=>v=.bool true∧Ext _ w) (fun v w h=>⟨by rw[h.1,a6];simp,h.2⟩)) ?_)))))))))));rintro _ w69 ⟨rfl,ae⟩;replace Br:=ae.keep Br;replace Bu:=ae.keep Bu;replace Bd:=ae.keep Bd;replace Bf:=ae.keep Bf;replace Bb:=ae.keep Bb;replace ht:=zBm.ext ae t ht;replace hr:=zBm.ext ae (zBy t) hr;replace hd:=Or.imp id (fun h=>And.intro h.1 (And.intro h.2.1 (And.intro h.2.2.1 (And.intro h.2.2.2.1 (And.intro h.2.2.2.2.1 (And.intro h.2.2.2.2.2.1 (And.intro (zBV.ext h.2.2.2.2.2.2.1 ae) (zBl.ext h.2.2.2.2.2.2.2 ae)))))))) hd;replace ai:=Or.imp id (fun h=>And.intro h.1 (And.intro h.2.1 (And.intro h.2.2.1 (And.intro h.2.2.2.1 (And.intro h.2.2.2.2.1 (And.intro h.2.2.2.2.2.1 (And.intro (zBV.ext h.2.2.2.2.2.2.1 ae) (zBl.ext h.2.2.2.2.2.2.2 ae)))))))) ai;replace ag:=ag.ext ae;replace al:=al.ext ae;replace ak:=ak.ext ae;replace aj:=aj.ext ae;replace E:=E.ext ae;refine qV (zAr rfl rfl) (qM _ rfl (zAL rfl rfl qD rfl (qM _ rfl (zAL rfl rfl qD rfl (qM _ rfl (zAL rfl rfl qD rfl (qE rfl (zAU func13 kQ kQ rfl) ((zTo _ _ _ cs a8 ak aj _ _ _ _ _ _ rfl rfl rfl rfl qO).mono (R':=fun v w=>v=.bool true∧Ext _ w) (fun v w h=>⟨by rw[h.1,a7];simp,h.2⟩)) ?_)))))));rintro _ w79 ⟨rfl,af⟩;replace Br:=af.keep Br;replace Bu:=af.keep Bu;replace Bd:=af.keep Bd;replace Bf:=af.keep Bf;replace Bb:=af.keep Bb;replace ht:=zBm.ext af t ht;replace hr:=zBm.ext af (zBy t) hr;replace hd:=Or.imp id (fun h=>And.intro h.1 (And.intro h.2.1 (And.intro h.2.2.1 (And.intro h.2.2.2.1 (And.intro h.2.2.2.2.1 (And.intro h.2.2.2.2.2.1 (And.intro (zBV.ext h.2.2.2.2.2.2.1 af) (zBl.ext h.2.2.2.2.2.2.2 af)))))))) hd;replace ai:=Or.imp id (fun h=>And.intro h.1 (And.intro h.2.1 (And.intro h.2.2.1 (And.intro h.2.2.2.1 (And.intro h.2.2.2.2.1 (And.intro h.2.2.2.2.2.1 (And.intro (zBV.ext h.2.2.2.2.2.2.1 af) (zBl.ext h.2.2.2.2.2.2.2 af)))))))) ai;replace ag:=ag.ext af;replace al:=al.ext af;replace ak:=ak.ext af;replace aj:=aj.ext af;replace E:=E.ext af;refine qV (zAr rfl rfl) (qA _ rfl (zAB (zAW (zAZ results3 (v:=(.bool true)) rfl ?_))));exact ⟨rfl,E⟩
end Go.Proofs
namespace Go.Proofs
open Go Go.Eng Go.Sort
set_option maxRecDepth 100000
mutual
theorem zKZ:∀(t:Re),zHk (zSW 8) t→zDv [10] t=false
  | .mk k set args mn mx ng,h=>by
    simp only[zHk] at h;have h1:k≤8:=h.1.2.1;simp only[zDv,zLr args h.2,Bool.or_false];simp;omega
theorem zLr:∀(ts:List Re),zDd (zSW 8) ts→zFA [10] ts=false
  | [],_=>rfl
  | t::ts,h=>by simp only[zDd] at h;simp only[zFA,zKZ t h.1,zLr ts h.2,Bool.or_false]
end
theorem zQB (w0:World) (hT:zNR w0) (v:Value) (l:List Int) (hl:zBa w0 v l):Ret prog 3 #[v] w0 fun r w=>r=.bool true∧Ext w0 w:=
 zPh w0 hT v l hl (fun t h=>⟨zKZ t h,by rw[zNW];exact zKZ t h⟩) fun t hok hs=>(zDP qD qD).2 ⟨zQk t hok,by rw[zNc];omega⟩
end Go.Proofs
