/- Contracts and plain lemmas, part 6. -/
import Derived.Test.YtmkajlkbimgngaaGreatZo5
open Go.Proofs.Tryz
set_option maxHeartbeats 16000000
set_option linter.unusedVariables false
namespace Go.Proofs
open Go Go.Eng
set_option maxRecDepth 100000
mutual
theorem NG (a:List Int):∀t:Re,Dh a t=(FA t).any λx=>a.contains x.kind
 | .mk k set args mn mx ng=>by simp only[Dh,FA,List.any_cons,LX a args];rfl
theorem LX (a:List Int):∀ts:List Re,H4 a ts=(DX ts).any λx=>a.contains x.kind
 | []=>rfl
 | t::ts=>by simp only[H4,DX,List.any_append,NG a t,LX a ts]
end
theorem LQ {α:Type} {l:List α} {k:Nat} {x:α} {f:α->Bool} (h:l[k]?=some x):(l.take (k+1)).any f=((l.take k).any f || f x):=by
 rw[List.take_add_one,h,Option.toList_some,List.any_append];simp
theorem V8 (p:World) (t:Re) (vs:List Value) (vk:Value) (a:List Int) (ht:BR p t vs) (hk:CF p vk a) (hs:t.size<=1000000) (hkl:a.length<=1000) :
 CJ prog 21 #[.agg vs.toArray,vk] p λv w=>v=.bool (Dh a t)∧Ao p w:=by
 have T:=ht;obtain ⟨C,D,q,u,rfl,hset,hlen,hargs⟩:=ht.form;obtain ⟨M,H,rfl⟩:=BL.form hk;simp only[List.length_map] at hk⊢;rw[NG];refine qR func21 O ntmps21 O (λE=>(Y (BM (v:=(.agg (R6 t C D q u))) (c:=(R6 t C D q u)) qD O O ?_)));intro b1 w1 N1;replace E:=E.ext N1.ext;have d:=N1.blk;refine qA _ O (AA (AE (Y (qV (AU (vs:=[(I6 t.kind),(.slice C t.set.length D),(.slice q t.args.length u),(I6 t.mn),(I6 t.mx),(.bool t.neg)]) O CI BE O (d.cells O)) (qE O (AT func61 kQ kQ O) (SF _ t _ _ (BR.ext E t T) qO) ?_)))));rintro _ s ⟨la,lc,rows,rfl,z,e,X9⟩;replace d:=X9.keep d;replace E:=E.ext X9;obtain ⟨L,K⟩:∃L,L=FA t:=⟨_,O⟩;have hLl:L.length=t.size:=by rw[K,FT]
 have ae:(FA t).take (1000000:Int).toNat=L:=by rw[K];exact List.take_of_length_le (by rw[FT];exact hs)
 rw[ae] at z e⊢;have m:CK s L rows:=CK.ext X9 e;rw[<-K];have g:Chg AZ s s:=Chg.refl _ _;refine qV (AH underlying46 O) (qM _ O (AA (AM (Am (λnn_ σ I=>∃(k:Nat),(∃jj_,σ=BQ jj_ [(1,(.slice M a.length H)),(10,(.slice la L.length lc)),(11,(I6 (L.length:Int))),(12,(I6 (k:Int)))])∧Chg AZ p I∧Chg AZ s I∧Az I b1 (R6 t C D q u) 48∧(k<=L.length)∧(((L.take k).any λx=>a.contains x.kind)=false)∧nn_=L.length - k) (n:=L.length - 0) ?_ ?_))))
 .exact ⟨0,Af.out ⟨O,O,O,O,trivial⟩,E,g,d,Nat.zero_le _,O,O⟩
 .clear E g d;rintro _ _ I ⟨k,⟨j2,rfl⟩,E,g,d,hk1,U,rfl⟩;refine Y (qV (Av O O) (AA (AE (qC O (λX=>?_) (λX=>?_)))))
  .obtain ⟨x,R⟩:=AL (l:=L) (i:=k) qO;obtain ⟨r,hr,J⟩:=m.get R;obtain ⟨b,o,rfl,N⟩:=BL.at z qO;have W:=(N k r hr).ext g;obtain ⟨xa,Z,S,yc,rfl,hxset,hxlen,hxargs⟩:=J.form;refine AK (AB (AE (AM (Y (qV (AC (b:=b) (o:=o) (len:=L.length) (cap:=lc) (i:=k) (o':=o+k*6) O O O underlying46 BE qO qO) (qV (AU O CI BE O (W)) (Au (v:=(.agg (R6 x xa Z S yc))) (c:=(R6 x xa Z S yc)) (n:=6) qD FP O BE O O O qS ?_)))))));intro P wu G;replace d:=G.keep d;replace E:=E.ext G.ext;have B:=G.blk;replace g:=g.ext G.ext;refine AA (Y (qM _ O (qV (AH underlying22 O) (qM _ O (AA (AM (Am (λnn_ σ y=>∃(j:Nat),(∃jj_,σ=BQ jj_ [(1,(.slice M a.length H)),(6,(P6 P 0)),(10,(.slice (some ⟨b,o,none⟩) L.length lc)),(11,(I6 (L.length:Int))),(12,(I6 (k:Int))),(16,(.slice M a.length H)),(17,(I6 (a.length:Int))),(18,(I6 (j:Int)))])∧Chg AZ p y∧Chg AZ s y∧Az y b1 (R6 t C D q u) 48∧Az y P (R6 x xa Z S yc) 48∧(j<=a.length)∧((a.take j).contains x.kind=false)∧nn_=a.length - j) (n:=a.length - 0) ?_ ?_)))))))
   .exact ⟨0,Af.out ⟨O,O,O,O,O,O,O,O,trivial⟩,E,g,d,B,Nat.zero_le _,O,O⟩
   .clear E g d B;rintro _ _ y ⟨j,⟨j4,rfl⟩,E,g,d,B,hj,F,rfl⟩;refine Y (qV (Av O O) (AA (AE (qC O (λA=>?_) (λA=>?_)))))
    .obtain ⟨c,V⟩:=AL (l:=a) (i:=j) qO;obtain ⟨kb,ko,rfl,ad⟩:=BF hk qO;refine AK (AB (AE (AM (Y (qV (AC (b:=kb) (o:=ko) (len:=a.length) (cap:=H) (i:=j) (o':=ko+j) O O O underlying22 Ab qO qO) (qV (AD O Aa (E.cell (λf=>f) (ad j c V))) (qA _ O (AA (Y (qF P 0 0 O underlying48 O Ab O (qV (AD O Aa (B.cell O)) (qM _ O (qV (As O O) (AA (qC O (λhe=>?_) (λhe=>?_))))))))))))))))
     .refine Y (qA _ O (AA (AS (Ag (AO (AO (Ag (Ag (AO (AO (Ag (AO (AV results21 (v:=(.bool true)) O ?_)))))))))))));exact ⟨by rw[List.any_eq_true.2 ⟨x,List.mem_of_getElem? R,by rw[List.contains_iff_mem,he];exact List.mem_of_getElem? V⟩],E⟩
     .refine AK (AP (AB (AG (qV (Aq O O (A2 qO)) (qM _ O (AA (AB ?_)))))));exact ⟨a.length - (j+1),qO,j+1,Af.out ⟨O,O,O,O,O,O,O,O,trivial⟩,E,g,d,B,qO,(by rw[List.take_add_one,V,Option.toList_some];rw[Bool.eq_false_iff,ne_eq,List.contains_iff_mem] at F⊢;intro h;rcases List.mem_append.1 h with h|h;exact F h;exact he (by simpa using h)),O⟩
    .have ab:a.take j=a:=List.take_of_length_le qO;rw[ab] at F;refine Ak (AR (AR (Ae (AP (AB (AG (qV (Aq O O (A2 qO)) (qM _ O (AA (AB ?_))))))))));exact ⟨L.length - (k+1),qO,k+1,Af.out ⟨O,O,O,O,trivial⟩,E,g,d,qO,(by rw[LQ R,U,F];rfl),O⟩
  .have Q:L.take k=L:=List.take_of_length_le qO;rw[Q] at U;refine Ak (AR (AR (Ae (AB (Y (qA _ O (AA (AS (AV results21 (v:=(.bool false)) O ?_)))))))));exact ⟨by rw[U],E⟩
end Go.Proofs
namespace Go.Proofs
open Go Go.Eng Go.Sort
set_option maxRecDepth 100000
structure SpSt (wr w:World) (base:Nat) (vo:Value) (vs:List Value) (ll:List (List Sp)):Prop where
 o:w.ownsRow base M_ 1 vo ll.length vs
 len:vs.length=ll.length
 el:∀(i:Nat) u l,vs[i]?=some u->ll[i]?=some l->A6 wr u l
theorem SpSt.spss {d w:World} {base:Nat} {b:Value} {vs:List Value} {ll:List (List Sp)} (h:SpSt d w base b vs ll) (e:Ao d w):Bg w b ll:=by
 refine ⟨vs,?_,h.len,λi u l f g=>(h.el i u l f g).ext e⟩;have a:=h.o;rw[show vs=(vs.map λx=>[x]).flatten by simp[List.flatten_eq_flatMap,List.flatMap_map]] at a;exact DY a (by intro r c;simp only[List.mem_map] at c;obtain ⟨x,_,rfl⟩:=c;rfl) (by simp[h.len]) qD
theorem SpSt.push {c w w':World} {base:Nat} {f v' u:Value} {vs:List Value} {ll:List (List Sp)} {l:List Sp} (h:SpSt c w base f vs ll) (j:w'.ownsRow base M_ 1 v' (ll.length+1) (vs++[u])) (g:A6 c u l):SpSt c w' base v' (vs++[u]) (ll++[l]):=by
 refine ⟨by rw[List.length_append];exact j,by simp[h.len],λi x y a b=>?_⟩;rcases Nat.lt_or_ge i vs.length with d|d
 .rw[List.getElem?_append_left d] at a;rw[List.getElem?_append_left (by have:=h.len;omega)] at b;exact h.el i x y a b
 .rw[List.getElem?_append_right d] at a;rw[List.getElem?_append_right (by have:=h.len;omega)] at b;have e:=AI a;simp at e;rw[show i - vs.length=0 by omega] at a;rw[show i - ll.length=0 by have:=h.len;omega] at b;simp at a b;subst a;subst b;exact g
theorem RM {L:List Re} {k:Nat} {x:Re} (h:L[k]?=some x):(L.take (k+1)).foldl Ey []=Ey ((L.take k).foldl Ey []) x:=by
 rw[List.take_add_one,h,Option.toList_some,List.foldl_append];rfl
theorem R0 (U:World) (t:Re) (vs:List Value) (ht:BR U t vs) (hs:t.size<=1000) :
 CJ prog 22 #[.agg vs.toArray] U λv w=>Bg w v (CM t)∧Ao U w:=by
 have am:=ht;obtain ⟨sa,sc,aa,ac,rfl,hset,hlen,hargs⟩:=ht.form;refine qR func22 O ntmps22 O (λE=>(Y (BM (v:=(.agg (R6 t sa sc aa ac))) (c:=(R6 t sa sc aa ac)) qD O O ?_)));intro br wr Nr;replace E:=E.ext Nr.ext;have Br:=Nr.blk;refine qA _ O (AA (Y (qA _ O (AA (AE (Y (qV (AU (vs:=[(I6 t.kind),(.slice sa t.set.length sc),(.slice aa t.args.length ac),(I6 t.mn),(I6 t.mx),(.bool t.neg)]) O CI BE O (Br.cells O)) (qE O (AT func61 kQ kQ O) (SF _ t _ _ (BR.ext E t am) qO) ?_))))))));rintro _ J ⟨la,lc,rows,rfl,ae,s,X9⟩;replace Br:=X9.keep Br;replace E:=E.ext X9;obtain ⟨L,hL⟩:∃L,L=FA t:=⟨_,O⟩;have hLl:L.length=t.size:=by rw[hL,FT]
 have aw:(FA t).take (1000000:Int).toNat=L:=by rw[hL];exact List.take_of_length_le (by rw[FT];have:(1000000:Int).toNat=1000000:=rfl;omega)
 rw[aw] at ae s⊢;have D:CK J L rows:=CK.ext X9 s;have au:CM t=L.foldl Ey []:=by rw[hL];rfl
 have d:Chg AZ J J:=Chg.refl _ _;obtain ⟨n1,ak⟩:∃n,n=J.heap.size:=⟨_,O⟩;have hn0:U.heap.size<=n1:=by rw[ak];exact E.size
 refine qV (AH underlying46 O) (qM _ O (AA (AM (Am (λnn_ σ H=>∃(k:Nat) (ll:List (List Sp)) (us:List Value) (G:Option Addr) (F:Nat),(∃jj_,σ=BQ jj_ [(10,(.slice la L.length lc)),(11,(I6 (L.length:Int))),(12,(I6 (k:Int))),(3,(.slice G ll.length F))])∧Chg AZ U H∧Chg AZ J H∧(k<=L.length)∧(ll=(L.take k).foldl Ey [])∧(SpSt J H n1 (.slice G ll.length F) us ll)∧(n1<=H.heap.size)∧nn_=L.length - k) (n:=L.length - 0) ?_ ?_))))
 .exact ⟨0,[],[],none,0,Af.out ⟨O,O,O,O,trivial⟩,E,d,Nat.zero_le _,O,⟨World.ownsRow_nil _ _ _ _,O,λi u l h=>by simp at h⟩,qO,O⟩
 .clear E d;rintro _ _ H ⟨k,ll,us,G,F,⟨j1,rfl⟩,E,d,hk1,B,T,hbs,rfl⟩;refine Y (qV (Av O O) (AA (AE (qC O (λap=>?_) (λap=>?_)))))
  .obtain ⟨x,hx⟩:=AL (l:=L) (i:=k) qO;obtain ⟨r,hr,ah⟩:=D.get hx;obtain ⟨b,o,rfl,ai⟩:=BL.at ae qO;have an:=(ai k r hr).ext d;obtain ⟨R,P,ya,yc,rfl,q,hxlen,hxargs⟩:=ah.form;have hll1:ll.length<=1000:=by have h:=LB (L.take k) [];rw[<-B] at h;simp at h;omega
   have z:=RM hx;rw[<-B] at z;have K:=T.o;refine AK (AB (AE (AM (Y (qV (AC (b:=b) (o:=o) (len:=L.length) (cap:=lc) (i:=k) (o':=o+k*6) O O O underlying46 BE qO qO) (qV (AU O CI BE O (an)) ?_))))));have e:Chg AZ H H:=Chg.refl _ _;refine Au (v:=(.agg (R6 x R P ya yc))) (c:=(R6 x R P ya yc)) (n:=6) qD FP O BE O O O qS ?_;intro W wu Nu;replace E:=E.ext Nu.ext;have p:=Nu.blk;replace d:=d.ext Nu.ext;replace e:=e.ext Nu.ext;refine AA (Y (qF W 0 0 O underlying48 O Ab O (qV (AD O Aa (p.cell O)) (qV (CO O O) (qA _ O (AA (AE (Y (qM _ O (qV (AH underlying49 O) (qM _ O (AA (AM (Am (λnn_ σ Z=>∃(j:Nat) (A:Bool),(∃jj_,σ=BQ jj_ [(3,(.slice G ll.length F)),(5,(P6 W 0)),(10,(.slice (some ⟨b,o,none⟩) L.length lc)),(11,(I6 (L.length:Int))),(12,(I6 (k:Int))),(19,(.slice G ll.length F)),(20,(I6 (ll.length:Int))),(21,(I6 (j:Int))),(6,(.bool A))])∧Chg AZ U Z∧Chg AZ J Z∧Chg AZ H Z∧Az Z W (R6 x R P ya yc) 48∧(j<=ll.length)∧(A=(decide (x.kind≠2) || decide (x.set∈ll.take j)))∧nn_=ll.length - j) (n:=ll.length - 0) ?_ ?_))))))))))))))
   .exact ⟨0,decide ((x.kind:Int)≠2),Af.out ⟨O,O,O,O,O,O,O,O,O,trivial⟩,E,d,e,p,Nat.zero_le _,qP,O⟩
   .clear E d e p;rintro _ _ Z ⟨j,A,⟨j3,rfl⟩,E,d,e,p,hj,V,rfl⟩;refine Y (qV (Av O O) (AA (AE (qC O (λaf=>?_) (λaf=>?_)))))
    .obtain ⟨l,hl⟩:=AL (l:=ll) (i:=j) qO;have ao:=SpSt.spss ⟨(Aj K e),T.len,T.el⟩ d;obtain ⟨kb,ko,rfl,av⟩:=CD ao qO;obtain ⟨ra,rc,I,ad⟩:=av j l hl;refine AK (AB (AE (AM (Y (qV (AC (b:=kb) (o:=ko) (len:=ll.length) (cap:=F) (i:=j) (o':=ko+j) O O O underlying49 BW qO qO) (qV (AD O CC (I)) (qA _ O (AA (AG (qM _ O (qM _ O ?_)))))))))));rcases Bool.eq_false_or_eq_true (A) with g|g
     .have S:=g;refine AJ O O qD (v:=.bool true) (Aw g) (Or.inl O) (AJ O O qD (v:=.bool true) (Aw g) (Or.inl O) (AJ O O qD (v:=.bool true) (Aw g) (Or.inl O) (AJ O O qD (v:=.bool true) (Aw g) (Or.inl O) (qV (Ac (v:=(.bool true)) O (by rw[g];rfl)) (qA _ O (AA (AP (AB (AG (qV (Aq O O (A2 qO)) (qM _ O (AA (AB ?_)))))))))))));exact ⟨ll.length - (j+1),qO,j+1,true,Af.out ⟨O,O,O,O,O,O,O,O,O,trivial⟩,E,d,e,p,qO,(by have y:=V;simp[S] at y⊢;rw[List.take_add_one,hl];simp;rcases y with y|y;exact .inl y;exact .inr (.inl y)),O⟩
     .have S:=g;refine AF O O qD (Aw g) (qM _ O (AF O O qD (Aw g) (qF W 0 1 O underlying48 O BW O (AF O O qD (Aw g) (qV (AD O CC (p.cell O)) (AF O O qD (Aw g) (qE O (AT func45 kQ kQ O) (UN _ _ _ l x.set ad (BL.ext q d)) ?_)))))));rintro _ w19 ⟨rfl,C⟩;replace p:=C.keep p;replace E:=E.ext C;replace d:=d.ext C;replace e:=e.ext C;refine qV (Ac (v:=(.bool (decide (l=x.set)))) O (by rw[g];rfl)) (qA _ O (AA (AP (AB (AG (qV (Aq O O (A2 qO)) (qM _ O (AA (AB ?_)))))))));exact ⟨ll.length - (j+1),qO,j+1,decide (l=x.set),Af.out ⟨O,O,O,O,O,O,O,O,O,trivial⟩,E,d,e,p,qO,(by have y:=V;simp[S] at y⊢;rw[List.take_add_one,hl];simp[y,eq_comm]),O⟩
    .rw[show ll.take j=ll from List.take_of_length_le qO] at V;refine Ak (AR (AR (Ae (AB (Y (qM _ O (qV (Cj O) (AA (A3 O (λa=>?_) (λa=>?_))))))))))
     .have N:=a;replace a:=by simpa using a
      have ar:x.kind=2∧x.set∉ll:=by rw[V] at a;simpa using a
      refine AG (qM _ O (qF W 0 1 O underlying48 O BW O (qV (AD O CC (p.cell O)) (Ad (ps:=[(0,(.slice R x.set.length P))]) (c:=#[(.slice R x.set.length P)]) qD O underlying49 BW G4 qD qD qK ?_))));intro bv wv Nv;replace p:=Nv.keep p;replace E:=E.ext Nv.ext;have Bv:=Nv.blk;replace d:=d.ext Nv.ext;replace e:=e.ext Nv.ext;have Q:=Aj K e;have hS3:=e.size;refine BT (base:=n1) (n:=ll.length) (m:=1) (xs:=us) (news:=[(.slice R x.set.length P)]) (size:=1) (bytes:=24) (v:=(.slice G ll.length F)) qD underlying49 BW MI G4 O qD O Q O (O) (Bv.cells O) qS (by unfold maxLen;omega) qO qO ?_;intro v9 w79 ab M Dv9;replace E:=E.step M (λx hx h=>absurd (Q.lt x h).1 qO);replace d:=d.step M (λx hx h=>absurd (Q.lt x h).1 qO);obtain ⟨aq,aj,rfl⟩:=A9 ab;have ag:(ll++[x.set]).length=ll.length+1:=qP
      have X:=T.push ab q;rw[<-ag] at X⊢;have f:Ey ll x=ll++[x.set]:=by unfold Ey;rw[if_pos ar]
      refine qA _ O (AA (AP (AB (AG (qV (Aq O O (A2 qO)) (qM _ O (AA (AB ?_))))))));exact ⟨L.length - (k+1),qO,k+1,ll++[x.set],us++[.slice R x.set.length P],aq,aj,Af.out ⟨O,O,O,O,trivial⟩,E,d,qO,(by rw[z,f]),X,(by have:=M.size;omega),O⟩
     .have N:=a;replace a:=by simpa using a
      have f:Ey ll x=ll:=by unfold Ey;rw[if_neg (by rintro ⟨h1,y⟩;rw[V] at a;simp[h1,y] at a)]
      refine AK (AP (AB (AG (qV (Aq O O (A2 qO)) (qM _ O (AA (AB ?_)))))));exact ⟨L.length - (k+1),qO,k+1,ll,us,G,F,Af.out ⟨O,O,O,O,trivial⟩,E,d,qO,(by rw[z,f]),⟨(Aj K e),T.len,T.el⟩,(by have:=e.size;omega),O⟩
  .have al:L.take k=L:=List.take_of_length_le qO;rw[al,<-au] at B;refine Ak (AR (AR (Ae (AB (Y (qM _ O (qA _ O (AA (AS (AV results22 (v:=(.slice G ll.length F)) O ?_))))))))));rw[<-B];exact ⟨T.spss d,E⟩
end Go.Proofs
namespace Go.Proofs
open Go Go.Eng Go.Sort
set_option maxRecDepth 100000
noncomputable def ovW (t:Re) (cs:List (List Sp)):Int:=if Cb t 40≠0 then Cb t 40 else if partE cs≠0 then partE cs else if Dh [10] t=true then 3 else 0
theorem SO {t:Re} {cs:List (List Sp)} (h:ovW t cs≠0):OvE t cs=ovW t cs:=by
 unfold ovW at h⊢;unfold OvE;by_cases b:Cb t 40≠0
 .rw[if_pos b,if_pos b]
 rw[if_neg b] at h⊢;rw[if_neg b];by_cases a:partE cs≠0
 .rw[if_pos a,if_pos a]
 rw[if_neg a] at h⊢;rw[if_neg a];by_cases c:Dh [10] t=true
 .rw[if_pos c,if_pos (.inl c)]
 .rw[if_neg c] at h;exact absurd O h
theorem OD {t:Re} {cs:List (List Sp)} (h:ovW t cs=0):Cb t 40=0∧partE cs=0∧Dh [10] t=false:=by
 unfold ovW at h;by_cases b:Cb t 40≠0
 .rw[if_pos b] at h;exact absurd h b
 rw[if_neg b] at h;by_cases a:partE cs≠0
 .rw[if_pos a] at h;exact absurd h a
 rw[if_neg a] at h;refine ⟨qO,qO,?_⟩;cases h3:Dh [10] t with
 | false=>rfl
 | true=>rw[if_pos h3] at h;cases h
theorem UU {t:Re} {cs:List (List Sp)} (h:ovW t cs=0) {s:List Sp} (hs:s∈CM t) (a:¬Ri s cs):OvE t cs=3:=by
 obtain ⟨h1,h2,h3⟩:=OD h;unfold OvE;rw[if_neg qO,if_neg qO,if_pos];exact .inr (List.any_eq_true.2 ⟨s,hs,by rw[Pt a];rfl⟩)
theorem Ob {m:Nat}:∀{ll:List (List Sp)},(∀l∈ll,l.length<=m)->ll.flatten.length<=m*ll.length
 | [],_=>qP
 | l::ll,h=>by
  have h1:=Ob (ll:=ll) λx a=>h x (List.mem_cons_of_mem _ a);have h2:=h l List.mem_cons_self;rw[List.flatten_cons,List.length_append,List.length_cons,Nat.mul_succ];omega
theorem O' {cs:List (List Sp)} {s:List Sp} (d:partE cs=0) (hs:s.length<=16):(cs++[s]).flatten.length<=1048576∧(cs++[s]).length<=1048576:=by
 obtain ⟨h16,a,_,_⟩:=H' d;have b:=Iq a;have c:=Ob (m:=16) (ll:=cs++[s]) λl e=>by
  rcases List.mem_append.1 e with h|h
  .exact (CE (b l h)).2
  .rw[List.mem_singleton.1 h];exact hs
 rw[List.length_append] at c⊢;simp only[List.length_cons,List.length_nil] at c⊢;omega
theorem Q_ (w0:World) (t:Re) (vs:List Value) (vc:Value) (cs:List (List Sp)) (ht:BR w0 t vs) (hC:Bg w0 vc cs) (hs:t.size≤1048576) (hfl:cs.flatten.length+cs.length≤1048576) :
  CJ prog 4 #[.agg vs.toArray,vc] w0 fun v w=>v=.bool true∧Ao w0 w:=by
 have a2:=ht;obtain ⟨sa,sc,aa,ac,rfl,_,_,_⟩:=ht.form;obtain ⟨ca,cc,rfl,_,hle⟩:=hC.form;refine qR func4 rfl ntmps4 rfl (fun E=>(Y (BM (v:=(.agg (R6 t sa sc aa ac))) (c:=(R6 t sa sc aa ac)) qD rfl rfl ?_)));intro br wr Nr;have Fr:=Nr.ge E;replace E:=E.ext Nr.ext;have Br:=Nr.blk;refine qA _ rfl (AA (Y (qV (AU (vs:=[(I6 t.kind),(.slice sa t.set.length sc),(.slice aa t.args.length ac),(I6 t.mn),(I6 t.mx),(.bool t.neg)]) rfl CI BE rfl (Br.cells rfl)) (qM _ rfl (qE rfl (AT func17 kQ kQ rfl) (RB _ t _ cs ca cc (BR.ext E t a2) (hC.ext E)) ?_)))));rintro _ w9 ⟨⟨d,ea,ec,na,nc,rfl,hd⟩,X9⟩;replace Br:=X9.keep Br;replace E:=E.ext X9;have hz:OvE t cs≠0→d.next.length=0:=fun h=>by rcases hd with h1|h1;rw[h1.2.1];rfl;exact absurd h1.1 h
 refine qM _ rfl (qV (Ai rfl rfl) (qV (Ai rfl rfl) (Au (v:=(.agg #[(I6 d.start),(.slice ea d.accept.length ec),(.slice na d.next.length nc)])) (c:=#[(I6 d.start),(.slice ea d.accept.length ec),(.slice na d.next.length nc)]) (n:=3) qD CU rfl Ap rfl rfl rfl qS ?_)));intro bd wd Nd;have Fd:=Nd.ge E;have Od_br:=Nd.lt Br;replace Br:=Nd.keep Br;replace E:=E.ext Nd.ext;have Bd:=Nd.blk;refine qA _ rfl (AA (AE (Y (qE rfl (AT func18 kQ kQ rfl) (PX _) ?_))));rintro _ w19 ⟨rfl,be⟩;replace Br:=be.keep Br;replace Bd:=be.keep Bd;replace E:=E.ext be;refine qV (Cj rfl) (AA (AW rfl (AK (AB (Y (qV (AU (vs:=[(I6 t.kind),(.slice sa t.set.length sc),(.slice aa t.args.length ac),(I6 t.mn),(I6 t.mx),(.bool t.neg)]) rfl CI BE rfl (Br.cells rfl)) (qE rfl (AT (vs:=[(.agg (R6 t sa sc aa ac)),(I6 40)]) func19 kQ kQ rfl) (UO _ t _ 40 qD (BR.ext E t a2) qO) ?_)))))));rintro _ w29 ⟨rfl,a9⟩;replace Br:=a9.keep Br;replace Bd:=a9.keep Bd;replace E:=E.ext a9;refine qA (I6 (Cb t 40)) rfl (AA (AE (Y (qM (I6 (Cb t 40)) rfl (qV (As (k:=.i64) (a:=Cb t 40) (b:=0) rfl rfl) (AA (qC rfl (fun h1=>?_) (fun h1=>?_))))))))
 ·have ai:=decide_eq_true h1;obtain ⟨ci,cm⟩:=(FY qD qD).1 h1;refine AG (qM (.slice ca cs.length cc) rfl (qE rfl (AT (vs:=[(.slice ca cs.length cc)]) func20 kQ kQ rfl) (XP _ _ cs (hC.ext E)) ?_));rintro _ w39 ⟨rfl,bg⟩;replace Br:=bg.keep Br;replace Bd:=bg.keep Bd;replace E:=E.ext bg;refine qA (I6 (partE cs)) rfl (AA (AB (AE (Y (qM (I6 (partE cs)) rfl (qV (As (k:=.i64) (a:=partE cs) (b:=0) rfl rfl) (qM (.bool (decide ((partE cs:Int)=0))) rfl ?_)))))));rcases Bool.eq_false_or_eq_true (decide ((partE cs:Int)=0)) with h2|h2
  ·have ap:=h2;replace ap:=of_decide_eq_true ap;refine AF (oj:=_) rfl rfl qD (Aw h2) (qV (AU (vs:=[(I6 t.kind),(.slice sa t.set.length sc),(.slice aa t.args.length ac),(I6 t.mn),(I6 t.mx),(.bool t.neg)]) rfl CI BE rfl (Br.cells rfl)) (AF (oj:=_) rfl rfl qD (Aw h2) (Ad (ps:=[(0,(I6 10))]) (c:=#[(I6 10)]) qD rfl underlying22 Ab CW qD qD qK ?_)));intro bx wx Nx;have Fx:=Nx.ge E;have Ox_br:=Nx.lt Br;have Ox_bd:=Nx.lt Bd;replace Br:=Nx.keep Br;replace Bd:=Nx.keep Bd;replace E:=E.ext Nx.ext;have Bx:=Nx.blk;refine AF (oj:=_) rfl rfl qD (Aw h2) (qE rfl (AT (vs:=[(.agg (R6 t sa sc aa ac)),(.slice (some ⟨bx,0,none⟩) 1 1)]) func21 kQ kQ rfl) (V8 _ t _ _ [10] (BR.ext E t a2) (EV Bx rfl qD) qO qD) ?_);rintro _ w49 ⟨rfl,a4⟩;replace Br:=a4.keep Br;replace Bd:=a4.keep Bd;replace Bx:=a4.keep Bx;replace E:=E.ext a4;refine qV (Ac (b:=decide ((partE cs:Int)=0)) (v:=(.bool (Dh [10] t))) rfl (by rw[h2];rfl)) (AA (A3 (b:=Dh [10] t) rfl (fun h3=>?_) (fun h3=>?_)))
   ·have cq:=h3;refine AG (qA (I6 3) rfl (AA (AB (AE (Y (qM (I6 3) rfl (qV (As (k:=.i64) (a:=3) (b:=0) rfl rfl) (AA (AW rfl (AK (AB (AE (Y (qM (I6 3) rfl (qV (CO (k:=.i64) (a:=3) (b:=0) rfl rfl) (AA (A4 rfl (Y (qM (I6 (OvE t cs)) rfl (qM (I6 3) rfl ?_))))))))))))))))))));obtain ⟨e4,bw⟩:∃e,(decide ((OvE t cs:Int)=3))=e:=⟨_,rfl⟩;refine qV ((As (k:=.i64) (a:=OvE t cs) (b:=3) rfl rfl).trans (by rw[bw];try rfl)) (qM (.bool e4) rfl (qG (.bool e4) (yU e4 (P6 bd 2)) (by cases e4<;>first|exact gA|exact gB|exact .inl ⟨rfl,AN (b:=bd) (o:=0) (o':=2) rfl underlying52 rfl CB rfl⟩) (qG (.bool e4) (yU e4 (.slice na d.next.length nc)) (by cases e4<;>first|exact gA|exact gB|exact .inl ⟨rfl,AD (v:=(.slice na d.next.length nc)) rfl B0 (Bd.cell rfl)⟩) (qG (.bool e4) (yU e4 (I6 (d.next.length:Int))) (by cases e4<;>first|exact gA|exact gB|exact .inl ⟨rfl,AH (ad:=na) (n:=d.next.length) (cap:=nc) underlying50 rfl⟩) ?_))));obtain ⟨e5,bq⟩:∃e,(decide ((((d.next.length:Nat):Int):Int)=0))=e:=⟨_,rfl⟩;refine qG (.bool e4) (yU e4 (.bool e5)) (by cases e4<;>first|exact gA|exact gB|exact .inl ⟨rfl,(As (k:=.i64) (a:=(d.next.length:Int)) (b:=0) rfl rfl).trans (by rw[bq];try rfl)⟩) ?_;obtain ⟨e6,b1⟩:∃e,(e4 && e5)=e:=⟨_,rfl⟩;refine qV (Ac (b:=e4) (v:=.bool e6) rfl (by rw[←b1];cases e4<;>rfl)) (qA (.bool e6) rfl (AA ?_));subst b1;subst bq;subst bw;refine AS (AO (AV results4 (v:=(.bool ((decide ((OvE t cs:Int)=3)) && (decide ((((d.next.length:Nat):Int):Int)=0))))) rfl ?_));have hw:ovW t cs=3:=by unfold ovW;rw[if_neg qO,if_neg qO,if_pos h3]
    have he:OvE t cs=3:=(SO (by rw[hw];decide)).trans hw;exact ⟨CG (by rw[he,hz (by rw[he];decide)];rfl),E⟩
   ·have cq:=h3;have hw:ovW t cs=0:=by unfold ovW;rw[if_neg qO,if_neg qO,if_neg (by rw[h3];decide)]
    obtain ⟨cl,bf,hu⟩:=OD hw;obtain ⟨b7,hsz⟩:=(FY qD qD).1 cl;have a8:=Iv (FE b7);refine AK (AB (AE (Y (qM _ rfl (qV (As rfl rfl) (AA (A4 (Aw h2) (Y (qV (AU (vs:=[(I6 t.kind),(.slice sa t.set.length sc),(.slice aa t.args.length ac),(I6 t.mn),(I6 t.mx),(.bool t.neg)]) rfl CI BE rfl (Br.cells rfl)) (qE rfl (AT func22 kQ kQ rfl) ((R0 _ t _ (BR.ext E t a2) qO).mono (R':=fun v w=>(∃a c,v=.slice a (CM t).length c∧Bg w v (CM t))∧Ao _ w) (fun v w h=>⟨by obtain ⟨a,c,h1,_⟩:=h.1.form;exact ⟨a,c,h1,h.1⟩,h.2⟩)) ?_))))))))));rintro _ bb ⟨⟨la,lc,rfl,hS⟩,a5⟩;replace Br:=a5.keep Br;replace Bd:=a5.keep Bd;replace Bx:=a5.keep Bx;replace E:=E.ext a5;have bp:=J_ t;have E2:Chg AZ bb bb:=Chg.refl _ _;refine qV (AH underlying49 rfl) (qM _ rfl (AA (AM (Am (fun nn_ σ W7=>∃(k:Nat) (q:Int),(∃jj_,σ=BQ jj_ [(1,(.slice ca cs.length cc)),(5,(P6 bd 0)),(6,(I6 (OvE t cs))),(36,(.slice la ((CM t).length) lc)),(37,(I6 (((CM t).length:Nat):Int))),(38,(I6 (k:Int))),(7,(I6 q))])∧Chg AZ w0 W7∧Chg AZ bb W7∧Az W7 br (R6 t sa sc aa ac) 48∧Az W7 bd #[(I6 d.start),(.slice ea d.accept.length ec),(.slice na d.next.length nc)] 52∧(k≤(CM t).length)∧(q=0∨(q=3∧OvE t cs=3))∧nn_=(CM t).length - k) (n:=(CM t).length - 0) ?_ ?_))))
    ·exact ⟨0,partE cs,Af.out ⟨rfl,rfl,rfl,rfl,rfl,rfl,rfl,trivial⟩,E,E2,Br,Bd,Nat.zero_le _,.inl bf,rfl⟩
    ·clear E E2 Br Bd;rintro _ _ W7 ⟨k,q,⟨j7,rfl⟩,E,E2,Br,Bd,hk,hq,rfl⟩;refine Y (qV (Av rfl rfl) (AA (AE (qC rfl (fun ce=>?_) (fun ce=>?_)))))
     ·obtain ⟨s,hx⟩:=AL (l:=CM t) (i:=k) qO;obtain ⟨sb,so,rfl,co⟩:=CD hS qO;obtain ⟨ra,rc,ak,cd⟩:=co k s hx;have bs:=a8 s (List.mem_of_getElem? hx);obtain ⟨us,bv,b6,b4⟩:=(hC.ext E).vals;have a7:=cd.ext E2;obtain ⟨n5,bj⟩:∃n5,n5=(W7).heap.size:=⟨_,rfl⟩;have cr:br<n5∧bd<n5:=⟨by rw[bj];exact Br.lt,by rw[bj];exact Bd.lt⟩;have E2s:=E2;have E7:Chg AZ W7 W7:=Chg.refl _ _;refine AK (AB (AE (AM (Y (qV (AC (b:=sb) (o:=so) (len:=(CM t).length) (cap:=lc) (i:=k) (o':=so+k) rfl rfl rfl underlying49 BW qO qO) (qV (AD rfl CC (E2.cell (fun f=>f) ak)) (qA _ rfl (AA (Y (IT qD underlying49 BW ?_))))))))));intro bz wz Nz;have Fz:=Nz.ge E;have Fz_E2:=Nz.ge E2;have Fz_E7:=Nz.ge E7;have Oz_br:=Nz.lt Br;have Oz_bd:=Nz.lt Bd;replace Br:=Nz.keep Br;replace Bd:=Nz.keep Bd;replace E:=E.ext Nz.ext;have Bz:=Nz.blk;replace E2:=E2.ext Nz.ext;replace E7:=E7.ext Nz.ext;refine qM _ rfl ?_;have aq:=Hc (base:=n5) (size:=1) Bz (by have:=Nz.eq;omega);refine JZ (base:=n5) (n:=0) (m:=cs.length) (xs:=[]) (news:=us) (size:=1) (bytes:=24) (v:=(.slice (some ⟨bz,0,none⟩) 0 0)) qD underlying49 BW MI G4 rfl qD rfl aq rfl (qO) (Rg (bv.ext Nz.ext)) (bv.2) (by unfold maxLen;omega) qO ((by have:=Nz.ext.size;omega)) ?_;intro v9 w69 ah a6 Dv9;replace Br:=a6.keep (fun h=>by have:=(aq.lt _ h).1;omega) Br;replace Bd:=a6.keep (fun h=>by have:=(aq.lt _ h).1;omega) Bd;replace E:=E.step a6 (fun x hx h=>absurd (aq.lt x h).1 qO);replace E7:=E7.step a6 (fun x hx h=>absurd (aq.lt x h).1 qO);obtain ⟨cj,b3,rfl⟩:=A9 ah;replace E2:=Ao.trans E2s E7;refine qM _ rfl (Ad (ps:=[(0,(.slice ra s.length rc))]) (c:=#[(.slice ra s.length rc)]) qD rfl underlying49 BW G4 qD qD qK ?_);intro bu wu Nu;have Fu:=Nu.ge E;have Fu_E2:=Nu.ge E2;have Fu_E7:=Nu.ge E7;have Ou_br:=Nu.lt Br;have Ou_bd:=Nu.lt Bd;replace Br:=Nu.keep Br;replace Bd:=Nu.keep Bd;replace ah:=Aj ah Nu.ext;replace E:=E.ext Nu.ext;have Bu:=Nu.blk;replace E2:=E2.ext Nu.ext;replace E7:=E7.ext Nu.ext;refine BT (base:=n5) (n:=(0+cs.length)) (m:=1) (xs:=([]++us)) (news:=[(.slice ra s.length rc)]) (size:=1) (bytes:=24) (v:=(.slice cj (0+cs.length) b3)) qD underlying49 BW MI G4 rfl qD rfl ah rfl (rfl) (Bu.cells rfl) qS (by unfold maxLen;omega) qO ((by have:=E7.size;omega)) ?_;intro v8 ck bi a3 Dv8;replace Br:=a3.keep (fun h=>by have:=(ah.lt _ h).1;omega) Br;replace Bd:=a3.keep (fun h=>by have:=(ah.lt _ h).1;omega) Bd;replace E:=E.step a3 (fun x hx h=>absurd (ah.lt x h).1 qO);replace E7:=E7.step a3 (fun x hx h=>absurd (ah.lt x h).1 qO);obtain ⟨b5,cb,rfl⟩:=A9 bi;replace E2:=Ao.trans E2s E7;have cp:(ck).ownsRow n5 M_ 1 (.slice b5 (0+cs.length+1) cb) (0+cs.length+1) (us++[.slice ra s.length rc]):=by have h8:=bi;simp only[List.nil_append] at h8;exact h8
      have cg:=Qd (A:=cs) (B:=[s]) (SJ cp (by simp;omega)) b6 rfl (fun i u l hu hl=>(b4 i u l hu hl).ext E7) (fun i u l hu hl=>by cases i with|zero=>simp at hu hl;subst hu;subst hl;exact a7.ext E7|succ i=>simp at hl);obtain ⟨z1,z2⟩:=O' bf (CE bs).2;refine qE rfl (AT func23 kQ kQ rfl) (XH _ _ (cs++[s]) cg z1 z2) ?_;rintro _ w89 ⟨⟨on,en,ch,an,cn,rfl,hn⟩,a0⟩;replace Br:=a0.keep Br;replace Bd:=a0.keep Bd;replace E:=E.ext a0;replace E2:=E2.ext a0;replace E7:=E7.ext a0;refine qM _ rfl (qV (Ai rfl rfl) (qV (Ai rfl rfl) (qA _ rfl (qA _ rfl (AA (Y (qM _ rfl ?_)))))));obtain ⟨e9,bh⟩:∃e,(decide ((en:Int)≠0))=e:=⟨_,rfl⟩;refine qV ((CO rfl rfl).trans (by rw[bh];try rfl)) (qM _ rfl (qG (.bool e9) (nU e9 (.slice an on.length cn)) (by cases e9<;>first|exact gA|exact gB|exact .inl ⟨rfl,Ah rfl⟩) (qG (.bool e9) (nU e9 (I6 (on.length:Int))) (by cases e9<;>first|exact gA|exact gB|exact .inl ⟨rfl,AH underlying49 rfl⟩) (qG (.bool e9) (nU e9 (.slice ca cs.length cc)) (by cases e9<;>first|exact gA|exact gB|exact .inl ⟨rfl,Ah rfl⟩) (qG (.bool e9) (nU e9 (I6 (cs.length:Int))) (by cases e9<;>first|exact gA|exact gB|exact .inl ⟨rfl,AH underlying49 rfl⟩) ?_)))));obtain ⟨bo,am⟩:∃e,(decide ((((on.length:Nat):Int):Int)≠((cs.length:Nat):Int)))=e:=⟨_,rfl⟩;refine qG (.bool e9) (nU e9 (.bool bo)) (by cases e9<;>first|exact gA|exact gB|exact .inl ⟨rfl,(CO rfl rfl).trans (by rw[am];try rfl)⟩) ?_;obtain ⟨cf,aw⟩:∃e,(e9 || bo)=e:=⟨_,rfl⟩;refine qV (Ac (v:=.bool cf) rfl (by rw[←aw];cases e9<;>rfl)) (AA ?_);subst aw;subst am;subst bh;refine A3 rfl (fun ag=>?_) (fun ag=>?_)
      ·have ay:=ag;refine AG (qA _ rfl (AA (AP (AB (AG (qV (Aq rfl rfl (A2 qO)) (qM _ rfl (AA (AB ?_)))))))));exact ⟨(CM t).length - (k+1),qO,k+1,3,Af.out ⟨rfl,rfl,rfl,rfl,rfl,rfl,rfl,trivial⟩,E,E2,Br,Bd,qO,.inr ⟨rfl,UU hw (List.mem_of_getElem? hx) fun b9=>by obtain ⟨e1,e2⟩:=TJ bf b9 bs ch;rw[e1,e2] at ag;simp at ag⟩,rfl⟩
      ·have ay:=ag;refine AK (AP (AB (AG (qV (Aq rfl rfl (A2 qO)) (qM _ rfl (AA (AB ?_)))))));exact ⟨(CM t).length - (k+1),qO,k+1,q,Af.out ⟨rfl,rfl,rfl,rfl,rfl,rfl,rfl,trivial⟩,E,E2,Br,Bd,qO,hq,rfl⟩
     ·refine Ak (AR (AR (Ae (AB (AE (Y (qM _ rfl (qV (CO rfl rfl) (AA (qC rfl (fun bk=>?_) (fun bk=>?_)))))))))))
      ·refine Y (qM _ rfl (qM _ rfl ?_));obtain ⟨af,au⟩:∃e,(decide ((OvE t cs:Int)=q))=e:=⟨_,rfl⟩;refine qV ((As rfl rfl).trans (by rw[au];try rfl)) (qM _ rfl (qG (.bool af) (yU af (P6 bd 2)) (by cases af<;>first|exact gA|exact gB|exact .inl ⟨rfl,AN rfl underlying52 rfl CB rfl⟩) (qG (.bool af) (yU af (.slice na d.next.length nc)) (by cases af<;>first|exact gA|exact gB|exact .inl ⟨rfl,AD rfl B0 (Bd.cell rfl)⟩) (qG (.bool af) (yU af (I6 (d.next.length:Int))) (by cases af<;>first|exact gA|exact gB|exact .inl ⟨rfl,AH underlying50 rfl⟩) ?_))));obtain ⟨b0,al⟩:∃e,(decide ((((d.next.length:Nat):Int):Int)=0))=e:=⟨_,rfl⟩;refine qG (.bool af) (yU af (.bool b0)) (by cases af<;>first|exact gA|exact gB|exact .inl ⟨rfl,(As rfl rfl).trans (by rw[al];try rfl)⟩) ?_;obtain ⟨b8,a1⟩:∃e,(af && b0)=e:=⟨_,rfl⟩;refine qV (Ac (v:=.bool b8) rfl (by rw[←a1];cases af<;>rfl)) (qA _ rfl (AA ?_));subst a1;subst al;subst au;refine AS (AO (AV results4 (v:=(.bool ((decide ((OvE t cs:Int)=q)) && (decide ((((d.next.length:Nat):Int):Int)=0))))) rfl ?_));obtain ⟨rfl,he⟩:=hq.resolve_left bk;exact ⟨CG (by rw[he,hz (by rw[he];decide)];rfl),E⟩
      ·refine AK (AB (Y (qA _ rfl (AA (AS (AV results4 (v:=(.bool true)) rfl ?_))))));exact ⟨rfl,E⟩
  ·have ap:=h2;replace ap:=of_decide_eq_false ap;refine AJ rfl rfl qD (v:=.bool false) (Aw h2) (Or.inl rfl) (AJ rfl rfl qD (v:=.bool false) (Aw h2) (Or.inl rfl) (AJ (oj:=_) rfl rfl qD (v:=.bool false) (Aw h2) (Or.inl rfl) (qV (Ac (b:=decide ((partE cs:Int)=0)) (v:=(.bool false)) rfl (by rw[h2];rfl)) (AA (AW rfl (AK (AB (AE (Y (qM (I6 (partE cs)) rfl (qV (As (k:=.i64) (a:=partE cs) (b:=0) rfl rfl) (AA (AW (Aw h2) (AK (AB (AE (Y (qM (I6 (partE cs)) rfl (qV (CO (k:=.i64) (a:=partE cs) (b:=0) rfl rfl) (AA ?_))))))))))))))))))));have ba:(decide ((partE cs:Int)≠0))=true:=decide_eq_true (of_decide_eq_false h2);refine A4 (Aw ba) (Y (qM (I6 (OvE t cs)) rfl (qM (I6 (partE cs)) rfl ?_)));obtain ⟨ae,ax⟩:∃e,(decide ((OvE t cs:Int)=partE cs))=e:=⟨_,rfl⟩;refine qV ((As (k:=.i64) (a:=OvE t cs) (b:=partE cs) rfl rfl).trans (by rw[ax];try rfl)) (qM (.bool ae) rfl (qG (.bool ae) (yU ae (P6 bd 2)) (by cases ae<;>first|exact gA|exact gB|exact .inl ⟨rfl,AN (b:=bd) (o:=0) (o':=2) rfl underlying52 rfl CB rfl⟩) (qG (.bool ae) (yU ae (.slice na d.next.length nc)) (by cases ae<;>first|exact gA|exact gB|exact .inl ⟨rfl,AD (v:=(.slice na d.next.length nc)) rfl B0 (Bd.cell rfl)⟩) (qG (.bool ae) (yU ae (I6 (d.next.length:Int))) (by cases ae<;>first|exact gA|exact gB|exact .inl ⟨rfl,AH (ad:=na) (n:=d.next.length) (cap:=nc) underlying50 rfl⟩) ?_))));obtain ⟨bt,ar⟩:∃e,(decide ((((d.next.length:Nat):Int):Int)=0))=e:=⟨_,rfl⟩;refine qG (.bool ae) (yU ae (.bool bt)) (by cases ae<;>first|exact gA|exact gB|exact .inl ⟨rfl,(As (k:=.i64) (a:=(d.next.length:Int)) (b:=0) rfl rfl).trans (by rw[ar];try rfl)⟩) ?_;obtain ⟨bm,aj⟩:∃e,(ae && bt)=e:=⟨_,rfl⟩;refine qV (Ac (b:=ae) (v:=.bool bm) rfl (by rw[←aj];cases ae<;>rfl)) (qA (.bool bm) rfl (AA ?_));subst aj;subst ar;subst ax;refine AS (AO (AV results4 (v:=(.bool ((decide ((OvE t cs:Int)=partE cs)) && (decide ((((d.next.length:Nat):Int):Int)=0))))) rfl ?_));have hw:ovW t cs=partE cs:=by unfold ovW;rw[if_neg qO,if_pos (of_decide_eq_false h2)]
   have he:OvE t cs=partE cs:=(SO (by rw[hw];exact of_decide_eq_false h2)).trans hw;exact ⟨CG (by rw[he,hz (by rw[he];exact of_decide_eq_false h2)];simp),E⟩
 ·have ai:=decide_eq_false h1;refine AK (AB (AE (Y (qM _ rfl (qV (As rfl rfl) (qM _ rfl (AJ rfl rfl qD (v:=.bool false) (Aw ai) (Or.inl rfl) (AJ rfl rfl qD (v:=.bool false) (Aw ai) (Or.inl rfl) (AJ rfl rfl qD (v:=.bool false) (Aw ai) (Or.inl rfl) (qV (Ac (v:=(.bool false)) rfl (by rw[ai];rfl)) (AA (AW rfl (AK (AB (AE (Y (qM _ rfl (qV (As (k:=.i64) (a:=Cb t 40) (b:=0) rfl rfl) (AA (AW (Aw ai) ?_))))))))))))))))))));refine AK (AB (AE (Y (qM (I6 (Cb t 40)) rfl (qV (CO (k:=.i64) (a:=Cb t 40) (b:=0) rfl rfl) (AA ?_))))));have bc:(decide ((Cb t 40:Int)≠0))=true:=decide_eq_true h1;refine A4 (Aw bc) (Y (qM (I6 (OvE t cs)) rfl (qM (I6 (Cb t 40)) rfl ?_)));obtain ⟨ab,az⟩:∃e,(decide ((OvE t cs:Int)=Cb t 40))=e:=⟨_,rfl⟩;refine qV ((As (k:=.i64) (a:=OvE t cs) (b:=Cb t 40) rfl rfl).trans (by rw[az];try rfl)) (qM (.bool ab) rfl (qG (.bool ab) (yU ab (P6 bd 2)) (by cases ab<;>first|exact gA|exact gB|exact .inl ⟨rfl,AN (b:=bd) (o:=0) (o':=2) rfl underlying52 rfl CB rfl⟩) (qG (.bool ab) (yU ab (.slice na d.next.length nc)) (by cases ab<;>first|exact gA|exact gB|exact .inl ⟨rfl,AD (v:=(.slice na d.next.length nc)) rfl B0 (Bd.cell rfl)⟩) (qG (.bool ab) (yU ab (I6 (d.next.length:Int))) (by cases ab<;>first|exact gA|exact gB|exact .inl ⟨rfl,AH (ad:=na) (n:=d.next.length) (cap:=nc) underlying50 rfl⟩) ?_))));obtain ⟨bn,ao⟩:∃e,(decide ((((d.next.length:Nat):Int):Int)=0))=e:=⟨_,rfl⟩;refine qG (.bool ab) (yU ab (.bool bn)) (by cases ab<;>first|exact gA|exact gB|exact .inl ⟨rfl,(As (k:=.i64) (a:=(d.next.length:Int)) (b:=0) rfl rfl).trans (by rw[ao];try rfl)⟩) ?_;obtain ⟨b2,av⟩:∃e,(ab && bn)=e:=⟨_,rfl⟩;refine qV (Ac (b:=ab) (v:=.bool b2) rfl (by rw[←av];cases ab<;>rfl)) (qA (.bool b2) rfl (AA ?_));subst av;subst ao;subst az;refine AS (AO (AV results4 (v:=(.bool ((decide ((OvE t cs:Int)=Cb t 40)) && (decide ((((d.next.length:Nat):Int):Int)=0))))) rfl ?_));have hw:ovW t cs=Cb t 40:=by unfold ovW;rw[if_pos h1]
  have he:OvE t cs=Cb t 40:=(SO (by rw[hw];exact h1)).trans hw;exact ⟨CG (by rw[he,hz (by rw[he];exact h1)];simp),E⟩
end Go.Proofs
namespace Go.Proofs
open Go Go.Eng
set_option maxRecDepth 100000
section
variable {H : Type} {enc : TypeId × Value → H} {P : Program} {w : World} {base : Nat} {spare : Nat → Bool} {held : Bool}
theorem Gh {a:Addr} {k:Nat} {cs:List Value} (hk:0<k) (h:w.cells? base a k=some cs):∃b o,a=⟨b,o,none⟩∧cs.length=k∧A' w b o cs:=by
 obtain ⟨j,f,e⟩:=World.cells?_some h;obtain ⟨b,o,s⟩:=a;have d:cs.length=k:=by first|exact f|exact j|omega
 have g:=e 0 qO;have hs:s=none:=by
  cases s with
  | none=>rfl
  | some s=>
   exfalso;have l:∃v,w.cell? ⟨b,o,some s⟩=some v:=⟨_,by simpa[Addr.add,List.getElem?_eq_getElem (show 0<cs.length by omega)] using g⟩;obtain ⟨v,c⟩:=l;simp[World.cell?] at c;cases hh:w.heap[b]?<;>simp[hh] at c;split at c<;>simp at c
 subst hs;refine ⟨b,o,O,d,λi v c=>?_⟩;have:=e i (by have:=AI c;omega);rw[Addr.add_lit] at this;rw[this,c]
theorem KC {α:Type} {f:α->List Value}:∀{rows:List (List Value)},(∀r∈rows,∃y,r=f y)->∃l:List α,rows=l.map f
 | [],_=>⟨[],O⟩
 | r::rows,h=>by
  obtain ⟨y,b⟩:=h r qP;obtain ⟨l,d⟩:=KC (rows:=rows) (f:=f) λc a=>h c (List.mem_cons_of_mem _ a);exact ⟨y::l,by rw[b,d];rfl⟩
theorem Qs {t e k j:Nat} {cs:List Value} {x:DataW H×List MemPlace} {R:List Value->Prop} (M:P.underlying t=some (.slice e)) (N:P.cellsOf e=k) (B:0<k)
 (h:DataW.trod enc P w base spare held j t cs=some x) (F:∀n c y,n<j->DataW.trod enc P w base spare held n e c=some y->R c) :
 ∃a rows cap,cs=[.slice a rows.length cap]∧BL w k (.slice a rows.length cap) rows∧(∀r∈rows,R r∧r.length=k)∧rows.length<=cap∧cap<=maxLen:=by
 rcases DataW.trod_slice M h with ⟨rfl,_⟩|⟨a,len,cap,elems,rest,n,rfl,rfl,_,hb,hl,C,hlen,z,_,_⟩
 .exact ⟨none,[],0,O,BL.nil _ _ _ _,qP,qP,by simp[maxLen]⟩
 .have u:∀i,i<len->∃c,w.cells? base (a.add (i*k)) k=some c∧R c:=by
   intro i hi;have:=z i hi;rw[List.getElem?_eq_getElem qO,N,Option.bind_eq_some_iff] at this;obtain ⟨c,p,g⟩:=this;exact ⟨c,p,F n c _ qO g⟩
  have D:∀m,m<=len->∃rows:List (List Value),rows.length=m∧∀i r,rows[i]?=some r->w.cells? base (a.add (i*k)) k=some r∧R r:=by
   intro m
   induction m with
   | zero=>intro _;exact ⟨[],O,qP⟩
   | succ m ih=>
    intro C;obtain ⟨rows,p,g⟩:=ih qO;obtain ⟨c,q,J⟩:=u m qO;refine ⟨rows++[c],by simp[p],λi r f=>?_⟩;rcases Nat.lt_or_ge i rows.length with hi|hi
    .rw[List.getElem?_append_left hi] at f;exact g i r f
    .rw[List.getElem?_append_right hi] at f;have E:=AI f;simp at E;obtain rfl:i=m:=qO
     simp[p] at f;subst f;exact ⟨q,J⟩
  obtain ⟨rows,A,d⟩:=D len (Nat.le_refl _);have s:rows.length<=9223372036854775807:=by simp only[maxLen] at C;omega
  refine ⟨some a,rows,cap,by rw[A],⟨some a,cap,O,s,qO,?_⟩,?_,qO,C⟩
  .rcases Nat.eq_zero_or_pos len with K|K
   .left;exact List.eq_nil_of_length_eq_zero qO
   .right;obtain ⟨I,v⟩:=AL (l:=rows) (i:=0) qO;have p:=(d 0 I v).1;have G:a.add (0*k)=a:=by simp[Addr.add]
    rw[G] at p;obtain ⟨b,o,rfl,_,_⟩:=Gh B p;refine ⟨b,o,O,λi r f=>?_⟩;have g:=(d i r f).1;rw[Addr.add_lit] at g;obtain ⟨b',o',L,_,q⟩:=Gh B g;cases L;exact q
  .intro r f;obtain ⟨i,hi⟩:=List.mem_iff_getElem?.1 f;have g:=d i r hi;obtain ⟨_,_,_,q,_⟩:=Gh B g.1;exact ⟨g.2,q⟩
end
section
variable {H : Type} {enc : TypeId × Value → H} {w : World} {base : Nat} {spare : Nat → Bool} {held : Bool}
theorem M3:prog.cellsOf 74=2:=by kernel_rfl
theorem QU:prog.cellsOf 48=6:=by kernel_rfl
theorem Ta:prog.cellsOf 3=1:=by kernel_rfl
theorem WJ:prog.cellsOf 4=1:=by kernel_rfl
theorem U3:prog.cellsOf 46=1:=by kernel_rfl
theorem QV:prog.cellsOf 37=1:=by kernel_rfl
theorem Lr {c:Nat} {cs:List Value} {x:DataW H×List MemPlace} (h:DataW.trod enc prog w base spare held c 74 cs=some x):∃s:Int×Int,cs=BP s:=by
 obtain ⟨xs,n,rfl,_,g,k,i⟩:=DataW.trod_struct underlying74 h;rw[M3] at g
 match cs,g with
 | [c0,c1],_=>
  have d:DataW.trod enc prog w base spare held n 3 (([c0,c1].drop 0).take (prog.cellsOf 3))=xs[0]?:=i 0 _ O;have e:DataW.trod enc prog w base spare held n 3 (([c0,c1].drop 1).take (prog.cellsOf 3))=xs[1]?:=i 1 _ O;simp only[Ta,List.drop,List.take] at d e;rw[List.getElem?_eq_getElem (by rw[k];decide)] at d e;obtain ⟨a,j,_⟩:=DataW.trod_int underlying3 d;obtain ⟨b,f,_⟩:=DataW.trod_int underlying3 e;simp at j f;subst j;subst f;exact ⟨(a,b),O⟩
theorem PE {b:Nat} {cs:List Value} {x:DataW H×List MemPlace} (h:DataW.trod enc prog w base spare held b 37 cs=some x):∃a l cap,cs=[.slice a l.length cap]∧A6 w (.slice a l.length cap) l:=by
 obtain ⟨a,rows,cap,rfl,f,c,_⟩:=Qs (R:=λcs=>∃s:Int×Int,cs=BP s) underlying37 M3 qD h (λn cs' y _ e=>Lr e);obtain ⟨l,rfl⟩:=KC λr d=>(c r d).1;exact ⟨a,l,cap,qP,by simpa[A6] using f⟩
end
end Go.Proofs
namespace Go.Proofs
open Go Go.Eng
set_option maxRecDepth 100000
section
variable {H : Type} {enc : TypeId × Value → H} {P : Program} {w : World} {base : Nat} {spare : Nat → Bool} {held : Bool}
theorem H_ {t e k q:Nat} {cs:List Value} {x:DataW H×List MemPlace} {R:List Value->DataW H->Prop} (T:P.underlying t=some (.slice e)) (U:P.cellsOf e=k) (E:0<k)
 (h:DataW.trod enc P w base spare held q t cs=some x) (L:∀n c y,n<q->DataW.trod enc P w base spare held n e c=some y->R c y.1) :
 ∃a rows cap,cs=[.slice a rows.length cap]∧BL w k (.slice a rows.length cap) rows∧(∀r∈rows,r.length=k)∧rows.length<=cap∧cap<=maxLen∧
  (rows=[]∨∃ds K,x.1=.slice ds K∧ds.length=rows.length∧∀(i:Nat) r,rows[i]?=some r->∃d,ds[i]?=some d∧R r d):=by
 rcases DataW.trod_slice T h with ⟨rfl,_⟩|⟨a,len,cap,g,rest,n,rfl,rfl,rfl,hb,hl,G,hlen,B,_,_⟩
 .exact ⟨none,[],0,O,BL.nil _ _ _ _,qP,qP,by simp[maxLen],.inl O⟩
 .have z:∀i,i<len->∃c y,w.cells? base (a.add (i*k)) k=some c∧g[i]?=some y∧R c y.1:=by
   intro i hi;have:=B i hi;rw[List.getElem?_eq_getElem qO,U,Option.bind_eq_some_iff] at this;obtain ⟨c,s,p⟩:=this;exact ⟨c,_,s,List.getElem?_eq_getElem qO,L n c _ qO p⟩
  have I:∀m,m<=len->∃rows:List (List Value),rows.length=m∧∀(i:Nat) r,rows[i]?=some r->w.cells? base (a.add (i*k)) k=some r∧∃y,g[i]?=some y∧R r y.1:=by
   intro m
   induction m with
   | zero=>intro _;exact ⟨[],O,qP⟩
   | succ m ih=>
    intro G;obtain ⟨rows,s,p⟩:=ih qO;obtain ⟨c,y,u,F,C⟩:=z m qO;refine ⟨rows++[c],by simp[s],λi r j=>?_⟩;rcases Nat.lt_or_ge i rows.length with hi|hi
    .rw[List.getElem?_append_left hi] at j;exact p i r j
    .rw[List.getElem?_append_right hi] at j;have J:=AI j;simp at J;obtain rfl:i=m:=qO
     simp[s] at j;subst j;exact ⟨u,y,F,C⟩
  obtain ⟨rows,D,f⟩:=I len (Nat.le_refl _);have v:rows.length<=9223372036854775807:=by simp only[maxLen] at G;omega
  refine ⟨some a,rows,cap,by rw[D],⟨some a,cap,O,v,qO,?_⟩,?_,qO,G,.inr ⟨g.map (·.1),rest.map (·.1),O,by simp;omega,λi r j=>?_⟩⟩
  .rcases Nat.eq_zero_or_pos len with Q|Q
   .left;exact List.eq_nil_of_length_eq_zero qO
   .right;obtain ⟨N,A⟩:=AL (l:=rows) (i:=0) qO;have s:=(f 0 N A).1;have M:a.add (0*k)=a:=by simp[Addr.add]
    rw[M] at s;obtain ⟨b,o,rfl,_,_⟩:=Gh E s;refine ⟨b,o,O,λi r j=>?_⟩;have p:=(f i r j).1;rw[Addr.add_lit] at p;obtain ⟨b',o',S,_,u⟩:=Gh E p;cases S;exact u
  .intro r j;obtain ⟨i,hi⟩:=List.mem_iff_getElem?.1 j;have p:=f i r hi;obtain ⟨_,_,_,u,_⟩:=Gh E p.1;exact u
  .obtain ⟨_,y,F,C⟩:=f i r j;exact ⟨y.1,by simp[F],C⟩
end
section
variable {H : Type} {enc : TypeId × Value → H} {w : World} {base : Nat} {spare : Nat → Bool} {held : Bool}
theorem Th {l:List (DataW H)} {i:Nat} {d:DataW H} (h:l[i]?=some d):YtmkajlkbimgngaaGreat.Rows.uptoBulk d<=YtmkajlkbimgngaaGreat.Rows.uptoBulkAll l:=by
 induction l generalizing i with
 | nil=>simp at h
 | cons x r ih=>
  simp only[YtmkajlkbimgngaaGreat.Rows.uptoBulkAll];cases i with
  | zero=>simp at h;subst h;omega
  | succ i=>have:=ih (i:=i) (by simpa using h);omega
theorem MY {b o:Nat}:∀{rows:List (List Value)} {ds:List (DataW H)},ds.length=rows.length->(∀(i:Nat) r,rows[i]?=some r->A' w b (o+i*6) r∧∃d,ds[i]?=some d∧∃t,BR w t r∧t.size<=YtmkajlkbimgngaaGreat.Rows.uptoBulk d)->∃ts:List Re,ts.length=rows.length∧(∀(i:Nat) t,ts[i]?=some t->∃vs,A' w b (o+i*6) vs∧BR w t vs)∧Re.sizes ts<=YtmkajlkbimgngaaGreat.Rows.uptoBulkAll ds:=by
 intro rows ds x h;have k:∀m,m<=rows.length->∃ts:List Re,ts.length=m∧(∀(i:Nat) t,ts[i]?=some t->∃vs,A' w b (o+i*6) vs∧BR w t vs)∧Re.sizes ts<=YtmkajlkbimgngaaGreat.Rows.uptoBulkAll (ds.take m):=by
  intro m
  induction m with
  | zero=>intro _;exact ⟨[],O,qP,by simp[Re.sizes]⟩
  | succ m ih=>
   intro hm;obtain ⟨ts,g,j,n⟩:=ih qO;obtain ⟨r,s⟩:=AL (l:=rows) (i:=m) qO;obtain ⟨v,d,hd,t,u,h6⟩:=h m r s;refine ⟨ts++[t],by simp[g],λi t' e=>?_,?_⟩
   .rcases Nat.lt_or_ge i ts.length with hi|hi
    .rw[List.getElem?_append_left hi] at e;exact j i t' e
    .rw[List.getElem?_append_right hi] at e;have q:=AI e;simp at q;obtain rfl:i=m:=qO
     simp[g] at e;subst e;exact ⟨r,v,u⟩
   .have f:∀(a c:List (DataW H)),YtmkajlkbimgngaaGreat.Rows.uptoBulkAll (a++c)=YtmkajlkbimgngaaGreat.Rows.uptoBulkAll a+YtmkajlkbimgngaaGreat.Rows.uptoBulkAll c:=by
     intro a c
     induction a with
     | nil=>simp[YtmkajlkbimgngaaGreat.Rows.uptoBulkAll]
     | cons y a p=>simp only[List.cons_append,YtmkajlkbimgngaaGreat.Rows.uptoBulkAll,p];omega
    rw[List.take_add_one,hd,f,Re.sizes_append];simp only[Option.toList_some,YtmkajlkbimgngaaGreat.Rows.uptoBulkAll,Re.sizes];omega
 obtain ⟨ts,g,j,n⟩:=k rows.length (Nat.le_refl _);rw[<-x,List.take_length] at n;exact ⟨ts,g,j,n⟩
theorem SQ:∀(a:Nat) {cs:List Value} {x:DataW H×List MemPlace},DataW.trod enc prog w base spare held a 48 cs=some x->∃t,BR w t cs∧t.size<=YtmkajlkbimgngaaGreat.Rows.uptoBulk x.1:=by
 intro a
 induction a using Nat.strongRecOn with
 | _ a ih=>
 intro cs x h;obtain ⟨xs,n,rfl,rfl,S,N,f⟩:=DataW.trod_struct underlying48 h;rw[QU] at S
 match cs,S with
 | [c0,c1,c2,c3,c4,c5],_=>
  have C:DataW.trod enc prog w base spare held n 3 (([c0,c1,c2,c3,c4,c5].drop 0).take (prog.cellsOf 3))=xs[0]?:=f 0 _ O;have E:DataW.trod enc prog w base spare held n 37 (([c0,c1,c2,c3,c4,c5].drop 1).take (prog.cellsOf 37))=xs[1]?:=f 1 _ O;have z:DataW.trod enc prog w base spare held n 46 (([c0,c1,c2,c3,c4,c5].drop 2).take (prog.cellsOf 46))=xs[2]?:=f 2 _ O;have v:DataW.trod enc prog w base spare held n 3 (([c0,c1,c2,c3,c4,c5].drop 3).take (prog.cellsOf 3))=xs[3]?:=f 3 _ O;have B:DataW.trod enc prog w base spare held n 3 (([c0,c1,c2,c3,c4,c5].drop 4).take (prog.cellsOf 3))=xs[4]?:=f 4 _ O;have u:DataW.trod enc prog w base spare held n 4 (([c0,c1,c2,c3,c4,c5].drop 5).take (prog.cellsOf 4))=xs[5]?:=f 5 _ O;simp only[Ta,WJ,U3,QV,List.drop,List.take] at C E z v B u;have hlen6:xs.length=6:=N;obtain ⟨U,j⟩:=AL (l:=xs) (i:=2) qO;have g:YtmkajlkbimgngaaGreat.Rows.uptoBulk U.1<=YtmkajlkbimgngaaGreat.Rows.uptoBulkAll (xs.map (·.1)):=Th (i:=2) (by simp[j]);have hbx:YtmkajlkbimgngaaGreat.Rows.uptoBulk (DataW.agg (xs.map (·.1)))=YtmkajlkbimgngaaGreat.Rows.uptoBulkAll (xs.map (·.1))+1:=by simp only[YtmkajlkbimgngaaGreat.Rows.uptoBulk]
  rw[j] at z;rw[List.getElem?_eq_getElem (by rw[N];decide)] at C E v B u;obtain ⟨k,K,_⟩:=DataW.trod_int underlying3 C;obtain ⟨mn,M,_⟩:=DataW.trod_int underlying3 v;obtain ⟨mx,P,_⟩:=DataW.trod_int underlying3 B;obtain ⟨G,J,_⟩:=DataW.trod_bool underlying4 u;obtain ⟨sa,set,sc,L,hs⟩:=PE E;obtain ⟨aa,rows,ac,Q,T,hrows,hcap,e,q⟩:=H_ (R:=λcs d=>∃t,BR w t cs∧t.size<=YtmkajlkbimgngaaGreat.Rows.uptoBulk d) underlying46 QU qD z (λm cs' y hm D=>ih m qO D);simp at K L Q M P J;subst K;subst L;subst Q;subst M;subst P;subst J;rcases Nat.eq_zero_or_pos rows.length with p|p
  .have:rows=[]:=List.eq_nil_of_length_eq_zero p;subst this;refine ⟨.mk k set [] mn mx G,BR.of (args:=[]) hs ⟨qP,by simp only[maxLen] at e;omega⟩ (.inl O),?_⟩;simp only[Re.size,Re.sizes];omega
  .obtain ⟨b,o,O,c⟩:=BL.at T p;rcases q with rfl|⟨ds,sp,D,F,hd⟩
   .simp at p
   obtain ⟨ts,s,A,hsz⟩:=MY (w:=w) (b:=b) (o:=o) (rows:=rows) F λi r I=>⟨c i r I,hd i r I⟩;refine ⟨.mk k set ts mn mx G,?_,?_⟩
   .rw[<-s];exact BR.of hs ⟨qO,by simp only[maxLen] at e;omega⟩ (.inr ⟨b,o,O,C4.mk A⟩)
   .rw[D] at g;simp only[YtmkajlkbimgngaaGreat.Rows.uptoBulk] at g;simp only[Re.size];omega
end
end Go.Proofs
namespace Go.Proofs
open Go Go.Eng
set_option maxRecDepth 100000
section
variable {H : Type} {enc : TypeId × Value → H} {w : World} {base : Nat} {spare : Nat → Bool} {held : Bool}
def VB (d:DataW H) (n:Nat):Prop:=n=0∨∃ds sp,d=.slice ds sp∧ds.length=n
theorem OF {c:Nat} {cs:List Value} {x:DataW H×List MemPlace} (h:DataW.trod enc prog w base spare held c 37 cs=some x):∃a l cap,cs=[.slice a l.length cap]∧A6 w (.slice a l.length cap) l∧VB x.1 l.length:=by
 obtain ⟨a,rows,cap,rfl,m,h2,_,_,g⟩:=H_ (R:=λcs _=>∃s:Int×Int,cs=BP s) underlying37 M3 qD h (λn cs' y _ k=>Lr k);have j:∀r∈rows,∃s:Int×Int,r=BP s:=by
  intro r e;rcases g with rfl|⟨ds,f,_,_,b⟩
  .cases e
  .obtain ⟨i,hi⟩:=List.mem_iff_getElem?.1 e;obtain ⟨_,_,d⟩:=b i r hi;exact d
 obtain ⟨l,rfl⟩:=KC j;refine ⟨a,l,cap,qP,by simpa[A6] using m,?_⟩;rcases g with b|⟨ds,f,b,d,_⟩
 .left;simpa using b
 .right;exact ⟨ds,f,b,by simpa using d⟩
theorem QW:∀(l:List (DataW H)),l.length<=YtmkajlkbimgngaaGreat.Rows.uptoBulkAll l
 | []=>Nat.le_refl _
 | d::r=>by
  have h1:=QW r;have h2:1<=YtmkajlkbimgngaaGreat.Rows.uptoBulk d:=by cases d<;>first|(simp[YtmkajlkbimgngaaGreat.Rows.uptoBulk];done)|(rename_i l;cases l<;>simp[YtmkajlkbimgngaaGreat.Rows.uptoBulk])
  simp only[YtmkajlkbimgngaaGreat.Rows.uptoBulkAll,List.length_cons];omega
theorem VB.bulk1 {d:DataW H} {n:Nat} (a:VB d n):n+1<=YtmkajlkbimgngaaGreat.Rows.uptoBulk d:=by
 have b:1<=YtmkajlkbimgngaaGreat.Rows.uptoBulk d:=by cases d<;>first|(simp[YtmkajlkbimgngaaGreat.Rows.uptoBulk];done)|(rename_i l;cases l<;>simp[YtmkajlkbimgngaaGreat.Rows.uptoBulk])
 rcases a with rfl|⟨es,sp,rfl,rfl⟩
 .exact b
 .have:=QW es;simp only[YtmkajlkbimgngaaGreat.Rows.uptoBulk];omega
def Wn (w:World) (cs:List Value) (d:DataW H):Prop:=∃a l cap,cs=[.slice a (List.length (α:=Sp) l) cap]∧A6 w (.slice a l.length cap) l∧VB d l.length
theorem Lb:∀(rows:List (List Value)) (ds:List (DataW H)),ds.length=rows.length->(∀(i:Nat) r,rows[i]?=some r->∃d,ds[i]?=some d∧Wn w r d)->
 ∃(vs:List Value) (ll:List (List Sp)),rows=vs.map (λx=>[x])∧vs.length=ll.length∧(∀(i:Nat) u l,vs[i]?=some u->ll[i]?=some l->A6 w u l)∧ll.flatten.length+ll.length<=YtmkajlkbimgngaaGreat.Rows.uptoBulkAll ds
 | [],_,_,_=>⟨[],[],O,O,λi u l h=>by simp at h,Nat.zero_le _⟩
 | r::rows,[],hl,_=>by cases hl
 | r::rows,d::ds,hl,h=>by
  obtain ⟨d0,b,a,l,cap,rfl,n,f⟩:=h 0 r O;simp at b;subst b;obtain ⟨vs,ll,m,k,j,h6⟩:=Lb rows ds (by simpa using hl) λi r g=>h (i+1) r (by simpa using g);refine ⟨.slice a l.length cap::vs,l::ll,by rw[m];rfl,by simp[k],λi u q e c=>?_,?_⟩
  .cases i with
   | zero=>simp at e c;subst e;subst c;exact n
   | succ i=>exact j i u q (by simpa using e) (by simpa using c)
  .have:=f.bulk1;simp only[List.flatten_cons,List.length_append,List.length_cons,YtmkajlkbimgngaaGreat.Rows.uptoBulkAll];omega
theorem PD {fuel:Nat} {cs:List Value} {x:DataW H×List MemPlace} (h:DataW.trod enc prog w base spare held fuel 49 cs=some x):∃a ll cap,cs=[.slice a (List.length (α:=List Sp) ll) cap]∧Bg w (.slice a ll.length cap) ll∧ll.flatten.length+ll.length<=YtmkajlkbimgngaaGreat.Rows.uptoBulk x.1:=by
 obtain ⟨a,aa,cap,rfl,h1,h2,_,_,h3⟩:=H_ (R:=Wn w) underlying49 QV qD h (λn cs' y _ hy=>by
  obtain ⟨a,l,cap,h4,h5,h6⟩:=OF hy;exact ⟨a,l,cap,h4,h5,h6⟩)
 rcases h3 with rfl|⟨ds,sp,h4,h5,h6⟩
 ·exact ⟨a,[],cap,O,⟨[],h1,O,λi u l h=>by simp at h⟩,Nat.zero_le _⟩
 ·obtain ⟨vs,ll,rfl,h7,h8,h9⟩:=Lb aa ds h5 h6;refine ⟨a,ll,cap,by simp[h7],⟨vs,by simpa[h7] using h1,h7,h8⟩,?_⟩;rw[h4];simp only[YtmkajlkbimgngaaGreat.Rows.uptoBulk];omega
end
end Go.Proofs
