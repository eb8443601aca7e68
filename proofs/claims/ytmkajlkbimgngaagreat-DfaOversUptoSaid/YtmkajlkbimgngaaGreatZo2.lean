/- Contracts and plain lemmas, part 2. -/
import Derived.Test.YtmkajlkbimgngaaGreatZo1
open Go.Proofs.Tryz
set_option maxHeartbeats 16000000
set_option linter.unusedVariables false
namespace Go.Proofs
open Go Go.Eng
set_option maxRecDepth 100000
def EY (w:World) (v:Value) (ll:List (List Int)):Prop:=∃vs:List Value,BL w 1 v (vs.map λx=>[x])∧vs.length=ll.length∧∀(i:Nat) (u:Value) (l:List Int),vs[i]?=some u->ll[i]?=some l->CF w u l
theorem EY.ext {w w':World} {v:Value} {ll:List (List Int)} (h:EY w v ll) (e:Ao w w'):EY w' v ll:=by
 obtain ⟨vs,c,a,b⟩:=h;exact ⟨vs,c.ext e,a,λi u l f d=>(b i u l f d).ext e⟩
theorem EY.form {w:World} {v:Value} {ll:List (List Int)} (h:EY w v ll):∃a c,v=.slice a ll.length c∧ll.length<=c∧ll.length<=9223372036854775807:=by
 obtain ⟨vs,b,d,_⟩:=h;obtain ⟨a,c,rfl⟩:=b.form;have:=b.cap;have:=b.le;simp only[List.length_map] at *;rw[d] at *;exact ⟨a,c,O,qO,qO⟩
theorem Ca {w:World} {a:Option Addr} {n c:Nat} {ll:List (List Int)} (h:EY w (.slice a n c) ll) (p:0<n) :
 ∃b o,a=some ⟨b,o,none⟩∧∀i l,ll[i]?=some l->∃e d,w.cell? ⟨b,o+i,none⟩=some (.slice e l.length d)∧CF w (.slice e l.length d) l:=by
 obtain ⟨vs,s,h2,q⟩:=h;obtain ⟨b,o,r,t⟩:=BL.at s p;refine ⟨b,o,r,λi l m=>?_⟩;have hi:i<vs.length:=by have:=AI m;omega
 have k:vs[i]?=some vs[i]:=List.getElem?_eq_getElem hi;have f:=q i vs[i] l k m;obtain ⟨e,d,g⟩:=BL.form f;simp only[List.length_map] at g;have j:=t i [vs[i]] (by simp[k]) 0 _ O;rw[Nat.mul_one,Nat.add_zero,g] at j;rw[g] at f;exact ⟨e,d,j,f⟩
def B' (w:World) (d:Dfa) (vs:List Value):Prop:=∃aa ac na nc,vs=[.int .i64 d.start,.slice aa d.accept.length ac,.slice na d.next.length nc]∧CF w (.slice aa d.accept.length ac) d.accept∧EY w (.slice na d.next.length nc) d.next
theorem B'.ext {w w':World} {d:Dfa} {vs:List Value} (h:B' w d vs) (e:Ao w w'):B' w' d vs:=by
 obtain ⟨c,j,f,g,i,b,a⟩:=h;exact ⟨c,j,f,g,i,b.ext e,a.ext e⟩
def Ih (l:List Int):Int:=l.foldl min (l.headD 0)
def KU (l:List Int):Int:=l.foldl max (l.headD 0)
theorem Gx (f:Int->Int->Int) {l:List Int} {k:Nat} {x z:Int} (a:l[k]?=some x):(l.take (k+1)).foldl f z=f ((l.take k).foldl f z) x:=by
 rw[List.take_add_one,a];simp[List.foldl_append]
theorem Jc:∀(l:List Int) (z:Int),l.foldl min z<=z∧∀x∈l,l.foldl min z<=x
 | [],z=>⟨Int.le_refl _,λx h=>by simp at h⟩
 | y::l,z=>by
  obtain ⟨h1,b⟩:=Jc l (min z y);refine ⟨by simp only[List.foldl_cons];omega,λx a=>?_⟩;simp only[List.foldl_cons];rcases List.mem_cons.1 a with rfl|a
  .omega
  .exact b x a
theorem Ig:∀(l:List Int) (z:Int),l.foldl min z=z∨l.foldl min z∈l
 | [],z=>.inl O
 | y::l,z=>by
  simp only[List.foldl_cons];rcases Ig l (min z y) with h|h
  .rw[h];by_cases hc:z<=y
   .left;omega
   .right;rw[show min z y=y from qO];simp
  .right;simp[h]
theorem Jd:∀(l:List Int) (z:Int),z<=l.foldl max z∧∀x∈l,x<=l.foldl max z
 | [],z=>⟨Int.le_refl _,λx h=>by simp at h⟩
 | y::l,z=>by
  obtain ⟨h1,b⟩:=Jd l (max z y);refine ⟨by simp only[List.foldl_cons];omega,λx a=>?_⟩;simp only[List.foldl_cons];rcases List.mem_cons.1 a with rfl|a
  .omega
  .exact b x a
theorem Ii:∀(l:List Int) (z:Int),l.foldl max z=z∨l.foldl max z∈l
 | [],z=>.inl O
 | y::l,z=>by
  simp only[List.foldl_cons];rcases Ii l (max z y) with h|h
  .rw[h];by_cases hc:y<=z
   .left;omega
   .right;rw[show max z y=y from qO];simp
  .right;simp[h]
theorem OW {l:List Int} (h:l≠[]):l.headD 0∈l:=by cases l with|nil=>exact absurd rfl h|cons x l=>simp
theorem P_ {l:List Int} (h:l≠[]) {z:Int}:z<=Ih l↔∀x∈l,z<=x:=by
 constructor
 .intro a x c;have:=(Jc l (l.headD 0)).2 x c;unfold Ih at a;omega
 .intro a;unfold Ih;rcases Ig l (l.headD 0) with b|b
  .rw[b];exact a _ (OW h)
  .exact a _ b
theorem Ud {l:List Int} (h:l≠[]) {z:Int}:KU l<z↔∀x∈l,x<z:=by
 constructor
 .intro a x c;have:=(Jd l (l.headD 0)).2 x c;unfold KU at a;omega
 .intro a;unfold KU;rcases Ii l (l.headD 0) with b|b
  .rw[b];exact a _ (OW h)
  .exact a _ b
theorem P' (p:World) (v:Value) (l:List Int) (h:CF p v l) (C:l≠[]):CJ prog 134 #[v] p λr w=>r=.int .i64 (Ih l)∧Ao p w:=by
 obtain ⟨a,c,rfl⟩:=BL.form h;have hlen:l.length<=9223372036854775807:=by simpa using BL.le h
 simp only[List.length_map] at h⊢;have e:0<l.length:=List.length_pos_iff.2 C;obtain ⟨b,o,rfl,g⟩:=BF h e;obtain ⟨j,d⟩:=AL (l:=l) (i:=0) e;have B:l.headD 0=j:=by cases l with|nil=>simp at d|cons y l=>simpa using d
 refine qR func134 O ntmps134 O (λE=>(Y (qA (I6 0) O (AA (AE (Y (qM (.slice (some ⟨b,o,none⟩) l.length c) O (qV (AH (ad:=some ⟨b,o,none⟩) (n:=l.length) (cap:=c) underlying22 O) (qV (Av (k:=.i64) (a:=(l.length:Int)) (b:=1) O O) (AA ?_))))))))));have q:(decide ((((l.length:Nat):Int):Int)<1))=false:=by simp;omega
 refine AW (Aw q) (AK (AB (Y (qM (.slice (some ⟨b,o,none⟩) l.length c) O (qV (AC (b:=b) (o:=o) (len:=l.length) (cap:=c) (i:=0) (o':=o+0) O O O underlying22 Ab qO qO) (qV (AD (v:=(I6 j)) O Aa (E.cell (λf=>f) (g 0 j d))) (qA (I6 j) O (AA (AE (Y (qA (I6 1) O (AA (AM (Am (λnn_ σ A=>∃(k:Nat) (m:Int),(∃jj_,σ=BQ jj_ [(0,(.slice (some ⟨b,o,none⟩) l.length c)),(4,(I6 (k:Int))),(3,(I6 m))])∧Chg AZ p A∧(1<=k∧k<=l.length)∧(m=(l.take k).foldl min (l.headD 0))∧nn_=l.length - k) (n:=l.length - 1) ?_ ?_))))))))))))))
 .exact ⟨1,j,Af.out ⟨O,O,O,trivial⟩,E,⟨Nat.le_refl _,qO⟩,(by rw[Gx _ d,B];simp),O⟩
 .clear E;rintro _ _ A ⟨k,m,⟨j2,rfl⟩,E,hk,z,rfl⟩;refine AE (Y (qM (I6 (k:Int)) O (qM (.slice (some ⟨b,o,none⟩) l.length c) O (qV (AH (ad:=some ⟨b,o,none⟩) (n:=l.length) (cap:=c) underlying22 O) (qV (Av (k:=.i64) (a:=(k:Int)) (b:=(l.length:Int)) O O) (AA (qC O (λs=>?_) (λs=>?_))))))))
  .obtain ⟨x,u⟩:=AL (l:=l) (i:=k) qO;refine AK (AB (AE (AM (AG (qM (I6 m) O (qM (.slice (some ⟨b,o,none⟩) l.length c) O (qM (I6 (k:Int)) O (qV (AC (b:=b) (o:=o) (len:=l.length) (cap:=c) (i:=k) (o':=o+k) O O O underlying22 Ab qO qO) (qV (AD (v:=(I6 x)) O Aa (E.cell (λf=>f) (g k x u))) (qV (Vo O O O) (qA (I6 (min m x)) O (AA (AP (AB (AG (qM (I6 (k:Int)) O (qV (Aq (k:=.i64) (a:=(k:Int)) (b:=1) (c:=(k:Int)+1) O O (A2 qO)) (qA (I6 ((k:Int)+1)) O (AA (AB ?_))))))))))))))))))));exact ⟨l.length - (k+1),qO,k+1,(min m x),Af.out ⟨O,O,O,trivial⟩,E,⟨qO,qO⟩,(by rw[Gx _ u,z]),O⟩
  .have t:k=l.length:=qO
   refine Ak (AR (AR (Ae (AB (Y (qM (I6 m) O (qA (I6 m) O (AA (AS (AV results134 (v:=(.int .i64 m)) O (⟨A5 ?_,E⟩)))))))))));rw[z,t,List.take_length];rfl
theorem Sg (p:World) (v:Value) (l:List Int) (h:CF p v l) (C:l≠[]):CJ prog 135 #[v] p λr w=>r=.int .i64 (KU l)∧Ao p w:=by
 obtain ⟨a,c,rfl⟩:=BL.form h;have hlen:l.length<=9223372036854775807:=by simpa using BL.le h
 simp only[List.length_map] at h⊢;have e:0<l.length:=List.length_pos_iff.2 C;obtain ⟨b,o,rfl,g⟩:=BF h e;obtain ⟨j,d⟩:=AL (l:=l) (i:=0) e;have B:l.headD 0=j:=by cases l with|nil=>simp at d|cons y l=>simpa using d
 refine qR func135 O ntmps135 O (λE=>(Y (qA (I6 0) O (AA (AE (Y (qM (.slice (some ⟨b,o,none⟩) l.length c) O (qV (AH (ad:=some ⟨b,o,none⟩) (n:=l.length) (cap:=c) underlying22 O) (qV (Av (k:=.i64) (a:=(l.length:Int)) (b:=1) O O) (AA ?_))))))))));have q:(decide ((((l.length:Nat):Int):Int)<1))=false:=by simp;omega
 refine AW (Aw q) (AK (AB (Y (qM (.slice (some ⟨b,o,none⟩) l.length c) O (qV (AC (b:=b) (o:=o) (len:=l.length) (cap:=c) (i:=0) (o':=o+0) O O O underlying22 Ab qO qO) (qV (AD (v:=(I6 j)) O Aa (E.cell (λf=>f) (g 0 j d))) (qA (I6 j) O (AA (AE (Y (qA (I6 1) O (AA (AM (Am (λnn_ σ A=>∃(k:Nat) (m:Int),(∃jj_,σ=BQ jj_ [(0,(.slice (some ⟨b,o,none⟩) l.length c)),(4,(I6 (k:Int))),(3,(I6 m))])∧Chg AZ p A∧(1<=k∧k<=l.length)∧(m=(l.take k).foldl max (l.headD 0))∧nn_=l.length - k) (n:=l.length - 1) ?_ ?_))))))))))))))
 .exact ⟨1,j,Af.out ⟨O,O,O,trivial⟩,E,⟨Nat.le_refl _,qO⟩,(by rw[Gx _ d,B];simp),O⟩
 .clear E;rintro _ _ A ⟨k,m,⟨j2,rfl⟩,E,hk,z,rfl⟩;refine AE (Y (qM (I6 (k:Int)) O (qM (.slice (some ⟨b,o,none⟩) l.length c) O (qV (AH (ad:=some ⟨b,o,none⟩) (n:=l.length) (cap:=c) underlying22 O) (qV (Av (k:=.i64) (a:=(k:Int)) (b:=(l.length:Int)) O O) (AA (qC O (λs=>?_) (λs=>?_))))))))
  .obtain ⟨x,u⟩:=AL (l:=l) (i:=k) qO;refine AK (AB (AE (AM (AG (qM (I6 m) O (qM (.slice (some ⟨b,o,none⟩) l.length c) O (qM (I6 (k:Int)) O (qV (AC (b:=b) (o:=o) (len:=l.length) (cap:=c) (i:=k) (o':=o+k) O O O underlying22 Ab qO qO) (qV (AD (v:=(I6 x)) O Aa (E.cell (λf=>f) (g k x u))) (qV (SC O O O) (qA (I6 (max m x)) O (AA (AP (AB (AG (qM (I6 (k:Int)) O (qV (Aq (k:=.i64) (a:=(k:Int)) (b:=1) (c:=(k:Int)+1) O O (A2 qO)) (qA (I6 ((k:Int)+1)) O (AA (AB ?_))))))))))))))))))));exact ⟨l.length - (k+1),qO,k+1,(max m x),Af.out ⟨O,O,O,trivial⟩,E,⟨qO,qO⟩,(by rw[Gx _ u,z]),O⟩
  .have t:k=l.length:=qO
   refine Ak (AR (AR (Ae (AB (Y (qM (I6 m) O (qA (I6 m) O (AA (AS (AV results135 (v:=(.int .i64 m)) O (⟨A5 ?_,E⟩)))))))))));rw[z,t,List.take_length];rfl
def Dp (n:Int) (r:List Int):Bool:=decide (Ih r < -1) || decide (n<=KU r)
def K9 (d:Dfa):Bool:=(decide (d.start<0) || decide ((d.next.length:Int)<=d.start)) || decide (Ih d.accept < -1)
def Hi (c:Nat) (r:List Int):Bool:=decide ((r.length:Int)=0) || decide ((r.length:Int)≠(c:Int))
def K4 (d:Dfa):Nat:=(d.next.headD []).length
def Do (d:Dfa):Int:=
 if 200<d.next.length then 2 else if d.next.length=0∨d.accept.length≠d.next.length then 3 else if 16<K4 d then 2
 else if d.next.any (Hi (K4 d))=true then 3
 else if (K9 d || d.next.any (Dp d.next.length))=true then 1 else 0
theorem TH (w0:World) (d:Dfa) (vs:List Value) (hd:B' w0 d vs):CJ prog 104 #[.agg vs.toArray] w0 λr w=>r=.int .i64 (Do d)∧Ao w0 w:=by
 obtain ⟨aa,ac,na,P,rfl,ha,hn⟩:=hd;have hal:d.accept.length<=9223372036854775807:=by simpa using BL.le ha
 obtain ⟨_,_,hv,hcap,hle⟩:=hn.form;simp only[Value.slice.injEq] at hv;obtain ⟨rfl,_,rfl⟩:=hv;refine qR func104 O ntmps104 O (λE=>(Y (BM (v:=(.agg #[(I6 d.start),(.slice aa d.accept.length ac),(.slice na d.next.length P)])) (c:=#[(I6 d.start),(.slice aa d.accept.length ac),(.slice na d.next.length P)]) qD O O ?_)));intro N wr Nr;replace E:=E.ext Nr.ext;have j:=Nr.blk;refine qA _ O (AA (Y (qF N 0 2 O underlying52 O CB O (qV (AD O B0 (j.cell O)) (qV (AH underlying50 O) (qA _ O (AA (AE (AM (Y (qM _ O (qV (CH O O) (qA _ O (AA (qC O (λh1=>?_) (λh1=>?_))))))))))))))))
 .refine Y (qA _ O (AA (AS (Ag (AO (AV results104 (v:=(.int .i64 2)) O ?_))))));exact ⟨A5 (by unfold Do;rw[if_pos qO]),E⟩
 .refine Y (qM _ O ?_);obtain ⟨I,al⟩:∃e,(decide ((((d.next.length:Nat):Int):Int)=0))=e:=⟨_,O⟩;refine qV ((As O O).trans (by rw[al];try rfl)) (qM _ O (qG (.bool I) (nU I (P6 N 1)) (by cases I<;>first|exact gA|exact gB|exact .inl ⟨O,AN O underlying52 O BG O⟩) (qG (.bool I) (nU I (.slice aa d.accept.length ac)) (by cases I<;>first|exact gA|exact gB|exact .inl ⟨O,AD O BX (j.cell O)⟩) (qG (.bool I) (nU I (I6 (d.accept.length:Int))) (by cases I<;>first|exact gA|exact gB|exact .inl ⟨O,AH underlying22 O⟩) (qG (.bool I) (nU I (I6 (d.next.length:Int))) (by cases I<;>first|exact gA|exact gB|exact .inl ⟨O,Ah O⟩) ?_)))));obtain ⟨e3,ao⟩:∃e,(decide ((((d.accept.length:Nat):Int):Int)≠((d.next.length:Nat):Int)))=e:=⟨_,O⟩;refine qG (.bool I) (nU I (.bool e3)) (by cases I<;>first|exact gA|exact gB|exact .inl ⟨O,(CO O O).trans (by rw[ao];try rfl)⟩) ?_;obtain ⟨e4,ap⟩:∃e,(I || e3)=e:=⟨_,O⟩;refine qV (Ac (v:=.bool e4) O (by rw[<-ap];cases I<;>rfl)) (qA _ O (AA ?_));subst ap;subst ao;subst al;refine A3 O (λh2=>?_) (λh2=>?_)
  .have az:=h2;refine Y (qA _ O (AA (AS (Ag (AO (AV results104 (v:=(.int .i64 3)) O ?_))))));exact ⟨A5 (by unfold Do;rw[if_neg qO,if_pos (by simp only[Bool.or_eq_true,decide_eq_true_eq] at h2;omega)]),E⟩
  .have az:=h2;simp only[Bool.or_eq_false_iff,decide_eq_false_iff_not] at h2;have C:¬(d.next.length=0∨d.accept.length≠d.next.length):=qO
   obtain ⟨G,z⟩:=AL (l:=d.next) (i:=0) qO;have aj:K4 d=G.length:=by unfold K4;cases hq:d.next with|nil=>rw[hq] at z;simp at z|cons y l=>rw[hq] at z;simp at z;simp[z]
   obtain ⟨S,D,av,K⟩:=Ca hn qO;subst av;obtain ⟨ax,au,T,hints0⟩:=K 0 G z;refine Y (qF N 0 2 O underlying52 O CB O (qV (AD O B0 (j.cell O)) (qV (AC (b:=S) (o:=D) (len:=d.next.length) (cap:=P) (i:=0) (o':=D+0) O O O underlying50 BG qO qO) (qV (AD O BX (E.cell (λf=>f) T)) (qV (AH underlying22 O) (qV (CH O O) (qA _ O (AA (qC O (λh3=>?_) (λh3=>?_))))))))))
   .refine Y (qA _ O (AA (AS (Ag (AO (AV results104 (v:=(.int .i64 2)) O ?_))))));exact ⟨A5 (by unfold Do;rw[if_neg qO,if_neg C,if_pos qO]),E⟩
   .refine AK (AP (AB (AE (Y (qF N 0 2 O underlying52 O CB O (qV (AD O B0 (j.cell O)) (qV (AH underlying50 O) (qM _ O (AA (AM (Am (λnn_ σ W7=>∃(k:Nat),(∃jj_,σ=BQ jj_ [(1,(P6 N 0)),(3,(I6 (d.next.length:Int))),(33,(.slice (some ⟨S,D,none⟩) d.next.length P)),(34,(I6 (d.next.length:Int))),(35,(I6 (k:Int)))])∧Chg AZ w0 W7∧Az W7 N #[(I6 d.start),(.slice aa d.accept.length ac),(.slice (some ⟨S,D,none⟩) d.next.length P)] 52∧(k<=d.next.length)∧((d.next.take k).any (Hi (K4 d))=false)∧nn_=d.next.length - k) (n:=d.next.length - 0) ?_ ?_)))))))))))
    .exact ⟨0,Af.out ⟨O,O,O,O,O,trivial⟩,E,j,Nat.zero_le _,O,O⟩
    .clear E j;rintro _ _ W7 ⟨k,⟨j7,rfl⟩,E,j,hk,F,rfl⟩;refine Y (qV (Av O O) (AA (AE (qC O (λaw=>?_) (λaw=>?_)))))
     .obtain ⟨row,a⟩:=AL (l:=d.next) (i:=k) qO;obtain ⟨ra,rc,x,s⟩:=K k row a;have hrl:row.length<=9223372036854775807:=by simpa using BL.le s
      refine AK (AB (AE (AM (Y (qV (AC (b:=S) (o:=D) (len:=d.next.length) (cap:=P) (i:=k) (o':=D+k) O O O underlying50 BG qO qO) (qV (AD O BX (E.cell (λf=>f) x)) (qA _ O (AA (Y (qM _ O (qV (AH underlying22 O) ?_)))))))))));obtain ⟨B,af⟩:∃e,(decide ((((row.length:Nat):Int):Int)=0))=e:=⟨_,O⟩;refine qV ((As O O).trans (by rw[af];try rfl)) (qM _ O (qG (.bool B) (nU B (.slice ra row.length rc)) (by cases B<;>first|exact gA|exact gB|exact .inl ⟨O,Ah O⟩) (qG (.bool B) (nU B (I6 (row.length:Int))) (by cases B<;>first|exact gA|exact gB|exact .inl ⟨O,AH underlying22 O⟩) (qG (.bool B) (nU B (P6 N 2)) (by cases B<;>first|exact gA|exact gB|exact .inl ⟨O,AN O underlying52 O CB O⟩) (qG (.bool B) (nU B (.slice (some ⟨S,D,none⟩) d.next.length P)) (by cases B<;>first|exact gA|exact gB|exact .inl ⟨O,AD O B0 (j.cell O)⟩) (qG (.bool B) (nU B (.pointer (some ⟨S,D+0,none⟩))) (by cases B<;>first|exact gA|exact gB|exact .inl ⟨O,AC (i:=0) O O O underlying50 BG (by have:=of_decide_eq_false af;omega) qO⟩) (qG (.bool B) (nU B (.slice ax G.length au)) (by cases B<;>first|exact gA|exact gB|exact .inl ⟨O,AD O BX (E.cell (λf=>f) T)⟩) (qG (.bool B) (nU B (I6 (G.length:Int))) (by cases B<;>first|exact gA|exact gB|exact .inl ⟨O,AH underlying22 O⟩) ?_))))))));obtain ⟨am,ad⟩:∃e,(decide ((((row.length:Nat):Int):Int)≠((G.length:Nat):Int)))=e:=⟨_,O⟩;refine qG (.bool B) (nU B (.bool am)) (by cases B<;>first|exact gA|exact gB|exact .inl ⟨O,(CO O O).trans (by rw[ad];try rfl)⟩) ?_;obtain ⟨ay,ab⟩:∃e,(B || am)=e:=⟨_,O⟩;refine qV (Ac (v:=.bool ay) O (by rw[<-ab];cases B<;>rfl)) (AA ?_);subst ab;subst ad;subst af;refine A3 O (λhf=>?_) (λhf=>?_)
      .have aq:=hf;refine Y (qA _ O (AA (AS (Ag (AO (AO (Ag (AO (AV results104 (v:=(.int .i64 3)) O (⟨A5 ?_,E⟩))))))))));unfold Do;rw[if_neg qO,if_neg C,if_neg qO,if_pos];exact List.any_eq_true.2 ⟨row,List.mem_of_getElem? a,by unfold Hi;rw[aj];simpa using hf⟩
      .have aq:=hf;refine AK (AP (AB (AG (qV (Aq O O (A2 qO)) (qM _ O (AA (AB ?_)))))));exact ⟨d.next.length - (k+1),qO,k+1,Af.out ⟨O,O,O,O,O,trivial⟩,E,j,qO,(by rw[List.take_add_one,a,List.any_append,F];simp only[Option.toList_some,List.any_cons,List.any_nil,Bool.or_false,Bool.false_or];unfold Hi;rw[aj];simpa using hf),O⟩
     .have ar:k=d.next.length:=qO
      rw[ar,List.take_length] at F;have Q:∀row∈d.next,row≠[]:=λrow hr he=>by have:=(List.any_eq_false.1 F) row hr;simp[Hi,he] at this
      have ai:d.accept≠[]:=λhe=>by rw[he] at C;simp at C;omega
      refine Ak (AR (AR (Ae (AB (Y (qF N 0 0 O underlying52 O Ab O (qV (AD O Aa (j.cell O)) (qV (Av O O) (qM _ O ?_)))))))));rcases Bool.eq_false_or_eq_true (decide ((d.start:Int)<0)) with M|M
      .have X:=M;replace X:=of_decide_eq_true X;refine AJ O O qD (v:=.bool true) (Aw M) (Or.inl O) (AJ O O qD (v:=.bool true) (Aw M) (Or.inl O) (AJ O O qD (v:=.bool true) (Aw M) (Or.inl O) (AJ O O qD (v:=.bool true) (Aw M) (Or.inl O) (qV (Ac (v:=(.bool true)) O (by rw[M];rfl)) (qM _ O (AJ O O qD (v:=.bool true) O (Or.inl O) (AJ O O qD (v:=.bool true) O (Or.inl O) (AJ O O qD (v:=.bool true) O (Or.inl O) (AJ O O qD (v:=.bool true) O (Or.inl O) (qV (Ac O O) (qA _ O (AA (AE (Y (qF N 0 2 O underlying52 O CB O (qV (AD O B0 (j.cell O)) ?_))))))))))))))));refine qV (AH underlying50 O) (qM _ O (AA (AM (Am (λnn_ σ ae=>∃(q:Nat) (t:Bool),(∃jj_,σ=BQ jj_ [(3,(I6 (d.next.length:Int))),(69,(.slice (some ⟨S,D,none⟩) d.next.length P)),(70,(I6 (d.next.length:Int))),(71,(I6 (q:Int))),(6,(.bool t))])∧Chg AZ w0 ae∧Az ae N #[(I6 d.start),(.slice aa d.accept.length ac),(.slice (some ⟨S,D,none⟩) d.next.length P)] 52∧(q<=d.next.length)∧(t=(K9 d || (d.next.take q).any (Dp d.next.length)))∧nn_=d.next.length - q) (n:=d.next.length - 0) ?_ ?_))))
       .exact ⟨0,true,Af.out ⟨O,O,O,O,O,trivial⟩,E,j,Nat.zero_le _,(by simp only[List.take_zero,List.any_nil,Bool.or_false];unfold K9;rw[M];rfl),O⟩
       .clear E j;rintro _ _ ae ⟨q,t,⟨j14,rfl⟩,E,j,hq,m,rfl⟩;refine Y (qV (Av O O) (AA (AE (qC O (λL=>?_) (λL=>?_)))))
        .obtain ⟨row,a⟩:=AL (l:=d.next) (i:=q) qO;obtain ⟨ra,rc,x,s⟩:=K q row a;have A:row≠[]:=Q row (List.mem_of_getElem? a);have g:(K9 d || (d.next.take (q+1)).any (Dp d.next.length))=(t || Dp d.next.length row):=by rw[List.take_add_one,a,List.any_append,m];simp[Bool.or_assoc]
         refine AK (AB (AE (AM (Y (qV (AC (b:=S) (o:=D) (len:=d.next.length) (cap:=P) (i:=q) (o':=D+q) O O O underlying50 BG qO qO) (qV (AD O BX (E.cell (λf=>f) x)) (qA _ O (AA (AG (qM _ O (qM _ O ?_)))))))))));rcases Bool.eq_false_or_eq_true (t) with p|p
         .have W:=p;refine AJ O O qD (v:=.bool true) (Aw p) (Or.inl O) (AJ O O qD (v:=.bool true) (Aw p) (Or.inl O) (AJ O O qD (v:=.bool true) (Aw p) (Or.inl O) (qV (Ac (v:=(.bool true)) O (by rw[p];rfl)) (qM _ O (AJ O O qD (v:=.bool true) O (Or.inl O) (AJ O O qD (v:=.bool true) O (Or.inl O) (AJ O O qD (v:=.bool true) O (Or.inl O) (AJ O O qD (v:=.bool true) O (Or.inl O) (qV (Ac O O) (qA _ O (AA (AP (AB (AG (qV (Aq O O (A2 qO)) (qM _ O (AA (AB ?_))))))))))))))))));exact ⟨d.next.length - (q+1),qO,q+1,true,Af.out ⟨O,O,O,O,O,trivial⟩,E,j,qO,(by rw[g,p];rfl),O⟩
         .have W:=p;refine AF O O qD (Aw p) (qM _ O (AF O O qD (Aw p) (qE O (AT func134 kQ kQ O) (P' _ _ row (s.ext E) A) ?_)));rintro _ ak ⟨rfl,J⟩;replace j:=J.keep j;replace E:=E.ext J;refine AF O O qD (Aw p) (qV (Av O O) (qV (Ac (v:=(.bool (decide ((Ih row:Int)<(-1))))) O (by rw[p];rfl)) (qM _ O ?_)));rcases Bool.eq_false_or_eq_true (decide ((Ih row:Int)<(-1))) with h|h
          .have u:=h;replace u:=of_decide_eq_true u;refine AJ O O qD (v:=.bool true) (Aw h) (Or.inl O) (AJ O O qD (v:=.bool true) (Aw h) (Or.inl O) (AJ O O qD (v:=.bool true) (Aw h) (Or.inl O) (AJ O O qD (v:=.bool true) (Aw h) (Or.inl O) (qV (Ac (v:=(.bool true)) O (by rw[h];rfl)) (qA _ O (AA (AP (AB (AG (qV (Aq O O (A2 qO)) (qM _ O (AA (AB ?_)))))))))))));exact ⟨d.next.length - (q+1),qO,q+1,true,Af.out ⟨O,O,O,O,O,trivial⟩,E,j,qO,(by rw[g,p];unfold Dp;rw[h];rfl),O⟩
          .have u:=h;replace u:=of_decide_eq_false u;refine AF O O qD (Aw h) (qM _ O (AF O O qD (Aw h) (qE O (AT func135 kQ kQ O) (Sg _ _ row (s.ext E) A) ?_)));rintro _ an ⟨rfl,H⟩;replace j:=H.keep j;replace E:=E.ext H;refine AF O O qD (Aw h) (qM _ O (AF O O qD (Aw h) (qV (C3 O O) (qV (Ac (v:=(.bool (decide (((d.next.length:Int):Int)<=KU row)))) O (by rw[h];rfl)) (qA _ O (AA (AP (AB (AG (qV (Aq O O (A2 qO)) (qM _ O (AA (AB ?_)))))))))))));exact ⟨d.next.length - (q+1),qO,q+1,(decide ((((d.next.length:Nat):Int):Int)<=KU row)),Af.out ⟨O,O,O,O,O,trivial⟩,E,j,qO,(by rw[g,p];unfold Dp;rw[h];rfl),O⟩
        .have Z:q=d.next.length:=qO
         rw[Z,List.take_length] at m;refine Ak (AR (AR (Ae (AB (AE (Y (qM _ O (AA (A3 O (λhb=>?_) (λhb=>?_))))))))))
         .have U:=hb;refine Y (qA _ O (AA (AS (AO (AV results104 (v:=(.int .i64 1)) O ?_)))));exact ⟨A5 (by unfold Do;rw[if_neg qO,if_neg C,if_neg qO,if_neg (by rw[F];simp),if_pos (by rw[<-m];exact hb)]),E⟩
         .have U:=hb;refine AK (AB (Y (qA _ O (AA (AS (AV results104 (v:=(.int .i64 0)) O ?_))))));exact ⟨A5 (by unfold Do;rw[if_neg qO,if_neg C,if_neg qO,if_neg (by rw[F];simp),if_neg (by rw[<-m,hb];simp)]),E⟩
      .have X:=M;replace X:=of_decide_eq_false X;refine AF O O qD (Aw M) (qF N 0 0 O underlying52 O Ab O (AF O O qD (Aw M) (qV (AD O Aa (j.cell O)) (AF O O qD (Aw M) (qM _ O (AF O O qD (Aw M) (qV (C3 O O) (qV (Ac (v:=(.bool (decide (((d.next.length:Int):Int)<=d.start)))) O (by rw[M];rfl)) (qM _ O ?_)))))))));rcases Bool.eq_false_or_eq_true (decide ((((d.next.length:Nat):Int):Int)<=d.start)) with R|R
       .have V:=R;replace V:=of_decide_eq_true V;refine AJ O O qD (v:=.bool true) (Aw R) (Or.inl O) (AJ O O qD (v:=.bool true) (Aw R) (Or.inl O) (AJ O O qD (v:=.bool true) (Aw R) (Or.inl O) (AJ O O qD (v:=.bool true) (Aw R) (Or.inl O) (qV (Ac (v:=(.bool true)) O (by rw[R];rfl)) (qA _ O (AA (AE (Y (qF N 0 2 O underlying52 O CB O (qV (AD O B0 (j.cell O)) (qV (AH underlying50 O) (qM _ O (AA (AM (Am (λnn_ σ ag=>∃(q:Nat) (t:Bool),(∃jj_,σ=BQ jj_ [(3,(I6 (d.next.length:Int))),(69,(.slice (some ⟨S,D,none⟩) d.next.length P)),(70,(I6 (d.next.length:Int))),(71,(I6 (q:Int))),(6,(.bool t))])∧Chg AZ w0 ag∧Az ag N #[(I6 d.start),(.slice aa d.accept.length ac),(.slice (some ⟨S,D,none⟩) d.next.length P)] 52∧(q<=d.next.length)∧(t=(K9 d || (d.next.take q).any (Dp d.next.length)))∧nn_=d.next.length - q) (n:=d.next.length - 0) ?_ ?_)))))))))))))))
        .exact ⟨0,true,Af.out ⟨O,O,O,O,O,trivial⟩,E,j,Nat.zero_le _,(by simp only[List.take_zero,List.any_nil,Bool.or_false];unfold K9;rw[M,R];rfl),O⟩
        .clear E j;rintro _ _ ag ⟨q,t,⟨j20,rfl⟩,E,j,hq,m,rfl⟩;refine Y (qV (Av O O) (AA (AE (qC O (λL=>?_) (λL=>?_)))))
         .obtain ⟨row,a⟩:=AL (l:=d.next) (i:=q) qO;obtain ⟨ra,rc,x,s⟩:=K q row a;have A:row≠[]:=Q row (List.mem_of_getElem? a);have g:(K9 d || (d.next.take (q+1)).any (Dp d.next.length))=(t || Dp d.next.length row):=by rw[List.take_add_one,a,List.any_append,m];simp[Bool.or_assoc]
          refine AK (AB (AE (AM (Y (qV (AC (b:=S) (o:=D) (len:=d.next.length) (cap:=P) (i:=q) (o':=D+q) O O O underlying50 BG qO qO) (qV (AD O BX (E.cell (λf=>f) x)) (qA _ O (AA (AG (qM _ O (qM _ O ?_)))))))))));rcases Bool.eq_false_or_eq_true (t) with p|p
          .have W:=p;refine AJ O O qD (v:=.bool true) (Aw p) (Or.inl O) (AJ O O qD (v:=.bool true) (Aw p) (Or.inl O) (AJ O O qD (v:=.bool true) (Aw p) (Or.inl O) (qV (Ac (v:=(.bool true)) O (by rw[p];rfl)) (qM _ O (AJ O O qD (v:=.bool true) O (Or.inl O) (AJ O O qD (v:=.bool true) O (Or.inl O) (AJ O O qD (v:=.bool true) O (Or.inl O) (AJ O O qD (v:=.bool true) O (Or.inl O) (qV (Ac O O) (qA _ O (AA (AP (AB (AG (qV (Aq O O (A2 qO)) (qM _ O (AA (AB ?_))))))))))))))))));exact ⟨d.next.length - (q+1),qO,q+1,true,Af.out ⟨O,O,O,O,O,trivial⟩,E,j,qO,(by rw[g,p];rfl),O⟩
          .have W:=p;refine AF O O qD (Aw p) (qM _ O (AF O O qD (Aw p) (qE O (AT func134 kQ kQ O) (P' _ _ row (s.ext E) A) ?_)));rintro _ ak ⟨rfl,J⟩;replace j:=J.keep j;replace E:=E.ext J;refine AF O O qD (Aw p) (qV (Av O O) (qV (Ac (v:=(.bool (decide ((Ih row:Int)<(-1))))) O (by rw[p];rfl)) (qM _ O ?_)));rcases Bool.eq_false_or_eq_true (decide ((Ih row:Int)<(-1))) with h|h
           .have u:=h;replace u:=of_decide_eq_true u;refine AJ O O qD (v:=.bool true) (Aw h) (Or.inl O) (AJ O O qD (v:=.bool true) (Aw h) (Or.inl O) (AJ O O qD (v:=.bool true) (Aw h) (Or.inl O) (AJ O O qD (v:=.bool true) (Aw h) (Or.inl O) (qV (Ac (v:=(.bool true)) O (by rw[h];rfl)) (qA _ O (AA (AP (AB (AG (qV (Aq O O (A2 qO)) (qM _ O (AA (AB ?_)))))))))))));exact ⟨d.next.length - (q+1),qO,q+1,true,Af.out ⟨O,O,O,O,O,trivial⟩,E,j,qO,(by rw[g,p];unfold Dp;rw[h];rfl),O⟩
           .have u:=h;replace u:=of_decide_eq_false u;refine AF O O qD (Aw h) (qM _ O (AF O O qD (Aw h) (qE O (AT func135 kQ kQ O) (Sg _ _ row (s.ext E) A) ?_)));rintro _ an ⟨rfl,H⟩;replace j:=H.keep j;replace E:=E.ext H;refine AF O O qD (Aw h) (qM _ O (AF O O qD (Aw h) (qV (C3 O O) (qV (Ac (v:=(.bool (decide (((d.next.length:Int):Int)<=KU row)))) O (by rw[h];rfl)) (qA _ O (AA (AP (AB (AG (qV (Aq O O (A2 qO)) (qM _ O (AA (AB ?_)))))))))))));exact ⟨d.next.length - (q+1),qO,q+1,(decide ((((d.next.length:Nat):Int):Int)<=KU row)),Af.out ⟨O,O,O,O,O,trivial⟩,E,j,qO,(by rw[g,p];unfold Dp;rw[h];rfl),O⟩
         .have Z:q=d.next.length:=qO
          rw[Z,List.take_length] at m;refine Ak (AR (AR (Ae (AB (AE (Y (qM _ O (AA (A3 O (λhb=>?_) (λhb=>?_))))))))))
          .have U:=hb;refine Y (qA _ O (AA (AS (AO (AV results104 (v:=(.int .i64 1)) O ?_)))));exact ⟨A5 (by unfold Do;rw[if_neg qO,if_neg C,if_neg qO,if_neg (by rw[F];simp),if_pos (by rw[<-m];exact hb)]),E⟩
          .have U:=hb;refine AK (AB (Y (qA _ O (AA (AS (AV results104 (v:=(.int .i64 0)) O ?_))))));exact ⟨A5 (by unfold Do;rw[if_neg qO,if_neg C,if_neg qO,if_neg (by rw[F];simp),if_neg (by rw[<-m,hb];simp)]),E⟩
       .have V:=R;replace V:=of_decide_eq_false V;refine AF O O qD (Aw R) (qF N 0 1 O underlying52 O BG O (AF O O qD (Aw R) (qV (AD O BX (j.cell O)) (AF O O qD (Aw R) (qE O (AT func134 kQ kQ O) (P' _ _ d.accept (ha.ext E) ai) ?_)))));rintro _ w9 ⟨rfl,X9⟩;replace j:=X9.keep j;replace E:=E.ext X9;refine AF O O qD (Aw R) (qV (Av O O) (qV (Ac (v:=(.bool (decide ((Ih d.accept:Int)<(-1))))) O (by rw[R];rfl)) (qA _ O (AA (AE (Y (qF N 0 2 O underlying52 O CB O (qV (AD O B0 (j.cell O)) (qV (AH underlying50 O) (qM _ O (AA (AM (Am (λnn_ σ ah=>∃(q:Nat) (t:Bool),(∃jj_,σ=BQ jj_ [(3,(I6 (d.next.length:Int))),(69,(.slice (some ⟨S,D,none⟩) d.next.length P)),(70,(I6 (d.next.length:Int))),(71,(I6 (q:Int))),(6,(.bool t))])∧Chg AZ w0 ah∧Az ah N #[(I6 d.start),(.slice aa d.accept.length ac),(.slice (some ⟨S,D,none⟩) d.next.length P)] 52∧(q<=d.next.length)∧(t=(K9 d || (d.next.take q).any (Dp d.next.length)))∧nn_=d.next.length - q) (n:=d.next.length - 0) ?_ ?_)))))))))))))
        .exact ⟨0,(decide ((Ih d.accept:Int)<(-1))),Af.out ⟨O,O,O,O,O,trivial⟩,E,j,Nat.zero_le _,(by simp only[List.take_zero,List.any_nil,Bool.or_false];unfold K9;rw[M,R];rfl),O⟩
        .clear E j;rintro _ _ ah ⟨q,t,⟨j25,rfl⟩,E,j,hq,m,rfl⟩;refine Y (qV (Av O O) (AA (AE (qC O (λL=>?_) (λL=>?_)))))
         .obtain ⟨row,a⟩:=AL (l:=d.next) (i:=q) qO;obtain ⟨ra,rc,x,s⟩:=K q row a;have A:row≠[]:=Q row (List.mem_of_getElem? a);have g:(K9 d || (d.next.take (q+1)).any (Dp d.next.length))=(t || Dp d.next.length row):=by rw[List.take_add_one,a,List.any_append,m];simp[Bool.or_assoc]
          refine AK (AB (AE (AM (Y (qV (AC (b:=S) (o:=D) (len:=d.next.length) (cap:=P) (i:=q) (o':=D+q) O O O underlying50 BG qO qO) (qV (AD O BX (E.cell (λf=>f) x)) (qA _ O (AA (AG (qM _ O (qM _ O ?_)))))))))));rcases Bool.eq_false_or_eq_true (t) with p|p
          .have W:=p;refine AJ O O qD (v:=.bool true) (Aw p) (Or.inl O) (AJ O O qD (v:=.bool true) (Aw p) (Or.inl O) (AJ O O qD (v:=.bool true) (Aw p) (Or.inl O) (qV (Ac (v:=(.bool true)) O (by rw[p];rfl)) (qM _ O (AJ O O qD (v:=.bool true) O (Or.inl O) (AJ O O qD (v:=.bool true) O (Or.inl O) (AJ O O qD (v:=.bool true) O (Or.inl O) (AJ O O qD (v:=.bool true) O (Or.inl O) (qV (Ac O O) (qA _ O (AA (AP (AB (AG (qV (Aq O O (A2 qO)) (qM _ O (AA (AB ?_))))))))))))))))));exact ⟨d.next.length - (q+1),qO,q+1,true,Af.out ⟨O,O,O,O,O,trivial⟩,E,j,qO,(by rw[g,p];rfl),O⟩
          .have W:=p;refine AF O O qD (Aw p) (qM _ O (AF O O qD (Aw p) (qE O (AT func134 kQ kQ O) (P' _ _ row (s.ext E) A) ?_)));rintro _ ak ⟨rfl,J⟩;replace j:=J.keep j;replace E:=E.ext J;refine AF O O qD (Aw p) (qV (Av O O) (qV (Ac (v:=(.bool (decide ((Ih row:Int)<(-1))))) O (by rw[p];rfl)) (qM _ O ?_)));rcases Bool.eq_false_or_eq_true (decide ((Ih row:Int)<(-1))) with h|h
           .have u:=h;replace u:=of_decide_eq_true u;refine AJ O O qD (v:=.bool true) (Aw h) (Or.inl O) (AJ O O qD (v:=.bool true) (Aw h) (Or.inl O) (AJ O O qD (v:=.bool true) (Aw h) (Or.inl O) (AJ O O qD (v:=.bool true) (Aw h) (Or.inl O) (qV (Ac (v:=(.bool true)) O (by rw[h];rfl)) (qA _ O (AA (AP (AB (AG (qV (Aq O O (A2 qO)) (qM _ O (AA (AB ?_)))))))))))));exact ⟨d.next.length - (q+1),qO,q+1,true,Af.out ⟨O,O,O,O,O,trivial⟩,E,j,qO,(by rw[g,p];unfold Dp;rw[h];rfl),O⟩
           .have u:=h;replace u:=of_decide_eq_false u;refine AF O O qD (Aw h) (qM _ O (AF O O qD (Aw h) (qE O (AT func135 kQ kQ O) (Sg _ _ row (s.ext E) A) ?_)));rintro _ an ⟨rfl,H⟩;replace j:=H.keep j;replace E:=E.ext H;refine AF O O qD (Aw h) (qM _ O (AF O O qD (Aw h) (qV (C3 O O) (qV (Ac (v:=(.bool (decide (((d.next.length:Int):Int)<=KU row)))) O (by rw[h];rfl)) (qA _ O (AA (AP (AB (AG (qV (Aq O O (A2 qO)) (qM _ O (AA (AB ?_)))))))))))));exact ⟨d.next.length - (q+1),qO,q+1,(decide ((((d.next.length:Nat):Int):Int)<=KU row)),Af.out ⟨O,O,O,O,O,trivial⟩,E,j,qO,(by rw[g,p];unfold Dp;rw[h];rfl),O⟩
         .have Z:q=d.next.length:=qO
          rw[Z,List.take_length] at m;refine Ak (AR (AR (Ae (AB (AE (Y (qM _ O (AA (A3 O (λhb=>?_) (λhb=>?_))))))))))
          .have U:=hb;refine Y (qA _ O (AA (AS (AO (AV results104 (v:=(.int .i64 1)) O ?_)))));exact ⟨A5 (by unfold Do;rw[if_neg qO,if_neg C,if_neg qO,if_neg (by rw[F];simp),if_pos (by rw[<-m];exact hb)]),E⟩
          .have U:=hb;refine AK (AB (Y (qA _ O (AA (AS (AV results104 (v:=(.int .i64 0)) O ?_))))));exact ⟨A5 (by unfold Do;rw[if_neg qO,if_neg C,if_neg qO,if_neg (by rw[F];simp),if_neg (by rw[<-m,hb];simp)]),E⟩
end Go.Proofs
namespace Go.Proofs
open Go Go.Eng Go.Sort
set_option maxRecDepth 100000
abbrev DP:Nat:=3
abbrev Co:Nat:=22
def Gv (l:List Int):Nat×List Value:=(l.length,l.map (Value.int .i64))
theorem Ss (n:Nat):(List.replicate n ([]:List Int)).map Gv=List.replicate n (0,[]):=by simp[Gv]
theorem Kk (l:List Int):(l.map Jp).flatten=l.map (Value.int .i64):=by
 induction l with
 | nil=>rfl
 | cons x l ih=>simp[Jp];simpa[Jp] using ih
theorem FM {w:World} {base n:Nat} {v:Value} {l:List Int} (h:w.ownsRow base DP 1 v n (l.map (Value.int .i64))) (b:n=l.length):CF w v l:=by
 rw[<-Kk] at h;exact DY h (by intro x a;simp only[List.mem_map] at a;obtain ⟨p,_,rfl⟩:=a;rfl) (by simp[b]) qD
theorem MR {n c:Nat} {d:Dfa} (ok:OkD n c d) {s k:Nat} {row:List Int} {x:Int} (b:d.next[s]?=some row) (a:row[k]?=some x):BN d ((s:Nat):Int) k=x∧k<c∧s<n∧-1<=x∧x<n:=by
 have e:=ok.row row (List.mem_of_getElem? b);exact ⟨FG b a,by rw[<-e.1];exact AI a,by rw[<-ok.nl];exact AI b,(e.2 x (List.mem_of_getElem? a)).1,(e.2 x (List.mem_of_getElem? a)).2⟩
theorem RC (n:Nat) (a:List (List Int)):HW a (List.replicate n false) []:=λt h=>by
 have:=(List.mem_replicate.1 (List.mem_of_getElem? h)).2;cases this
theorem MJ {M:List Bool} {k:Nat} (b:Bool):((M.map Value.bool).toArray).setIfInBounds (0+k) (.bool b)=((M.set k b).map Value.bool).toArray:=by
 apply Array.ext';rw[Array.toList_setIfInBounds,Nat.zero_add,<-List.map_set]
theorem Ws {α:Type} {l:List α} (h:0<l.length):∃o c,l=o++[c]:=⟨l.dropLast,l.getLast (List.ne_nil_of_length_pos h),(List.dropLast_concat_getLast _).symm⟩
theorem V1 (w0:World) (n c:Nat) (d:Dfa) (dv:List Value) (ok:OkD n c d) (h:B' w0 d dv) (hn:n<=20000∧c<=16) :
 CJ prog 195 #[.agg dv.toArray] w0 λr w=>(∃M b,LiveOf n c d M∧r=.slice (some ⟨b,0,none⟩) n n∧w0.heap.size<=b∧Az w b (M.map Value.bool).toArray 4)∧Ao w0 w:=by
 obtain ⟨aa,ac,na,nc,rfl,a9,a8⟩:=h;have b7:=ok.nl;have b8:=ok.al;have hnc:n*c<=320000:=by have:=Nat.mul_le_mul hn.1 hn.2;omega
 rw[b8] at a9;rw[b7] at a8;rw[b8,b7];refine qR func195 O ntmps195 O (λE=>(Y (BM (v:=(.agg #[(I6 d.start),(.slice aa n ac),(.slice na n nc)])) (c:=#[(I6 d.start),(.slice aa n ac),(.slice na n nc)]) qD O O ?_)));intro bd wd Nd;replace E:=E.ext Nd.ext;have Bd:=Nd.blk;refine qA _ O (AA (Y (qF bd 0 2 O underlying52 O CB O (qV (AD O B0 (Bd.cell O)) (qV (AH underlying50 O) (E8 (n:=n) (z:=(.slice none 0 0)) (bytes:=24) qD underlying50 BG K6 EG O O O qO qO ?_))))));intro bi wi Ni;replace Bd:=Ni.keep Bd;replace E:=E.ext Ni.ext;have Bi:=Ni.blk;refine qA _ O (AA (AE (Y (qF bd 0 2 O underlying52 O CB O (qV (AD O B0 (Bd.cell O)) (qV (AH underlying50 O) (qM _ O (AA (AM ?_)))))))));obtain ⟨n1,c9⟩:∃n1,n1=wd.heap.size:=⟨_,O⟩;have hw1:w0.heap.size<=n1:=by have:=Nd.ext.size;omega
 have a7:n1<=bi:=by have:=Ni.eq;omega
 have cz:bd<n1:=by have:=Nd.eq;have:=Nd.size;omega
 have az:=GSt.made (To:=Co) (e:=DP) (sz:=1) (base:=n1) (n:=n) Bi a7 qO a7;have co:n1<=wi.heap.size:=by have:=Ni.ext.size;omega
 refine Am (λnn_ σ W1=>∃(s:Nat) (ae:List (List Int)) (vs:List Value),(∃jj_,σ=BQ jj_ [(1,(P6 bd 0)),(3,(.slice (some ⟨bi,0,none⟩) n n)),(20,(.slice na n nc)),(21,(I6 (n:Int))),(22,(I6 (s:Int)))])∧Chg AZ w0 W1∧Az W1 bd #[(I6 d.start),(.slice aa n ac),(.slice na n nc)] 52∧(s<=n)∧(IntoP n c d ae s 0)∧(GSt Co DP 1 W1 n1 (.slice (some ⟨bi,0,none⟩) n n) vs (ae.map Gv))∧(n1<=W1.heap.size)∧nn_=n - s) (n:=n - 0) ?_ ?_
 .exact ⟨0,List.replicate n [],List.replicate n (.slice none 0 0),Af.out ⟨O,O,O,O,O,trivial⟩,E,Bd,Nat.zero_le _,IntoP.start n c d,(by rw[Ss];exact az),co,O⟩
 .clear E Bd;rintro _ _ W1 ⟨s,ae,vs,⟨j1,rfl⟩,E,Bd,hs,hI,hG,am,rfl⟩;refine Y (qV (Av O O) (AA (AE (qC O (λcx=>?_) (λcx=>?_)))))
  .obtain ⟨row,aw⟩:=AL (l:=d.next) (i:=s) qO;have hrl:=(ok.row row (List.mem_of_getElem? aw)).1;obtain ⟨b,o,rfl,c8⟩:=Ca (n:=n) a8 qO;obtain ⟨ra,rc,a5,c0⟩:=c8 s row aw;refine AK (AB (AE (AM (Y (qM _ O (qV (AC (b:=b) (o:=o) (len:=n) (cap:=nc) (i:=s) (o':=o+s) O O O underlying50 BG qO qO) (qV (AD O BX (E.cell (λf=>f) a5)) (qA _ O (qA _ O (AA (Y (qM _ O (qV (AH underlying22 O) (qM _ O (AA (AM (Am (λnn_ σ W3=>∃(k:Nat) (ae:List (List Int)) (vs:List Value),(∃jj_,σ=BQ jj_ [(1,(P6 bd 0)),(3,(.slice (some ⟨bi,0,none⟩) n n)),(4,(I6 (s:Int))),(20,(.slice (some ⟨b,o,none⟩) n nc)),(21,(I6 (n:Int))),(22,(I6 (s:Int))),(27,(.slice ra row.length rc)),(28,(I6 (row.length:Int))),(29,(I6 (k:Int)))])∧Chg AZ w0 W3∧Az W3 bd #[(I6 d.start),(.slice aa n ac),(.slice (some ⟨b,o,none⟩) n nc)] 52∧(k<=c)∧(IntoP n c d ae s k)∧(GSt Co DP 1 W3 n1 (.slice (some ⟨bi,0,none⟩) n n) vs (ae.map Gv))∧(n1<=W3.heap.size)∧nn_=c - k) (n:=c - 0) ?_ ?_)))))))))))))))))
   .exact ⟨0,ae,vs,Af.out ⟨O,O,O,O,O,O,O,O,O,trivial⟩,E,Bd,Nat.zero_le _,hI,hG,am,O⟩
   .clear E Bd;rintro _ _ W3 ⟨k,ae,vs,⟨j3,rfl⟩,E,Bd,hk,hI,hG,am,rfl⟩;refine Y (qV (Av O O) (AA (AE (qC O (λb3=>?_) (λb3=>?_)))))
    .obtain ⟨x,hx⟩:=AL (l:=row) (i:=k) qO;obtain ⟨rb,ro,rfl,cg⟩:=BF c0 qO;obtain ⟨bp,bw,_,hxl,c6⟩:=MR ok aw hx;refine AK (AB (AE (AM (Y (qV (AC (b:=rb) (o:=ro) (len:=row.length) (cap:=rc) (i:=k) (o':=ro+k) O O O underlying22 Ab qO qO) (qV (AD O Aa (E.cell (λf=>f) (cg k x hx))) (qA _ O (AA (Y (qM _ O (qV (C3 O O) (AA (qC O (λbb=>?_) (λbb=>?_))))))))))))))
     .obtain ⟨t,cu⟩:=Int.eq_ofNat_of_zero_le bb;rw[cu] at bp c6;obtain ⟨lt,ap⟩:=AL (l:=ae) (i:=t) (by have:=hI.len;omega);have hin:=hI.sht lt (List.mem_of_getElem? ap);have hsc:s*c<=n*c:=Nat.mul_le_mul_right c qO;have ai:(ae.map Gv).length=n:=by rw[List.length_map];exact hI.len
      obtain ⟨v1,aq⟩:=AL (l:=vs) (i:=t) (by have:=hG.l.len;omega);have bf:(ae.map Gv)[t]?=some (lt.length,lt.map (Value.int .i64)):=by rw[List.getElem?_map,ap];rfl
      have ag:=hG.l.inn t v1 _ aq bf;obtain ⟨va,vc,rfl⟩:=A9 ag;obtain ⟨gg,ba,_,b0⟩:=Bj (hG.l.on ai.symm) qO;simp only[Option.some.injEq,Addr.mk.injEq,and_true] at ba;subst ba;have az:=hG;refine AG (qM _ O (qM _ O (qM _ O (qM _ O (qV (AC (b:=bi) (o:=0) (len:=n) (cap:=n) (i:=t) (o':=0+t) O O qO underlying50 BG qO qO) (qV (AD O BX (b0 t _ aq)) (qM _ O (Ad (ps:=[(0,(I6 (s:Int)))]) (c:=#[(I6 (s:Int))]) qD O underlying22 Ab CW qD qD qK ?_))))))));intro b6 w6 N6;replace Bd:=N6.keep Bd;replace az:=az.ext N6.ext;replace ag:=Aj ag N6.ext;replace am:=Nat.le_trans am N6.ext.size;replace E:=E.ext N6.ext;have B6:=N6.blk;refine BT (base:=n1) (n:=lt.length) (m:=1) (xs:=(lt.map (Value.int .i64))) (news:=[(I6 (s:Int))]) (size:=1) (bytes:=8) (v:=(.slice va lt.length vc)) qD underlying22 Ab GO CW O qD O ag O (O) (B6.cells O) qS (by unfold maxLen;omega) qO (am) ?_;intro v7 ca ak ah b2;replace Bd:=ah.keep (λh=>by have:=(ag.lt _ h).1;omega) Bd;replace E:=E.step ah (λx hx h=>absurd (ag.lt x h).1 qO);obtain ⟨bj,bg,rfl⟩:=A9 ak;have cd:=az.l;have hCv:=ah;obtain ⟨c1,bh,ci⟩:=SL (Ax (cd.on ai.symm) ah (λb hb hm=>cd.apo t _ _ aq hm hb));have bq:=Nat.le_trans am ah.size;have b5:True:=trivial;have br:=bh;refine qV (AC (b:=bi) (o:=0) (len:=n) (cap:=n) (i:=t) (o':=0+t) O O qO underlying50 BG qO qO) (BB (b:=bi) (o:=0+t) (c':=c1.setIfInBounds (0+t) (.slice bj (lt.length+1) bg)) (v:=(.slice bj (lt.length+1) bg)) O O O BG bh qO (O) ?_);intro w7 S7;replace b5:=S7;replace bq:=Nat.le_trans bq S7.chg.size;replace Bd:=S7.keep qO Bd;replace E:=S7.step E qQ;replace bh:=S7.blk;have c3:=az.grow ai.symm aq bf (m':=lt.length+1) (xs':=(lt++[((s:Nat):Int)]).map (Value.int .i64)) (by rw[List.map_append];exact ak) ah b2 br (by simpa using b5);refine AA (AP (AB (AG (qV (Aq O O (A2 qO)) (qM _ O (AA (AB ?_)))))));exact ⟨c - (k+1),qO,k+1,ae.set t (lt++[((s:Nat):Int)]),vs.set t (.slice bj (lt.length+1) bg),Af.out ⟨O,O,O,O,O,O,O,O,O,trivial⟩,E,Bd,qO,hI.add qO bw bp ap,(by rw[List.map_set];simpa[Gv] using c3),bq,O⟩
     .refine AK (AP (AB (AG (qV (Aq O O (A2 qO)) (qM _ O (AA (AB ?_)))))));exact ⟨c - (k+1),qO,k+1,ae,vs,Af.out ⟨O,O,O,O,O,O,O,O,O,trivial⟩,E,Bd,qO,hI.skip (by rw[bp];omega),hG,am,O⟩
    .refine Ak (AR (AR (Ae (AP (AB (AG (qV (Aq O O (A2 qO)) (qM _ O (AA (AB ?_))))))))));exact ⟨n - (s+1),qO,s+1,ae,vs,Af.out ⟨O,O,O,O,O,trivial⟩,E,Bd,qO,hI.row qO,hG,am,O⟩
  .have ck:s=n:=qO
   rw[ck] at hI;obtain ⟨n2,cs⟩:∃n2,n2=(W1).heap.size:=⟨_,O⟩;have c4:bd<n2:=by have:=Bd.lt;omega
   have cv:w0.heap.size<=n2:=by have:=E.size;omega
   have E1:Chg AZ W1 W1:=Chg.refl _ _;refine Ak (AR (AR (Ae (AB (Y (qF bd 0 2 O underlying52 O CB O (qV (AD O B0 (Bd.cell O)) (qV (AH underlying50 O) (E8 (n:=n) (z:=(.bool false)) (bytes:=1) qD underlying66 H8 XU VY O O O qO qO ?_)))))))));intro bl wl Nl;replace Bd:=Nl.keep Bd;replace E:=E.ext Nl.ext;have Bl:=Nl.blk;replace E1:=E1.ext Nl.ext;refine qA _ O (AA (Y (qA _ O (AA (AE (Y (qF bd 0 1 O underlying52 O BG O (qV (AD O BX (Bd.cell O)) (qV (AH underlying22 O) (qM _ O (AA (AM ?_))))))))))));obtain ⟨n3,cr⟩:∃n3,n3=wl.heap.size:=⟨_,O⟩;have cy:bl<n3:=by have:=Bl.lt;omega
   have c5:n2<=n3:=by have:=Nl.ext.size;omega
   have cl:n2<=bl:=by have:=Nl.eq;omega
   rw[show List.replicate n (Value.bool false)=(List.replicate n false).map Value.bool by simp] at Bl;have af:n3<=wl.heap.size:=qO
   refine Am (λnn_ σ W8=>∃(k:Nat) (M:List Bool) (ad:List Int) (ka:Option Addr) (kc kn:Nat),(∃jj_,σ=BQ jj_ [(3,(.slice (some ⟨bi,0,none⟩) n n)),(8,(.slice (some ⟨bl,0,none⟩) n n)),(52,(.slice aa n ac)),(53,(I6 (n:Int))),(54,(I6 (k:Int))),(9,(.slice ka kn kc))])∧Chg AZ w0 W8∧Chg AZ W1 W8∧Az W8 bd #[(I6 d.start),(.slice aa n ac),(.slice na n nc)] 52∧Az W8 bl ((M.map Value.bool).toArray) 4∧(k<=n)∧(LiveP n c d M ad k)∧(HW ae M ad)∧(kn=ad.length)∧(W8.ownsRow n3 DP 1 (.slice ka kn kc) kn (ad.map (Value.int .i64)))∧(n3<=W8.heap.size)∧(∀i,k<=i->i<n->M[i]?=some false)∧nn_=n - k) (n:=n - 0) ?_ ?_
   .exact ⟨0,List.replicate n false,[],none,0,0,Af.out ⟨O,O,O,O,O,O,trivial⟩,E,E1,Bd,Bl,Nat.zero_le _,LiveP.start n c d,RC n ae,O,World.ownsRow_nil _ _ _ _,af,(λi _ hi=>by simp[hi]),O⟩
   .clear E E1 Bd Bl;rintro _ _ W8 ⟨k,M,ad,ka,kc,kn,⟨j8,rfl⟩,E,E1,Bd,Bl,hk,hL,hC,ar,hw,af,bx,rfl⟩;refine Y (qV (Av O O) (AA (AE (qC O (λbz=>?_) (λbz=>?_)))))
    .obtain ⟨x,hx⟩:=AL (l:=d.accept) (i:=k) qO;obtain ⟨ab,ao,rfl,cn⟩:=BF (n:=n) a9 qO;have a4:=EW hx;refine AK (AB (AE (AM (Y (qM _ O (qV (AC (b:=ab) (o:=ao) (len:=n) (cap:=ac) (i:=k) (o':=ao+k) O O O underlying22 Ab qO qO) (qV (AD O Aa (E.cell (λf=>f) (cn k x hx))) (qA _ O (qA _ O (AA (Y (qM _ O (qV (C3 O O) (AA (qC O (λa6=>?_) (λa6=>?_))))))))))))))))
     .have ce:=bx k (Nat.le_refl _) qO;have bs:=(hL.mark ce ⟨[],E3.nil c,by show 0<=EX d _;rw[a4];omega⟩).next (λ_=>by rw[List.getElem?_set,if_pos O,if_pos (AI ce)]);have cf:=hL.cnt;have cc:=hL.len;refine Y (qM _ O (qM _ O (qV (AC (b:=bl) (o:=0) (len:=n) (cap:=n) (i:=k) (o':=0+k) O O O underlying66 H8 qO qO) (BB (b:=bl) (o:=0+k) (c':=((M.set k true).map Value.bool).toArray) (v:=(.bool true)) O O O H8 Bl (by simp;omega) (MJ true) ?_))));intro w11 a3;replace hw:=Ax hw a3.chg λb hb h=>by subst h;have:=(hw.lt _ hb).1;omega
      replace af:=Nat.le_trans af a3.chg.size;replace Bd:=a3.keep qO Bd;replace E:=a3.step E qQ;replace E1:=a3.step E1 (Or.inl qO);replace Bl:=a3.blk;refine AA (AG (qM _ O (qM _ O (Ad (ps:=[(0,(I6 (k:Int)))]) (c:=#[(I6 (k:Int))]) qD O underlying22 Ab CW qD qD qK ?_))));intro b12 w12 au;replace Bd:=au.keep Bd;replace Bl:=au.keep Bl;replace hw:=Aj hw au.ext;replace af:=Nat.le_trans af au.ext.size;replace E:=E.ext au.ext;have cm:=au.blk;replace E1:=E1.ext au.ext;refine BT (base:=n3) (n:=kn) (m:=1) (xs:=(ad.map (Value.int .i64))) (news:=[(I6 (k:Int))]) (size:=1) (bytes:=8) (v:=(.slice ka kn kc)) qD underlying22 Ab GO CW O qD O hw O (O) (cm.cells O) qS (by unfold maxLen;omega) qO (af) ?_;intro v7 ca ak ah b2;replace Bd:=ah.keep (λh=>by have:=(hw.lt _ h).1;omega) Bd;replace Bl:=ah.keep (λh=>by have:=(hw.lt _ h).1;omega) Bl;replace E:=E.step ah (λx hx h=>absurd (hw.lt x h).1 qO);replace E1:=E1.step ah (λx hx h=>absurd (hw.lt x h).1 qO);obtain ⟨bk,bn,rfl⟩:=A9 ak;refine qA _ O (AA (AP (AB (AG (qV (Aq O O (A2 qO)) (qM _ O (AA (AB ?_))))))));exact ⟨n - (k+1),qO,k+1,M.set k true,ad++[((k:Nat):Int)],bk,bn,kn+1,Af.out ⟨O,O,O,O,O,O,trivial⟩,E,E1,Bd,Bl,qO,bs,hC.mark,(by simp;omega),(by rw[List.map_append];exact ak),Nat.le_trans af ah.size,(λi h1 h2=>by rw[List.getElem?_set,if_neg qO];exact bx i qO h2),O⟩
     .refine AK (AP (AB (AG (qV (Aq O O (A2 qO)) (qM _ O (AA (AB ?_)))))));exact ⟨n - (k+1),qO,k+1,M,ad,ka,kc,kn,Af.out ⟨O,O,O,O,O,O,trivial⟩,E,E1,Bd,Bl,qO,hL.next (λh=>by rw[a4] at h;omega),hC,ar,hw,af,(λi h1 h2=>bx i qO h2),O⟩
    .have bt:k=n:=qO
     rw[bt] at hL;refine Ak (AR (AR (Ae (AB (AE (AM (Am (λnn_ σ ax=>∃(M:List Bool) (ad:List Int) (ka:Option Addr) (kc kn:Nat),(∃jj_,σ=BQ jj_ [(3,(.slice (some ⟨bi,0,none⟩) n n)),(8,(.slice (some ⟨bl,0,none⟩) n n)),(9,(.slice ka kn kc))])∧Chg AZ w0 ax∧Chg AZ W1 ax∧Az ax bd #[(I6 d.start),(.slice aa n ac),(.slice na n nc)] 52∧Az ax bl ((M.map Value.bool).toArray) 4∧(LiveP n c d M ad n)∧(HW ae M ad)∧(kn=ad.length)∧(ax.ownsRow n3 DP 1 (.slice ka kn kc) kn (ad.map (Value.int .i64)))∧(n3<=ax.heap.size)∧nn_=2*M.countP (λb=>!b)+ad.length) (n:=2*M.countP (λb=>!b)+ad.length) ?_ ?_)))))))
     .exact ⟨M,ad,ka,kc,kn,Af.out ⟨O,O,O,trivial⟩,E,E1,Bd,Bl,hL,hC,ar,hw,af,O⟩
     .clear E E1 Bd Bl;rintro _ _ ax ⟨M,ad,ka,kc,kn,⟨j13,rfl⟩,E,E1,Bd,Bl,hL,hC,ar,hw,af,rfl⟩;refine AE (Y (qM _ O (qV (AH underlying22 O) (qV (CH O O) (AA (qC O (λbv=>?_) (λbv=>?_)))))))
      .have cf:=hL.cnt;obtain ⟨wl,x,a0⟩:=Ws (l:=ad) qO;have cj:ad.length=wl.length+1:=by rw[a0];simp
       obtain ⟨u,db,ay⟩:=hL.wrk x (by rw[a0];simp);have cc:=hL.len;have hun:u<n:=by have:=AI ay;omega
       obtain ⟨kg,rfl,_,bw⟩:=Bj hw qO;have hle:=PB hw;obtain ⟨Z,hZ⟩:∃Z,Z=2*M.countP (λb=>!b)+ad.length:=⟨_,O⟩;refine AK (AB (AM (Y (qM _ O (qM _ O (qV (AH underlying22 O) (qV (D3 O O (A2 qO)) (qV (AC (b:=kg) (o:=0) (len:=kn) (cap:=kc) (i:=kn - 1) (o':=0+(kn - 1)) O O qO underlying22 Ab qO qO) (qV (AD (v:=(I6 x)) O Aa (bw (kn - 1) _ (by rw[ar,cj,Nat.add_sub_cancel,List.getElem?_map,a0];simp))) ?_)))))))));refine qA _ O (AA (Y (qM _ O (qM _ O (qV (AH underlying22 O) (qV (D3 O O (A2 qO)) ?_))))));obtain ⟨a2,cb⟩:∃a':Option Addr,(if kc=0 then (some ⟨kg,0,none⟩) else Option.map (λq:Addr=>q.add (0*1)) (some ⟨kg,0,none⟩))=a':=⟨_,O⟩;refine qV (GX (hi:=kn - 1) underlying22 Ab O O qO qO cb) (qA _ O (AA (Y (qM _ O (qM _ O ?_)))));have c7:a2=some ⟨kg,0,none⟩:=by rw[<-cb,if_neg qO];simp[Addr.add_lit]
       subst c7;have b9:=P4 hw (m:=kn - 1) qO qO;rw[show (ad.map (Value.int .i64)).take ((kn - 1)*1)=wl.map (Value.int .i64) by rw[a0,List.map_append,Nat.mul_one,List.take_append_of_le_length (by simp;omega),List.take_of_length_le (by simp;omega)]] at b9;have cq:LiveP n c d M wl n:=⟨hL.len,λy hy=>hL.wrk y (by rw[a0];exact List.mem_append_left _ hy),hL.snd,hL.acc,qO⟩;obtain ⟨lu,bc⟩:=AL (l:=ae) (i:=u) (by have:=hI.len;omega);have ai:(ae.map Gv).length=n:=by rw[List.length_map];exact hI.len
       obtain ⟨v1,aq⟩:=AL (l:=vs) (i:=u) (by have:=hG.l.len;omega);have bf:(ae.map Gv)[u]?=some (lu.length,lu.map (Value.int .i64)):=by rw[List.getElem?_map,bc];rfl
       have ag:=hG.l.inn u v1 _ aq bf;obtain ⟨va,vc,rfl⟩:=A9 ag;obtain ⟨gg,ba,_,b0⟩:=Bj (hG.l.on ai.symm) qO;simp only[Option.some.injEq,Addr.mk.injEq,and_true] at ba;subst ba;have da:=(show HW ae M (wl++[((u:Nat):Int)]) by rw[<-db,<-a0];exact hC).open lu;have hil:=hI.sht lu (List.mem_of_getElem? bc);refine qV (AC (b:=bi) (o:=0) (len:=n) (cap:=n) (i:=u) (o':=0+u) O O qO underlying50 BG qO qO) (qV (AD O BX (E1.cell (λf=>f) (b0 u _ aq))) (qV (AH underlying22 O) (qM _ O (AA (AM (Am (λnn_ σ an=>∃(j:Nat) (M:List Bool) (ad:List Int) (ka:Option Addr) (kc kn:Nat),(∃jj_,σ=BQ jj_ [(3,(.slice (some ⟨bi,0,none⟩) n n)),(8,(.slice (some ⟨bl,0,none⟩) n n)),(86,(.slice va lu.length vc)),(87,(I6 (lu.length:Int))),(88,(I6 (j:Int))),(9,(.slice ka kn kc))])∧Chg AZ w0 an∧Chg AZ W1 an∧Az an bd #[(I6 d.start),(.slice aa n ac),(.slice na n nc)] 52∧Az an bl ((M.map Value.bool).toArray) 4∧(j<=lu.length)∧(LiveP n c d M ad n)∧(H0 ae M ad u lu j)∧(M[u]?=some true)∧(kn=ad.length)∧(an.ownsRow n3 DP 1 (.slice ka kn kc) kn (ad.map (Value.int .i64)))∧(n3<=an.heap.size)∧(2*M.countP (λb=>!b)+ad.length<Z)∧nn_=lu.length - j) (n:=lu.length - 0) ?_ ?_))))))
       .exact ⟨0,M,wl,some ⟨kg,0,none⟩,kc,kn - 1,Af.out ⟨O,O,O,O,O,O,trivial⟩,E,E1,Bd,Bl,Nat.zero_le _,cq,da,ay,qO,b9,af,qO,O⟩
       .clear E E1 Bd Bl;rintro _ _ an ⟨j,M,ad,ka,kc,kn,⟨j15,rfl⟩,E,E1,Bd,Bl,hj,hL,hQ,ay,ar,hw,af,hZ,rfl⟩;refine Y (qV (Av O O) (AA (AE (qC O (λb4=>?_) (λb4=>?_)))))
        .obtain ⟨x,hx⟩:=AL (l:=lu) (i:=j) qO;obtain ⟨ct,hxn,y,hy,cp⟩:=hI.snd u lu bc x (List.mem_of_getElem? hx);obtain ⟨i,be⟩:=Int.eq_ofNat_of_zero_le ct;have cc:=hL.len;have cf:=hL.cnt;obtain ⟨q,hq⟩:=AL (l:=M) (i:=i) qO;have bu:=FM (Aj ag E1) O;obtain ⟨ub,uo,rfl,cw⟩:=BF bu qO;refine AK (AB (AE (AM (Y (qV (AC (b:=ub) (o:=uo) (len:=lu.length) (cap:=vc) (i:=j) (o':=uo+j) O O O underlying22 Ab qO qO) (qV (AD O Aa (cw j x hx)) (qA _ O (AA (Y (qM _ O (qM _ O (qV (AC (b:=bl) (o:=0) (len:=n) (cap:=n) (i:=i) (o':=0+i) O O qO underlying66 H8 qO qO) (qV (AD (v:=(.bool q)) O GF (Bl.cell (by simp[hq]))) (qV (Cj O) (AA (A3 O (λaj=>?_) (λaj=>?_)))))))))))))))))
         .have b1:=aj;replace aj:=by simpa using aj
          have bm:M[i]?=some false:=by rw[hq,aj]
          have bo:BI c d ((i:Nat):Int):=Uf (x:=y) (by rw[<-be,cp];exact hL.snd u ay) hy;have bs:=hL.mark bm bo;have ci:=count_set bm;refine Y (qM _ O (qM _ O (qV (AC (b:=bl) (o:=0) (len:=n) (cap:=n) (i:=i) (o':=0+i) O O qO underlying66 H8 qO qO) (BB (b:=bl) (o:=0+i) (c':=((M.set i true).map Value.bool).toArray) (v:=(.bool true)) O O O H8 Bl (by simp;omega) (MJ true) ?_))));intro w18 a1;replace hw:=Ax hw a1.chg λb hb h=>by subst h;have:=(hw.lt _ hb).1;omega
          replace af:=Nat.le_trans af a1.chg.size;replace Bd:=a1.keep qO Bd;replace E:=a1.step E qQ;replace E1:=a1.step E1 (Or.inl qO);replace Bl:=a1.blk;refine AA (AG (qM _ O (qM _ O (Ad (ps:=[(0,(I6 x))]) (c:=#[(I6 x)]) qD O underlying22 Ab CW qD qD qK ?_))));intro b19 w19 av;replace Bd:=av.keep Bd;replace Bl:=av.keep Bl;replace hw:=Aj hw av.ext;replace af:=Nat.le_trans af av.ext.size;replace E:=E.ext av.ext;have ch:=av.blk;replace E1:=E1.ext av.ext;refine BT (base:=n3) (n:=kn) (m:=1) (xs:=(ad.map (Value.int .i64))) (news:=[(I6 x)]) (size:=1) (bytes:=8) (v:=(.slice ka kn kc)) qD underlying22 Ab GO CW O qD O hw O (O) (ch.cells O) qS (by unfold maxLen;omega) qO (af) ?_;intro v7 ca ak ah b2;replace Bd:=ah.keep (λh=>by have:=(hw.lt _ h).1;omega) Bd;replace Bl:=ah.keep (λh=>by have:=(hw.lt _ h).1;omega) Bl;replace E:=E.step ah (λx hx h=>absurd (hw.lt x h).1 qO);replace E1:=E1.step ah (λx hx h=>absurd (hw.lt x h).1 qO);obtain ⟨bk,bn,rfl⟩:=A9 ak;refine qA _ O (AA (AP (AB (AG (qV (Aq O O (A2 qO)) (qM _ O (AA (AB ?_))))))));exact ⟨lu.length - (j+1),qO,j+1,M.set i true,ad++[((i:Nat):Int)],bk,bn,kn+1,Af.out ⟨O,O,O,O,O,O,trivial⟩,E,E1,Bd,Bl,qO,bs,hQ.mark (by rw[hx,be]) bm,GV ay,(by simp;omega),(by rw[List.map_append,<-be];exact ak),Nat.le_trans af ah.size,(by simp;omega),O⟩
         .have b1:=aj;replace aj:=by simpa using aj
          refine AK (AP (AB (AG (qV (Aq O O (A2 qO)) (qM _ O (AA (AB ?_)))))));exact ⟨lu.length - (j+1),qO,j+1,M,ad,ka,kc,kn,Af.out ⟨O,O,O,O,O,O,trivial⟩,E,E1,Bd,Bl,qO,hL,hQ.seen hx (by rw[be,Int.toNat_natCast,hq,aj]),ay,ar,hw,af,hZ,O⟩
        .refine Ak (AR (AR (Ae (AP (AB ?_)))));exact ⟨2*M.countP (λb=>!b)+ad.length,qO,M,ad,ka,kc,kn,Af.out ⟨O,O,O,trivial⟩,E,E1,Bd,Bl,hL,hQ.done bc qO,ar,hw,af,O⟩
      .have c2:ad=[]:=List.eq_nil_of_length_eq_zero qO;rw[c2] at hL hC;refine Ak (AR (AR (Ae (AB (Y (qM _ O (qA _ O (AA (AS (AV results195 (v:=(.slice (some ⟨bl,0,none⟩) n n)) O ?_))))))))));exact ⟨⟨M,bl,PK ok hI hL hC,O,qO,Bl⟩,E⟩
end Go.Proofs
namespace Go.Proofs
open Go Go.Eng Go.Sort
theorem Refd.cnt_mono {n c b a:Nat} {d:Dfa} {p q:List Int} (D:Refd n c d p b) (C:Refd n c d q a) (G:∀s t:Nat,s<n->t<n->BI c d s->BI c d t->q[s]?=q[t]?->p[s]?=p[t]?):b<=a:=by
 have e:∀j:Nat,∃i:Nat,j<a->(i<b∧∀u:Nat,u<n->BI c d u->q[u]?=some ((j:Nat):Int)->p[u]?=some ((i:Nat):Int)):=by
  intro j;by_cases r:j<a
  .obtain ⟨u,k,g,w⟩:=C.onto j r;obtain ⟨i,hi,x⟩:=D.liv u k g;refine ⟨i,λ_=>⟨x,λv H F y=>?_⟩⟩;rw[<-G u v k H g F (by rw[w,y])];exact hi
  .exact ⟨0,λh=>absurd h r⟩
 obtain ⟨f,A⟩:=Classical.axiomOfChoice e;have B:=Gc (l:=List.range b) (m:=(List.range a).map f) List.nodup_range λi hi=>by
  rw[List.mem_range] at hi;obtain ⟨u,k,g,z⟩:=D.onto i hi;obtain ⟨j,r,o⟩:=C.liv u k g;have E:=(A j o).2 u k g r;rw[z] at E;exact List.mem_map.2 ⟨j,List.mem_range.2 o,by simp at E;omega⟩
 simpa using B
def BS (n:Int):List Int:=[n % 256,n / 256 % 256,n / 65536 % 256,n / 16777216 % 256]
def DG (l:List Int):ByteArray:=strOfNums (l.flatMap BS)
def Qw (l:List Int):Prop:=∀x∈l,-1<=x∧x<2147483648
theorem Pc (n:Int):∀x∈BS n,0<=x∧x<256:=by
 intro x a;simp only[BS,List.mem_cons,List.not_mem_nil,or_false] at a;omega
theorem Pd {x y:Int} (hx : -1<=x∧x<2147483648) (hy : -1<=y∧y<2147483648) (h:BS x=BS y):x=y:=by
 simp only[BS,List.cons.injEq,and_true] at h;omega
theorem L':∀{l m:List Int},Qw l->Qw m->l.flatMap BS=m.flatMap BS->l=m
 | [],[],_,_,_=>rfl
 | [],y::m,_,_,h=>by simp[BS] at h
 | x::l,[],_,_,h=>by simp[BS] at h
 | x::l,y::m,hl,hm,h=>by
  rw[List.flatMap_cons,List.flatMap_cons] at h;obtain ⟨c,b⟩:=List.append_inj h O;rw[Pd (hl x List.mem_cons_self) (hm y List.mem_cons_self) c,L' (λz a=>hl z (List.mem_cons_of_mem _ a)) (λz a=>hm z (List.mem_cons_of_mem _ a)) b]
theorem L9 {l:List Int}:∀x∈l.flatMap BS,0<=x∧x<256:=λx a=>by
 obtain ⟨y,_,h⟩:=List.mem_flatMap.1 a;exact Pc y x h
theorem SV {l m:List Int} (n:∀x∈l,0<=x∧x<256) (k:∀x∈m,0<=x∧x<256) (h:strOfNums l=strOfNums m):l=m:=by
 have g:=congrArg (λs=>s.data.toList) h;simp only[strOfNums_data] at g;have j:∀{l m:List Int},(∀x∈l,0<=x∧x<256)->(∀x∈m,0<=x∧x<256)->l.map (λi=>UInt8.ofNat i.toNat)=m.map (λi=>UInt8.ofNat i.toNat)->l=m:=by
  intro l
  induction l with
  | nil=>intro m _ _ h;cases m with
   | nil=>rfl
   | cons y m=>cases h
  | cons x l ih=>
   intro m f d h;cases m with
   | nil=>cases h
   | cons y m=>
    simp only[List.map_cons,List.cons.injEq] at h;have a:=f x List.mem_cons_self;have b:=d y List.mem_cons_self;have e:=congrArg UInt8.toNat h.1;simp only[UInt8.toNat_ofNat'] at e;rw[ih (λz c=>f z (List.mem_cons_of_mem _ c)) (λz c=>d z (List.mem_cons_of_mem _ c)) h.2];congr 1;omega
 exact j n k g
theorem S_ {l m:List Int} (b:Qw l) (a:Qw m) (h:DG l=DG m):l=m:=L' b a (SV L9 L9 h)
def DH:List (List Int)->Nat->List (ByteArray×Int)
  | [],_=>[]
  | m::ks,n=>(DG m,((n:Nat):Int))::DH ks (n+1)
theorem JH:∀(a:List (List Int)) (n:Nat),(DH a n).length=a.length
 | [],_=>rfl
 | _::a,n=>by simp[DH,JH a]
theorem Kc:∀(a:List (List Int)) (m:List Int) (n:Nat),DH (a++[m]) n=DH a n++[(DG m,(((n+a.length:Nat):Nat):Int))]
 | [],m,n=>rfl
 | x::a,m,n=>by
  show (DG x,_)::DH (a++[m]) (n+1)=(DG x,_)::(DH a (n+1)++_);rw[Kc a m (n+1),List.length_cons,show n+1+a.length=n+(a.length+1) by omega]
theorem Ly:∀{a:List (List Int)} {n:Nat} {q:ByteArray×Int},q∈DH a n->∃(j:Nat) (m:List Int),a[j]?=some m∧q=(DG m,(((n+j:Nat):Nat):Int))
 | [],_,_,h=>by cases h
 | x::a,n,q,h=>by
  rcases List.mem_cons.1 h with h|h
  .exact ⟨0,x,O,h⟩
  .obtain ⟨j,m,c,b⟩:=Ly h;exact ⟨j+1,m,c,by rw[b];congr 2;omega⟩
theorem JI:∀{a:List (List Int)} {n:Nat} {m:List Int},m∈a->DG m∈(DH a n).map (·.1)
 | x::a,n,m,h=>by
  rcases List.mem_cons.1 h with rfl|h
  .exact List.mem_cons_self
  .exact List.mem_cons_of_mem _ (JI (n:=n+1) h)
theorem Lz {b:List (List Int)} {m:List Int} {v:Int} (e:∀k∈b,Qw k) (d:Qw m) (h:A_ (DH b 0) (DG m)=some v):∃j:Nat,v=((j:Nat):Int)∧b[j]?=some m:=by
 obtain ⟨j,m',c,a⟩:=Ly (Ep h);simp only[Prod.mk.injEq,Nat.zero_add] at a;obtain rfl:=S_ d (e m' (List.mem_of_getElem? c)) a.1;exact ⟨j,a.2,c⟩
theorem PM {a:List (List Int)} {m:List Int} (h:A_ (DH a 0) (DG m)=none):m∉a∧DA (DH a 0) (DG m) ((a.length:Nat):Int)=DH (a++[m]) 0:=by
 refine ⟨λb=>?_,?_⟩
 .have:=DN.2 (JI (n:=0) b);rw[h] at this;cases this
 .rw[EJ _ h,Kc,Nat.zero_add]
abbrev Wd:Nat:=5
theorem Rd (n:Int):IntKind.u8.wrap n=n % 256:=by
 simp only[IntKind.wrap,IntKind.bits,IntKind.signed,Bool.true_and,Bool.false_and,decide_eq_true_eq,ge_iff_le,Int.reducePow,Nat.reduceSub,Bool.false_eq_true,if_false]
theorem Kv (n:Int) {k:Int} (h:0<=k):n.fdiv k=n / k:=Int.fdiv_eq_ediv_of_nonneg n h
theorem Ps (b:World) (base n:Nat) (v:Value) (xs:List Int) (x:Int) (j:b.ownsRow base Wd 1 v n (xs.map (Value.int .u8))) (hb:base<=b.heap.size) (hn:n<=1000000) (hxn:n=xs.length) (k : -1<=x∧x<2147483648) :
 CJ prog 197 #[v,.int .i64 x] b λr w=>(∃a c,r=.slice a (n+4) c)∧w.ownsRow base Wd 1 r (n+4) ((xs++BS x).map (Value.int .u8))∧Chg (λy=>v.ownBlock=some y) b w:=by
 obtain ⟨a,c,rfl⟩:=A9 j;refine F9 func197 O ntmps197 (Jo O) ?_;have E:Chg (λy=>(Value.slice a n c).ownBlock=some y) b b:=Chg.refl _ _;refine Y (qA _ O (AA (Y (qM _ O (qM _ O (qV (EI (c:=x % 256) ⟨_,underlying3⟩ underlying5 O (Rd x)) (qM _ O (qV (IV (c:=x / 256) O O qO (Kv x qD)) (qV (EI (c:=x / 256 % 256) ⟨_,underlying3⟩ underlying5 O (Rd _)) (qM _ O (qV (IV (c:=x / 65536) O O qO (Kv x qD)) (qV (EI (c:=x / 65536 % 256) ⟨_,underlying3⟩ underlying5 O (Rd _)) (qM _ O (qV (IV (c:=x / 16777216) O O qO (Kv x qD)) (qV (EI (c:=x / 16777216 % 256) ⟨_,underlying3⟩ underlying5 O (Rd _)) ?_)))))))))))))));refine Ad (ps:=[(0,(.int .u8 (x % 256))),(1,(.int .u8 (x / 256 % 256))),(2,(.int .u8 (x / 65536 % 256))),(3,(.int .u8 (x / 16777216 % 256)))]) (c:=#[(.int .u8 (x % 256)),(.int .u8 (x / 256 % 256)),(.int .u8 (x / 65536 % 256)),(.int .u8 (x / 16777216 % 256))]) qD O underlying162 MW T3 qD qD qK ?_;intro bt wt e;replace E:=E.ext e.ext;have l:=e.blk;have f:=Aj j e.ext;refine BT (base:=base) (n:=n) (m:=4) (xs:=(xs.map (Value.int .u8))) (news:=[(.int .u8 (x % 256)),(.int .u8 (x / 256 % 256)),(.int .u8 (x / 65536 % 256)),(.int .u8 (x / 16777216 % 256))]) (size:=1) (bytes:=1) (v:=(.slice a n c)) qD underlying162 MW WN T3 O qD O f O (O) (l.cells O) qS (by unfold maxLen;omega) qO ((by have:=e.ext.size;omega)) ?_;intro v7 w59 d g Dv7;replace E:=E.step g (λx k h=>h);obtain ⟨i,c2,rfl⟩:=A9 d;refine qA _ O (AA (AS (AV results197 (v:=(.slice i (n+4) c2)) O ?_)));exact ⟨⟨i,c2,O⟩,by rw[List.map_append];exact d,E⟩
end Go.Proofs
namespace Go.Proofs
open Go Go.Eng Go.Sort
set_option maxRecDepth 100000
def JT (base n:Nat) (xs:List Int):El:=λv w=>∃a c,v=.slice a n c∧w.ownsRow base Wd 1 (.slice a n c) n (xs.map (Value.int .u8))
theorem EU (base n:Nat) (xs:List Int):∀v w w',Ao w w'->JT base n xs v w->JT base n xs v w':=by
 rintro v w w' e ⟨a,c,d,b⟩;exact ⟨a,c,d,Aj b e⟩
theorem LV (b:World) (base:Nat) (x:Int) (hb:base<=b.heap.size) (f : -1<=x∧x<2147483648) :
 CJ prog 197 #[.slice none 0 0,.int .i64 x] b λr w=>JT base 4 (BS x) r w∧Ao b w:=
 (Ps b base 0 (.slice none 0 0) [] x (World.ownsRow_nil _ _ _ _) hb qD O f).mono λr w ⟨⟨a,c,g⟩,e,d⟩=>by
  subst g;exact ⟨⟨a,c,O,by simpa using e⟩,d.mono λy _ h=>by cases h⟩
theorem KI {P:Program} {σ:CN} {w:World} {ty t:TypeId} {pos:String} {af:Array Edge} {x:Operand} {dst:Option Tmp} {g:Option (Nat×Bool)} {s e base n c:Nat} {a:Option Addr} {l:List Int} (hs:P.underlying s=some (.slice e)) (o:P.underlying e=some (.int .u8)) (q:P.underlying t=some .string) (k:ev σ x=.slice a n c)
 (d:w.ownsRow base Wd 1 (.slice a n c) n (l.map (Value.int .u8))) (p:l.length=n) (j:0<n):(execOp (ev σ) ⟨dst,.convert s t x,ty,pos,af,g⟩).run P w=.ok (.value (.string (strOfNums l))) w:=by
 obtain ⟨b,rfl,_,r⟩:=Bj d j;have h:=run_convert_bytes_arg (P:=P) w s e hs o b 0 n c l p (λi hi=>by
  have m:l[i]?=some l[i]:=List.getElem?_eq_getElem qO;have f:=r i (.int .u8 (l.getD i 0)) (by simp[List.getD,m]);exact f) t q
 simp only[execOp,k,Sem.run_bind,h,Result.andThen_ok];rfl
theorem V4 (j:World) (I m n:Nat) (d:Dfa) (G:List Value) (s:Nat) (x:Int) (y:Az j I #[.func (.func 197) #[] #[]] 226) (p:Az j m G.toArray 52) (h:B' j d G) (k:d.accept.length=n) (hs:d.accept[s]?=some x) (Q : -1<=x∧x<2147483648) :
 CJ prog 198 #[.int .i64 ((s:Nat):Int),.pointer (some ⟨I,0,none⟩),.pointer (some ⟨m,0,none⟩)] j λr w=>r=.string (DG [x])∧Ao j w:=by
 obtain ⟨aa,A,na,nc,rfl,c,hnxt⟩:=h;have t:=AI hs;rw[k] at c t;obtain ⟨e,g,rfl,D⟩:=BF (n:=n) c qO;rw[k] at p;obtain ⟨base,hbase⟩:∃base,base=j.heap.size:=⟨_,O⟩;refine qR func198 O ntmps198 O (λE=>(Y (qA _ O (AA (AE ?_)))));obtain ⟨C,a⟩:∃P:List Fact,P=[.eq (.func (.func 197) #[] #[]),.eq (P6 m 1),.eq (.slice (some ⟨e,g,none⟩) n A),.eq (I6 (s:Int)),.eq (.pointer (some ⟨e,g+s,none⟩)),.eq (I6 x),.gen (JT base 4 (BS x)) (EU _ _ _),.eq (.string (strOfNums (BS x))),.eq (.string (strOfNums (BS x)))]:=⟨_,O⟩;refine LC [5,6,7,8,9,10,11,12,4] [[],[],[1],[],[2,3],[4],[0,5],[6],[0,1,2,3,4,5,6,7]] C a mixed qK qK ?_ ?_
 .intro wd o;refine DagSteps.cons (λb w' X U H=>Or.inl ⟨?_,?_⟩) ?_
  .exact AQ O
  .exact A1 (AD (U 1 O) J1 (((o.trans X).keep y).cell O)) (Ao.refl _) O
  refine DagSteps.cons (λb w' X U H=>Or.inl ⟨?_,?_⟩) ?_
  .exact AQ O
  .exact A1 (AN (U 2 O) underlying52 O BG O) (Ao.refl _) O
  refine DagSteps.cons (λb w' X U H=>Or.inl ⟨?_,?_⟩) ?_
  .exact AQ O
  .have K:b 6=(.pointer (some ⟨m,1,none⟩)):=H 1 O 6 (.eq (.pointer (some ⟨m,1,none⟩))) O (by rw[a];rfl);exact A1 (AD K BX (((o.trans X).keep p).cell O)) (Ao.refl _) O
  refine DagSteps.cons (λb w' X U H=>Or.inl ⟨?_,?_⟩) ?_
  .exact AQ O
  .exact A1 (Ah (U 0 O)) (Ao.refl _) O
  refine DagSteps.cons (λb w' X U H=>Or.inl ⟨?_,?_⟩) ?_
  .exact AQ O
  .have L:b 7=(.slice (some ⟨e,g,none⟩) n A):=H 2 O 7 (.eq (.slice (some ⟨e,g,none⟩) n A)) O (by rw[a];rfl);have M:b 8=(.int .i64 ((s:Nat):Int)):=H 3 O 8 (.eq (.int .i64 ((s:Nat):Int))) O (by rw[a];rfl);exact A1 (AC (i:=s) L M O underlying22 Ab qO qO) (Ao.refl _) O
  refine DagSteps.cons (λb w' X U H=>Or.inl ⟨?_,?_⟩) ?_
  .exact AQ O
  .have N:b 9=(.pointer (some ⟨e,g+s,none⟩)):=H 4 O 9 (.eq (.pointer (some ⟨e,g+s,none⟩))) O (by rw[a];rfl);exact A1 (AD N Aa ((Chg.ext E (o.trans X)).cell (λf=>f) (D s x hs))) (Ao.refl _) O
  refine DagSteps.cons (λb w' X U H=>Or.inl ⟨?_,?_⟩) ?_
  .exact AQ O
  .have q:b 10=(.int .i64 x):=H 5 O 10 (.eq (.int .i64 x)) O (by rw[a];rfl);have J:b 5=(.func (.func 197) #[] #[]):=H 0 O 5 (.eq (.func (.func 197) #[] #[])) O (by rw[a];rfl);exact Dt (D_ J func197 kQ kQ (JD O q) O) (LV _ base x (by have:=o.size;have:=X.size;omega) Q)
  refine DagSteps.cons (λb w' X U H=>Or.inl ⟨?_,?_⟩) ?_
  .exact AQ O
  .obtain ⟨a11,c11,z,B⟩:=H 6 O 11 (.gen (JT base 4 (BS x)) (EU _ _ _)) O (by rw[a];rfl);exact A1 (KI (l:=BS x) underlying162 underlying5 underlying9 z B O qD) (Ao.refl _) O
  refine DagSteps.cons (λb w' X U H=>Or.inl ⟨?_,?_⟩) ?_
  .exact AQ O
  .have u:b 12=(.string (strOfNums (BS x))):=H 7 O 12 (.eq (.string (strOfNums (BS x)))) O (by rw[a];rfl);exact A1 (FS u) (Ao.refl _) O
  exact DagSteps.nil
 .intro b w1 F U H;obtain ⟨j1,rfl⟩:=Af.out (σ:=b) (l:=[(4,(.string (strOfNums (BS x))))]) ⟨(show b 4=(.string (strOfNums (BS x))) from H 8 4 (.eq (.string (strOfNums (BS x)))) O (by rw[a];rfl)),trivial⟩;clear U H;replace y:=F.keep y;replace p:=F.keep p;replace E:=E.ext F;refine AB (AS (AV results198 (v:=(.string (strOfNums (BS x)))) O ?_));exact ⟨by unfold DG;simp,E⟩
theorem LU (b:World) (base n:Nat) (a:Option Addr) (c:Nat) (xs:List Int) (x:Int) (j:b.ownsRow base Wd 1 (.slice a n c) n (xs.map (Value.int .u8))) (hb:base<=b.heap.size) (f:n<=1000000) (d:n=xs.length) (g : -1<=x∧x<2147483648) :
 CJ prog 197 #[.slice a n c,.int .i64 x] b λr w=>JT base (n+4) (xs++BS x) r w∧Chg (λy=>(Value.slice a n c).ownBlock=some y) b w:=
 (Ps b base n (.slice a n c) xs x j hb f d g).mono λr w ⟨⟨a,c,i⟩,e,h⟩=>by
  subst i;exact ⟨⟨a,c,O,e⟩,h⟩
theorem LJ (c:Nat) (d:Dfa) (p:List Int) (s:Nat):DG (Dw c d p s)=strOfNums (BS (Ck p s)++((List.range c).map λx=>Ck p (BN d s x)).flatMap BS):=by
 unfold DG Dw;rw[List.flatMap_cons]
theorem Ju {n:Nat} {p:List Int} (a:∀x∈p,-1<=x∧x<(n:Int)) (hn:n<=20000) (s:Int) : -1<=Ck p s∧Ck p s<2147483648:=by
 unfold Ck;split
 .omega
 .rw[List.getD_eq_getElem?_getD];cases h:p[s.toNat]? with
  | none=>simp
  | some x=>have:=a x (List.mem_of_getElem? h);simp;omega
theorem V3 (J:World) (bw Z bd n c q L:Nat) (d:Dfa) (dv:List Value) (p:List Int) (s:Nat) (ok:OkD n c d) (z:Az J bw #[.func (.func 197) #[] #[]] 226) (B:Az J Z #[.slice (some ⟨q,0,none⟩) n L] 22) (A:Az J bd dv.toArray 52) (h:B' J d dv)
 (hP:CF J (.slice (some ⟨q,0,none⟩) n L) p) (hpl:p.length=n) (ad:∀x∈p,-1<=x∧x<(n:Int)) (hs:s<n) (hn:n<=20000∧c<=16) :
 CJ prog 199 #[.int .i64 ((s:Nat):Int),.pointer (some ⟨bw,0,none⟩),.pointer (some ⟨Z,0,none⟩),.pointer (some ⟨bd,0,none⟩)] J λr w=>r=.string (DG (Dw c d p s))∧Ao J w:=by
 obtain ⟨aa,ac,na,nc,rfl,hacc,P⟩:=h;have ay:=ok.nl;rw[ay] at P A;obtain ⟨nb,no,rfl,al⟩:=Ca (n:=n) P qO;obtain ⟨row,D⟩:=AL (l:=d.next) (i:=s) qO;have hrl:=(ok.row row (List.mem_of_getElem? D)).1;obtain ⟨ra,rc,S,ap⟩:=al s row D;obtain ⟨j,G⟩:=AL (l:=p) (i:=s) qO;have ae:=Ct G;obtain ⟨pb',po',ab,V⟩:=BF (n:=n) hP qO;simp only[Option.some.injEq,Addr.mk.injEq,and_true] at ab;obtain ⟨rfl,rfl⟩:=ab;obtain ⟨base,hbase⟩:∃base,base=J.heap.size:=⟨_,O⟩;have hpb:q<J.heap.size:=World.block_lt_of_cell? J _ (V s j G);have hbw:=z.lt;have hbo:=B.lt;have hbd:=A.lt;refine qR func199 O ntmps199 O (λE=>(Y (qA _ O (AA (AE ?_)))));obtain ⟨a8,e⟩:∃Fs:List Fact,Fs=[.eq (.func (.func 197) #[] #[]),.eq (.slice (some ⟨q,0,none⟩) n L),.eq (I6 (s:Int)),.eq (.pointer (some ⟨q,0+s,none⟩)),.eq (I6 j),.gen (JT base 4 (BS j)) (EU _ _ _),.gen (JT base 4 (BS j)) (EU _ _ _)]:=⟨_,O⟩;refine LC [9,10,11,12,13,14,6] [[],[],[],[1,2],[3],[0,4],[0,1,2,3,4,5]] a8 e mixed qK qK ?_ ?_
 .intro wd u;refine DagSteps.cons (λa w' X U H=>Or.inl ⟨?_,?_⟩) ?_
  .exact AQ O
  .exact A1 (AD (U 1 O) J1 (((u.trans X).keep z).cell O)) (Ao.refl _) O
  refine DagSteps.cons (λa w' X U H=>Or.inl ⟨?_,?_⟩) ?_
  .exact AQ O
  .exact A1 (AD (U 2 O) BX (((u.trans X).keep B).cell O)) (Ao.refl _) O
  refine DagSteps.cons (λa w' X U H=>Or.inl ⟨?_,?_⟩) ?_
  .exact AQ O
  .exact A1 (Ah (U 0 O)) (Ao.refl _) O
  refine DagSteps.cons (λa w' X U H=>Or.inl ⟨?_,?_⟩) ?_
  .exact AQ O
  .have aw:a 10=(.slice (some ⟨q,0,none⟩) n L):=H 1 O 10 (.eq (.slice (some ⟨q,0,none⟩) n L)) O (by rw[e];rfl);have a4:a 11=(.int .i64 ((s:Nat):Int)):=H 2 O 11 (.eq (.int .i64 ((s:Nat):Int))) O (by rw[e];rfl);exact A1 (AC (i:=s) aw a4 O underlying22 Ab qO qO) (Ao.refl _) O
  refine DagSteps.cons (λa w' X U H=>Or.inl ⟨?_,?_⟩) ?_
  .exact AQ O
  .have aj:a 12=(.pointer (some ⟨q,0+s,none⟩)):=H 3 O 12 (.eq (.pointer (some ⟨q,0+s,none⟩))) O (by rw[e];rfl);exact A1 (AD aj Aa ((Chg.ext E (u.trans X)).cell (λf=>f) (V s j G))) (Ao.refl _) O
  refine DagSteps.cons (λa w' X U H=>Or.inl ⟨?_,?_⟩) ?_
  .exact AQ O
  .have ao:a 13=(.int .i64 j):=H 4 O 13 (.eq (.int .i64 j)) O (by rw[e];rfl);have e9:a 9=(.func (.func 197) #[] #[]):=H 0 O 9 (.eq (.func (.func 197) #[] #[])) O (by rw[e];rfl);exact Dt (D_ e9 func197 kQ kQ (JD O ao) O) (LV _ base j (by have:=u.size;have:=X.size;omega) (by rw[<-ae];exact Ju ad hn.1 _))
  refine DagSteps.cons (λa w' X U H=>Or.inl ⟨?_,?_⟩) ?_
  .exact AQ O
  .obtain ⟨a1,a9,a3,ak⟩:=H 5 O 14 (.gen (JT base 4 (BS j)) (EU _ _ _)) O (by rw[e];rfl);exact A1 (FS a3) (Ao.refl _) ⟨a1,a9,O,ak⟩
  exact DagSteps.nil
 .intro a w1 X1 U H;obtain ⟨a6,c6,e6,O6⟩:=H 6 6 (.gen (JT base 4 (BS j)) (EU _ _ _)) O (by rw[e];rfl);obtain ⟨j1,rfl⟩:=Af.out (σ:=a) (l:=[(0,(.int .i64 ((s:Nat):Int))),(1,(.pointer (some ⟨bw,0,none⟩))),(2,(.pointer (some ⟨Z,0,none⟩))),(3,(.pointer (some ⟨bd,0,none⟩))),(6,(.slice a6 4 c6))]) ⟨U 0 O,U 1 O,U 2 O,U 3 O,e6,trivial⟩;clear U H;replace z:=X1.keep z;replace B:=X1.keep B;replace A:=X1.keep A;replace E:=E.ext X1;refine AB (AE (Y (qF bd 0 2 O underlying52 O CB O (qV (AD O B0 (A.cell O)) (qM _ O (qV (AC (b:=nb) (o:=no) (len:=n) (cap:=nc) (i:=s) (o':=no+s) O O O underlying50 BG qO qO) (qV (AD O BX (E.cell (λf=>f) S)) ?_)))))));have au:base<=(w1).heap.size:=by have:=E.size;omega
  refine qV (AH underlying22 O) (qM _ O (AA (AM (Am (λnn_ σ W=>∃(k:Nat) (xs:List Int) (F:Option Addr) (I m:Nat),(∃jj_,σ=BQ jj_ [(1,(P6 bw 0)),(2,(P6 Z 0)),(19,(.slice ra row.length rc)),(20,(I6 (row.length:Int))),(21,(I6 (k:Int))),(6,(.slice F m I))])∧Chg AZ J W∧Az W bw #[(.func (.func 197) #[] #[])] 226∧Az W Z #[(.slice (some ⟨q,0,none⟩) n L)] 22∧Az W bd #[(I6 d.start),(.slice aa d.accept.length ac),(.slice (some ⟨nb,no,none⟩) n nc)] 52∧(k<=c)∧(xs=BS (Ck p s)++((List.range k).map λx=>Ck p (BN d s x)).flatMap BS)∧(xs.length=4*(k+1))∧(m=xs.length)∧(W.ownsRow base Wd 1 (.slice F m I) m (xs.map (Value.int .u8)))∧(base<=W.heap.size)∧nn_=c - k) (n:=c - 0) ?_ ?_))))
  .exact ⟨0,BS j,a6,c6,4,Af.out ⟨O,O,O,O,O,O,trivial⟩,E,z,B,A,Nat.zero_le _,(by rw[ae];simp),O,O,O6,au,O⟩
  .clear E z B A;rintro _ _ W ⟨k,xs,F,I,m,⟨j2,rfl⟩,E,z,B,A,hk,ai,hbl,R,C,T,rfl⟩;refine Y (qV (Av O O) (AA (AE (qC O (λaz=>?_) (λaz=>?_)))))
   .obtain ⟨x,hx⟩:=AL (l:=row) (i:=k) qO;obtain ⟨rb,ro,rfl,an⟩:=BF ap qO;obtain ⟨be,hkc,_,hxl,hxh⟩:=MR ok D hx;have Q:∀y,y=Ck p x->xs++BS y=BS (Ck p s)++((List.range (k+1)).map λx=>Ck p (BN d s x)).flatMap BS:=λy hy=>by rw[List.range_succ,List.map_append,List.flatMap_append,ai,List.append_assoc,hy,<-be];simp
    refine AK (AB (AE (AM (Y (qV (AC (b:=rb) (o:=ro) (len:=row.length) (cap:=rc) (i:=k) (o':=ro+k) O O O underlying22 Ab qO qO) (qV (AD O Aa (E.cell (λf=>f) (an k x hx))) (qA _ O (AA (Y (qM _ O (qV (Av O O) (AA (qC O (λM=>?_) (λM=>?_))))))))))))))
    .refine AG (qV (AD O J1 (z.cell O)) (qM _ O (qE O (D_ O func197 kQ kQ O O) (LU _ base m F I xs (-1) C T qO R qO) ?_)));rintro _ w9 ⟨⟨a2,c2,rfl,O9⟩,C9⟩;replace z:=C9.keep (λh=>by have:=(C.lt _ h).1;omega) z;replace B:=C9.keep (λh=>by have:=(C.lt _ h).1;omega) B;replace A:=C9.keep (λh=>by have:=(C.lt _ h).1;omega) A;replace E:=E.step C9 (λx hx h=>absurd (C.lt x h).1 qO);refine qA _ O (AA (AP (AB (AG (qV (Aq O O (A2 qO)) (qM _ O (AA (AB ?_))))))));exact ⟨c - (k+1),qO,k+1,xs++BS (-1),a2,c2,m+4,Af.out ⟨O,O,O,O,O,O,trivial⟩,E,z,B,A,qO,Q _ (Mb M).symm,(by simp[BS];omega),(by simp[BS];omega),O9,Nat.le_trans T C9.size,O⟩
    .obtain ⟨t,ht⟩:=Int.eq_ofNat_of_zero_le (show 0<=x by omega);obtain ⟨K,ag⟩:=AL (l:=p) (i:=t) qO;have N:K=Ck p x:=by rw[ht];exact (Ct ag).symm
     obtain ⟨ar,g⟩:∃Fs:List (FactT ((λy=>(Value.slice F m I).ownBlock=some y))),Fs=[.eq (.func (.func 197) #[] #[]),.eq (.slice F m I),.eq (.slice (some ⟨q,0,none⟩) n L),.eq (I6 x),.eq (.pointer (some ⟨q,0+t,none⟩)),.eq (I6 K),.own (JT base (m+4) (xs++BS K)) (EU _ _ _)]:=⟨_,O⟩;refine Iz ((λy=>(Value.slice F m I).ownBlock=some y)) 7 6 [30,31,32,33,34,35,36] [[],[],[],[],[2,3],[4],[0,1,5]] ar g O mixed qK qK qK ?_ ?_
     .intro wd u;refine DagStepsT.cons (λa w' X U H=>?_) ?_
      .exact AY (AD (U 1 O) J1 ((Chg.keep X (λf=>f) (u.keep z)).cell O)) (Chg.refl _ _) O
      refine DagStepsT.cons (λa w' X U H=>?_) ?_
      .exact AY (Ah (U 6 O)) (Chg.refl _ _) O
      refine DagStepsT.cons (λa w' X U H=>?_) ?_
      .exact AY (AD (U 2 O) BX ((Chg.keep X (λh=>by have:=(C.lt _ h).1;omega) (u.keep B)).cell O)) (Chg.refl _ _) O
      refine DagStepsT.cons (λa w' X U H=>?_) ?_
      .exact AY (Ah (U 8 O)) (Chg.refl _ _) O
      refine DagStepsT.cons (λa w' X U H=>?_) ?_
      .have bg:a 32=(.slice (some ⟨q,0,none⟩) n L):=H 2 O 32 (.eq (.slice (some ⟨q,0,none⟩) n L)) O (by rw[g];rfl);have bb:a 33=(.int .i64 x):=H 3 O 33 (.eq (.int .i64 x)) O (by rw[g];rfl);exact AY (AC (i:=t) bg bb qO underlying22 Ab qO qO) (Chg.refl _ _) O
      refine DagStepsT.cons (λa w' X U H=>?_) ?_
      .have av:a 34=(.pointer (some ⟨q,0+t,none⟩)):=H 4 O 34 (.eq (.pointer (some ⟨q,0+t,none⟩))) O (by rw[g];rfl);exact AY (AD av Aa (Ao.cell X (Ao.cell u (E.cell (λf=>f) (V t K ag))))) (Chg.refl _ _) O
      refine DagStepsT.cons (λa w' X U H=>?_) ?_
      .have am:a 31=(.slice F m I):=H 1 O 31 (.eq (.slice F m I)) O (by rw[g];rfl);have a0:a 35=(.int .i64 K):=H 5 O 35 (.eq (.int .i64 K)) O (by rw[g];rfl);have a5:a 30=(.func (.func 197) #[] #[]):=H 0 O 30 (.eq (.func (.func 197) #[] #[])) O (by rw[g];rfl);exact Dv (D_ a5 func197 kQ kQ (JD am a0) O) (LU _ base m F I xs K (Aj (Aj C u) X) (by have:=u.size;have:=X.size;omega) qO R (by rw[N];exact Ju ad hn.1 _))
      exact DagStepsT.nil
     .intro a wd5 w5 u X5 U H;obtain ⟨ah,af,ax,bf⟩:=(show (.own (JT base (m+4) (xs++BS K)) (EU _ _ _):FactT ((λy=>(Value.slice F m I).ownBlock=some y))).In (a 36) w5 from H 6 36 (.own (JT base (m+4) (xs++BS K)) (EU _ _ _)) O (by rw[g];rfl));obtain ⟨j5,rfl⟩:=Af.out (σ:=a) (l:=[(1,(.pointer (some ⟨bw,0,none⟩))),(2,(.pointer (some ⟨Z,0,none⟩))),(19,(.slice (some ⟨rb,ro,none⟩) row.length rc)),(20,(.int .i64 ((row.length:Nat):Int))),(21,(.int .i64 ((k:Nat):Int))),(36,(.slice ah (m+4) af))]) ⟨U 1 O,U 2 O,U 19 O,U 20 O,U 21 O,ax,trivial⟩;clear U H;replace z:=Chg.keep X5 (λh=>by have:=(C.lt _ h).1;omega) (u.keep z);replace B:=Chg.keep X5 (λh=>by have:=(C.lt _ h).1;omega) (u.keep B);replace A:=Chg.keep X5 (λh=>by have:=(C.lt _ h).1;omega) (u.keep A);have a7:=Chg.trans (Ao.chg u) X5;replace E:=(E.ext u).step X5 (λy hy h=>by have:=(C.lt _ h).1;omega);refine qA _ O (AA (AP (AB (AG (qV (Aq O O (A2 qO)) (qM _ O (AA (AB ?_))))))));exact ⟨c - (k+1),qO,k+1,xs++BS K,ah,af,m+4,Af.out ⟨O,O,O,O,O,O,trivial⟩,E,z,B,A,qO,Q _ N,(by simp[BS];omega),(by simp[BS];omega),bf,Nat.le_trans T a7.size,O⟩
   .have aq:k=c:=qO
    refine Ak (AR (AR (Ae (AB (Y (qM _ O (qV (KI (l:=xs) underlying162 underlying5 underlying9 O C R.symm qO) (qA _ O (AA (AS (AV results199 (v:=(.string (strOfNums xs))) O ?_)))))))))));exact ⟨by rw[LJ,<-aq,<-ai],E⟩
end Go.Proofs
namespace Go.Proofs
open Go Go.Eng Go.Sort
set_option maxRecDepth 100000
def EE (M:List Bool) (keyf:Nat->List Int) (n:Nat):List (Option (List Int)):=(List.range n).map λs=>if M[s]?=some true then some (keyf s) else none
theorem Je (M:List Bool) (a:Nat->List Int) (n:Nat):EE M a (n+1)=EE M a n++[if M[n]?=some true then some (a n) else none]:=by
 unfold EE;rw[List.range_succ,List.map_append];rfl
theorem Sj {f:List (List Int)} {k:List Int} {j:Nat} (h:∀k∈f,Qw k) (hd:f.Nodup) (d:f[j]?=some k):A_ (DH f 0) (DG k)=some ((j:Nat):Int):=by
 have g:=List.mem_of_getElem? d;have m:=DN.2 (JI (n:=0) g);obtain ⟨v,l⟩:=Option.isSome_iff_exists.1 m;obtain ⟨i,rfl,hi⟩:=Lz h (h k g) l;have a:=AI hi;have b:=AI d;rw[List.getElem?_eq_getElem a] at hi;rw[List.getElem?_eq_getElem b] at d;have e:=(Option.some.inj hi).trans (Option.some.inj d).symm;have:i=j:=by
  rcases Nat.lt_trichotomy i j with c|c|c
  .exact absurd e (List.pairwise_iff_getElem.1 hd i j a b c)
  .exact c
  .exact absurd e.symm (List.pairwise_iff_getElem.1 hd j i b a c)
 rw[l,this]
theorem C7 {L:List Int} {k:Nat} (x:Int):((L.map (Value.int .i64)).toArray).setIfInBounds (0+k) (.int .i64 x)=((L.set k x).map (Value.int .i64)).toArray:=by
 apply Array.ext';rw[Array.toList_setIfInBounds,Nat.zero_add,<-List.map_set]
theorem CX {L:List Int} {s:Nat} {x:Int} (hs:s<L.length):(L.set s x).take (s+1)=L.take s++[x]:=by
 rw[List.take_add_one,List.getElem?_set,if_pos O,if_pos hs,List.take_set_of_le (Nat.le_refl s)];rfl
theorem SX {M:List Bool} {a:Nat->List Int} {s j:Nat} {c b:List (List Int)} {out:List Int} (e:Num (EE M a s) c out) (h:M[s]?=some true) (k:b=c∨(a s∉c∧b=c++[a s]∧j=c.length)) (i:b[j]?=some (a s)):Num (EE M a (s+1)) b (out++[((j:Nat):Int)]):=by
 rw[Je,if_pos h];rcases k with d|⟨d,g,f⟩
 .subst d;exact e.hit i
 .subst g;subst f;exact e.new d
theorem SU {b a:List (List Int)} {x:List Int} {j:Nat} (c:∀k∈b,Qw k) (f:Qw x) (g:a=b∨(x∉b∧a=b++[x]∧j=b.length)):∀k∈a,Qw k:=by
 intro k h;rcases g with i|⟨_,e,_⟩
 .subst i;exact c k h
 .subst e;rcases List.mem_append.1 h with d|d
  .exact c k d
  .rw[List.mem_singleton] at d;subst d;exact f
theorem ZQ (w0:World) (bp blv lb bc n pc:Nat) (pa:Option Addr) (fv:Value) (cnt0:Int) (M:List Bool) (keyf:Nat→List Int)
  (hP:Az w0 bp #[.slice pa n pc] 22) (hV:Az w0 blv #[.slice (some ⟨lb,0,none⟩) n n] 66) (hB:Az w0 lb (M.map Value.bool).toArray 4) (hC:Az w0 bc #[.int .i64 cnt0] 3)
  (hdis:bp≠blv∧bp≠lb∧bp≠bc∧bc≠blv∧bc≠lb) (hMl:M.length=n) (hn:n≤20000)
  (hkey:∀(w:World) (s:Nat),s<n→M[s]?=some true→Ao w0 w→CV prog fv #[.int .i64 ((s:Nat):Int)] w fun r w'=>r=.string (DG (keyf s))∧Ao w w')
  (hok:∀s,s<n→M[s]?=some true→Qw (keyf s)) :
  CJ prog 196 #[fv,.pointer (some ⟨bp,0,none⟩),.pointer (some ⟨blv,0,none⟩),.pointer (some ⟨bc,0,none⟩)] w0 fun r w=>r=.tuple #[]∧(∃q ks b,Num (EE M keyf n) ks q∧Az w bp #[.slice (some ⟨b,0,none⟩) n n] 22∧Az w b (q.map (Value.int .i64)).toArray 3∧w0.heap.size≤b∧Az w bc #[.int .i64 ((ks.length:Nat):Int)] 3)∧Chg (fun y=>y=bp∨y=bc) w0 w:=by
 have l1:=hP.lt;have l2:=hV.lt;have l3:=hB.lt;have l4:=hC.lt;obtain ⟨d1,d2,d3,d4,d5⟩:=hdis;refine F9 func196 rfl ntmps196 (Jo rfl) ?_;have E:Chg (fun y=>y=bp∨y=bc) w0 w0:=Chg.refl _ _;have E9:Chg AZ w0 w0:=Chg.refl _ _;refine Y (Eg G9 DJ qD ?_);intro bm wm Nm;have Fm:=Nm.ge E;have Fm_E9:=Nm.ge E9;have Om_bp:=Nm.lt hP;have Om_blv:=Nm.lt hV;have Om_lb:=Nm.lt hB;have Om_bc:=Nm.lt hC;replace hP:=Nm.keep hP;replace hV:=Nm.keep hV;replace hB:=Nm.keep hB;replace hC:=Nm.keep hC;replace E:=E.ext Nm.ext;replace E9:=E9.ext Nm.ext;intro Mm;refine qA _ rfl (AA (Y (qV (AD rfl BX (hP.cell rfl)) (qV (AH underlying22 rfl) (E8 (n:=n) (z:=(I6 0)) (bytes:=8) qD underlying22 Ab GO CW rfl rfl rfl qO qO ?_)))));intro bq wq Nq;have Fq:=Nq.ge E;have Fq_E9:=Nq.ge E9;have Oq_bp:=Nq.lt hP;have Oq_blv:=Nq.lt hV;have Oq_lb:=Nq.lt hB;have Oq_bc:=Nq.lt hC;have Oq_bm:=Nq.ltM Mm;replace hP:=Nq.keep hP;replace hV:=Nq.keep hV;replace hB:=Nq.keep hB;replace hC:=Nq.keep hC;replace Mm:=Nq.keepM Mm;replace E:=E.ext Nq.ext;have Bq:=Nq.blk;replace E9:=E9.ext Nq.ext;refine qA _ rfl (AA (AE (Y (qV (AD rfl BX (hP.cell rfl)) (qV (AH underlying22 rfl) (qM _ rfl (AA (AM ?_))))))));rw[show List.replicate n (Value.int .i64 0)=(List.replicate n (0:Int)).map (Value.int .i64) by simp] at Bq;refine Am (fun nn_ σ W1=>∃(s:Nat) (ks:List (List Int)) (L:List Int),(∃jj_,σ=BQ jj_ [(0,fv),(1,(P6 bp 0)),(2,(P6 blv 0)),(3,(P6 bc 0)),(5,(.map (some bm))),(6,(.slice (some ⟨bq,0,none⟩) n n)),(16,(I6 (n:Int))),(17,(I6 (s:Int)))])∧Chg (fun y=>y=bp∨y=bc) w0 W1∧Chg AZ w0 W1∧Az W1 bp #[(.slice pa n pc)] 22∧Az W1 blv #[(.slice (some ⟨lb,0,none⟩) n n)] 66∧Az W1 lb ((M.map Value.bool).toArray) 4∧Az W1 bc #[(I6 cnt0)] 3∧BZ W1 bm G9 DJ (DH ks 0)∧Az W1 bq ((L.map (Value.int .i64)).toArray) 3∧(s≤n)∧(L.length=n)∧(Num (EE M keyf s) ks (L.take s))∧(∀k∈ks,Qw k)∧nn_=n - s) (n:=n - 0) ?_ ?_
 ·exact ⟨0,[],List.replicate n 0,Af.out ⟨rfl,rfl,rfl,rfl,rfl,rfl,rfl,rfl,trivial⟩,E,E9,hP,hV,hB,hC,Mm,Bq,Nat.zero_le _,qP,Num.start,(fun k h=>absurd h List.not_mem_nil),rfl⟩
 ·clear E E9 hP hV hB hC Mm Bq;rintro _ _ W1 ⟨s,ks,L,⟨j1,rfl⟩,E,E9,hP,hV,hB,hC,Mm,Bq,hs,ah,hN,am,rfl⟩;refine Y (qV (Av rfl rfl) (AA (AE (qC rfl (fun a0=>?_) (fun a0=>?_)))))
  ·obtain ⟨q,hq⟩:=AL (l:=M) (i:=s) qO;have aw:=CX (L:=L) (s:=s) (x:=-1) qO;refine AK (AB (AE (AM (Y (qM _ rfl (qA _ rfl (AA (AE (Y (qM _ rfl (qM _ rfl (qV (AC (b:=bq) (o:=0) (len:=n) (cap:=n) (i:=s) (o':=0+s) rfl rfl rfl underlying22 Ab qO qO) (BB (b:=bq) (o:=0+s) (c':=((L.set s (-1)).map (Value.int .i64)).toArray) (v:=(I6 (-1))) rfl rfl rfl Ab Bq (by simp;omega) (C7 _) ?_)))))))))))));intro w3 S3;replace hP:=S3.keep qO hP;replace hV:=S3.keep qO hV;replace hB:=S3.keep qO hB;replace hC:=S3.keep qO hC;replace Mm:=S3.keepM qO Mm;replace E:=S3.step E qQ;replace E9:=S3.step E9 (Or.inl qO);replace Bq:=S3.blk;refine AA (Y (qV (AD rfl Mp (hV.cell rfl)) (qM _ rfl (qV (AC (b:=lb) (o:=0) (len:=n) (cap:=n) (i:=s) (o':=0+s) rfl rfl rfl underlying66 H8 qO qO) (qV (AD (v:=(.bool q)) rfl GF (hB.cell (by simp[hq]))) (qV (Cj rfl) (AA (A3 rfl (fun ab=>?_) (fun ab=>?_)))))))))
   ·have an:=ab;replace ab:=by simpa using ab
    refine Ak (AR (Ae (AB (AG (qV (Aq rfl rfl (A2 qO)) (qM _ rfl (AA (AB ?_))))))));exact ⟨n - (s+1),qO,s+1,ks,L.set s (-1),Af.out ⟨rfl,rfl,rfl,rfl,rfl,rfl,rfl,rfl,trivial⟩,E,E9,hP,hV,hB,hC,Mm,Bq,qO,(by simp[ah]),(by rw[Je,aw,if_neg (by rw[hq,ab];simp)];exact hN.none),am,rfl⟩
   ·have an:=ab;replace ab:=by simpa using ab
    have al:M[s]?=some true:=by rw[hq];simpa using ab
    have af:=hok s qO al;refine AK (AB (Y (qM _ rfl (qM _ rfl (De qD rfl rfl (hkey _ s qO al E9) ?_)))));rintro _ w9 ⟨rfl,X9⟩;replace hP:=X9.keep hP;replace hV:=X9.keep hV;replace hB:=X9.keep hB;replace hC:=X9.keep hC;replace Mm:=X9.keepM Mm;replace Bq:=X9.keep Bq;replace E:=E.ext X9;replace E9:=E9.ext X9;refine qA _ rfl (AA (GR (fun σ W5=>∃(ac:List (List Int)) (j:Nat),(∃jj_,σ=BQ jj_ [(0,fv),(1,(P6 bp 0)),(2,(P6 blv 0)),(3,(P6 bc 0)),(5,(.map (some bm))),(6,(.slice (some ⟨bq,0,none⟩) n n)),(7,(I6 (s:Int))),(8,(.string (DG (keyf s)))),(16,(I6 (n:Int))),(17,(I6 (s:Int)))])∧Chg (fun y=>y=bp∨y=bc) w0 W5∧Chg AZ w0 W5∧Az W5 bp #[(.slice pa n pc)] 22∧Az W5 blv #[(.slice (some ⟨lb,0,none⟩) n n)] 66∧Az W5 lb ((M.map Value.bool).toArray) 4∧Az W5 bc #[(I6 cnt0)] 3∧BZ W5 bm G9 DJ (DH ac 0)∧Az W5 bq (((L.set s (-1)).map (Value.int .i64)).toArray) 3∧((ac=ks∨(keyf s∉ks∧ac=ks++[keyf s]∧j=ks.length)))∧(ac[j]?=some (keyf s))) ?_ ?_))
    ·skip
     refine Y (qM _ rfl (qM _ rfl (B_ (v:=(.tuple #[(I6 ((A_ (DH ks 0) (DG (keyf s))).getD 0)),(.bool ((A_ (DH ks 0) (DG (keyf s))).isSome))])) rfl rfl qD (FL (k:=(DG (keyf s))) (z:=0) underlying161 (HE underlying9) CW Mm rfl rfl) (qM _ rfl (qV (Ai rfl rfl) (qV (Ai rfl rfl) (qA _ rfl (qA _ rfl (AA (Y (qM _ rfl (qV (Cj rfl) (AA (A3 rfl (fun aa=>?_) (fun aa=>?_)))))))))))))))
     ·have ag:=aa;replace aa:=by simpa using aa
      have ax:A_ (DH ks 0) (DG (keyf s))=none:=by simpa using aa
      obtain ⟨aj,ai⟩:=PM ax;have ao:=JH ks 0;refine AG (qM _ rfl (qM _ rfl (qM _ rfl (B_ (v:=(I6 (((DH ks 0).length:Nat):Int))) rfl rfl qD (NV underlying161 Mm rfl) (DM (k:=(DG (keyf s))) (v:=(((DH ks 0).length:Nat):Int)) underlying161 (HE underlying9) Mm rfl rfl rfl ?_)))));intro w7 S7 H7;replace hP:=S7.keep qO hP;replace hV:=S7.keep qO hV;replace hB:=S7.keep qO hB;replace hC:=S7.keep qO hC;replace Bq:=S7.keep qO Bq;replace E:=S7.step E qQ;replace E9:=S7.step E9 (Or.inl qO);replace Mm:=H7;refine AA (AB ?_);rw[ao,ai] at Mm;exact ⟨ks++[keyf s],ks.length,Af.out ⟨rfl,rfl,rfl,rfl,rfl,rfl,rfl,rfl,rfl,rfl,trivial⟩,E,E9,hP,hV,hB,hC,Mm,Bq,.inr ⟨aj,rfl,rfl⟩,qP⟩
     ·have ag:=aa;replace aa:=by simpa using aa
      have av:(A_ (DH ks 0) (DG (keyf s))).isSome=true:=by simpa using aa
      obtain ⟨v9,au⟩:=Option.isSome_iff_exists.1 av;obtain ⟨j9,rfl,a1⟩:=Lz am af au;refine AK (AB ?_);exact ⟨ks,j9,Af.out ⟨rfl,rfl,rfl,rfl,rfl,rfl,rfl,rfl,rfl,rfl,trivial⟩,E,E9,hP,hV,hB,hC,Mm,Bq,.inl rfl,a1⟩
    ·clear E E9 hP hV hB hC Mm Bq;rintro _ W5 ⟨ac,j,⟨j5,rfl⟩,E,E9,hP,hV,hB,hC,Mm,Bq,ap,aq⟩;have ar:=SX hN al ap aq;have ae:=SU am af ap;have az:=Sj ae ar.nd aq;have ak:=CX (L:=L.set s (-1)) (s:=s) (x:=((j:Nat):Int)) (by simp;omega);refine AG (qM _ rfl (qM _ rfl (qM _ rfl (qM _ rfl (B_ (v:=(I6 ((A_ (DH ac 0) (DG (keyf s))).getD 0))) rfl rfl qD (SD (k:=(DG (keyf s))) (z:=0) underlying161 (HE underlying9) CW Mm rfl rfl) (qV (AC (b:=bq) (o:=0) (len:=n) (cap:=n) (i:=s) (o':=0+s) rfl rfl rfl underlying22 Ab qO qO) (BB (b:=bq) (o:=0+s) (c':=(((L.set s (-1)).set s (j:Int)).map (Value.int .i64)).toArray) (v:=(I6 ((A_ (DH ac 0) (DG (keyf s))).getD 0))) rfl rfl rfl Ab Bq (by simp;omega) (by rw[az];exact C7 _) ?_)))))));intro w8 S8;replace hP:=S8.keep qO hP;replace hV:=S8.keep qO hV;replace hB:=S8.keep qO hB;replace hC:=S8.keep qO hC;replace Mm:=S8.keepM qO Mm;replace E:=S8.step E qQ;replace E9:=S8.step E9 (Or.inl qO);replace Bq:=S8.blk;refine AA (AP (AB (AG (qV (Aq rfl rfl (A2 qO)) (qM _ rfl (AA (AB ?_)))))));exact ⟨n - (s+1),qO,s+1,ac,(L.set s (-1)).set s ((j:Nat):Int),Af.out ⟨rfl,rfl,rfl,rfl,rfl,rfl,rfl,rfl,trivial⟩,E,E9,hP,hV,hB,hC,Mm,Bq,qO,(by simp[ah]),(by rw[ak,List.take_set_of_le (Nat.le_refl s)];exact ar),ae,rfl⟩
  ·have ay:s=n:=qO
   have a2:Num (EE M keyf n) ks L:=by rw[ay,←ah,List.take_length] at hN;rw[←ah];exact hN
   have ao:=JH ks 0;refine Ak (AR (AR (Ae (AB (AG (qM _ rfl (qM _ rfl (B_ (v:=(I6 (((DH ks 0).length:Nat):Int))) rfl rfl qD (NV underlying161 Mm rfl) (BB (b:=bp) (o:=0) (c':=#[(.slice (some ⟨bq,0,none⟩) n n)]) (v:=(.slice (some ⟨bq,0,none⟩) n n)) rfl rfl rfl BG hP qP rfl ?_)))))))));intro w9 S9;replace hV:=S9.keep qO hV;replace hB:=S9.keep qO hB;replace hC:=S9.keep qO hC;replace Mm:=S9.keepM qO Mm;replace Bq:=S9.keep qO Bq;replace E:=S9.step E qQ;replace hP:=S9.blk;refine BB (b:=bc) (o:=0) (c':=#[(I6 (((DH ks 0).length:Nat):Int))]) (v:=(I6 (((DH ks 0).length:Nat):Int))) rfl rfl rfl Ab hC qP rfl ?_;intro w10 ad;replace hP:=ad.keep qO hP;replace hV:=ad.keep qO hV;replace hB:=ad.keep qO hB;replace Mm:=ad.keepM qO Mm;replace Bq:=ad.keep qO Bq;replace E:=ad.step E qQ;replace hC:=ad.blk;refine AA (Fg results196 ?_);rw[ao] at hC;exact ⟨rfl,⟨L,ks,bq,a2,hP,Bq,qO,hC⟩,E⟩
end Go.Proofs
namespace Go.Proofs
open Go Go.Eng Go.Sort
set_option maxRecDepth 100000
theorem Gt {M:List Bool} {a:Nat->List Int} {n s:Nat} (hs:s<n):(EE M a n)[s]?=some (if M[s]?=some true then some (a s) else none):=by
 unfold EE;rw[List.getElem?_map,List.getElem?_range hs];rfl
theorem NT {n c:Nat} {d:Dfa} {M:List Bool} {a:Nat->List Int} {e:List (List Int)} {q:List Int} (b:LiveOf n c d M) (f:Num (EE M a n) e q)
 (g:∀s t:Nat,s<n->t<n->BI c d s->BI c d t->a s=a t->EX d s=EX d t) (j:∀s t:Nat,s<n->t<n->BI c d s->BI c d t->Hs c d s t->a s=a t):Refd n c d q e.length:=
 Refd.of_num f (by unfold EE;simp) (λs hs h=>by rw[Gt hs,if_neg λi=>h ((b.iff s hs).1 i)]) (λs hs h=>by rw[Gt hs,if_pos ((b.iff s hs).2 h)]) g j
theorem P7 {n c:Nat} {d:Dfa} {M:List Bool} {a:Nat->List Int} {g:List (List Int)} {q:List Int} (e:LiveOf n c d M) (f:Num (EE M a n) g q):∀s t:Nat,s<n->t<n->BI c d s->BI c d t->(q[s]?=q[t]?↔a s=a t):=λs t hs b h i=>
 f.eq_iff (by rw[Gt hs,if_pos ((e.iff s hs).2 h)]) (by rw[Gt b,if_pos ((e.iff t b).2 i)])
theorem Refd.rng {n c e:Nat} {d:Dfa} {p:List Int} (h:Refd n c d p e):∀x∈p,-1<=x∧x<(n:Int):=by
 intro x g;obtain ⟨s,hs⟩:=List.getElem?_of_mem g;have a:s<n:=by rw[<-h.len];exact AI hs
 have hc:=h.cnt_le;by_cases f:BI c d s
 .obtain ⟨j,b,h2⟩:=h.liv s a f;rw[hs] at b;have:=Option.some.inj b;omega
 .have b:=h.dead s a f;rw[hs] at b;have:=Option.some.inj b;omega
theorem Refd.next {n c i:Nat} {d:Dfa} {p q:List Int} {M:List Bool} {m:List (List Int)} (ok:OkD n c d) (v:LiveOf n c d M) (e:Refd n c d p i) (r:Num (EE M (Dw c d p) n) m q):Refd n c d q m.length:=by
 refine NT v r (λs t hs j g f h=>?_) λs t hs j g f h=>?_
 .have o:=(FV.1 h).1;obtain ⟨a,k,_⟩:=e.liv s hs g;obtain ⟨b,l,_⟩:=e.liv t j f;rw[Ct k,Ct l] at o;exact e.acc s t hs j g f (by rw[k,l,o])
 .refine FV.2 ⟨e.ptEqv qO qO h,λx u=>e.ptEqv ok.to ok.to (h.to u)⟩
theorem Refd.finer {n c e:Nat} {d:Dfa} {p q:List Int} {M:List Bool} {u:List (List Int)} (r:LiveOf n c d M) (j:Refd n c d p e) (o:Num (EE M (Dw c d p) n) u q):∀s t:Nat,s<n->t<n->BI c d s->BI c d t->q[s]?=q[t]?->p[s]?=p[t]?:=λs t hs m k g h=>by
 have l:=(FV.1 ((P7 r o s t hs m k g).1 h)).1;obtain ⟨a,f,_⟩:=j.liv s hs k;obtain ⟨b,i,_⟩:=j.liv t m g;rw[Ct f,Ct i] at l;rw[f,i,l]
theorem ST {n c b:Nat} {d:Dfa} {p:List Int} (h:Refd n c d p b) (e:n<=20000) (s:Nat):Qw (Dw c d p s):=by
 intro x f;unfold Dw at f;rcases List.mem_cons.1 f with a|a
 .rw[a];exact Ju h.rng e _
 .obtain ⟨y,_,g⟩:=List.mem_map.1 a;rw[<-g];exact Ju h.rng e _
def Qt (n0:Nat):El:=λv w=>∃b,v=.pointer (some ⟨b,0,none⟩)∧n0<=b∧Az w b #[.slice none 0 0] 22
theorem KO (a:Nat):∀v w w',Chg AZ w w'->Qt a v w->Qt a v w':=by
 rintro v w w' e ⟨b,f,d,c⟩;exact ⟨b,f,d,Ao.keep e c⟩
theorem RR {N a:Nat} {σ:CN} {w:World} {dst:Option Tmp} {ty:TypeId} {pos:String} {af:Array Edge} {g:Option (Nat×Bool)} (b:a<=w.heap.size):Cs AZ prog N ⟨dst,.alloc 22,ty,pos,af,g⟩ (Qt a) σ w:=by
 refine AY (v:=.pointer (some ⟨w.heap.size,0,none⟩)) (w':={w with heap:=w.heap.push (.cells #[.slice none 0 0] 22 (0,0))}) ?_ (New.mk' w _ _).ext ⟨_,O,b,(New.mk' w _ _).blk⟩;simp[execOp,Instr.alloc,(EG).run,newVar,newRow,Value.cells]
theorem EV {w:World} {b n:Nat} {p:List Int} {T:Nat} (h:Az w b (p.map (Value.int .i64)).toArray T) (hn:p.length=n) (hl:n≤9223372036854775807:=by omega):CF w (.slice (some ⟨b,0,none⟩) n n) p:=by
 subst hn;rw[←Kk] at h;exact HG p h hl (Nat.le_refl _)
theorem IK {n c:Nat} {d:Dfa} (ok:OkD n c d) {s:Nat} (hs:s<n):d.accept[s]?=some (EX d ((s:Nat):Int)):=by
 have a:d.accept[s]?=some (d.accept[s]'(by rw[ok.al];exact hs)):=List.getElem?_eq_getElem _;rw[a,EW a]
theorem UR (w0:World) (n c:Nat) (d:Dfa) (dv:List Value) (ok:OkD n c d) (h:B' w0 d dv) (hn:n≤20000∧c≤16) (hac:∀x∈d.accept,x<2147483648) :
  CJ prog 176 #[.agg dv.toArray] w0 fun r w=>(∃q b,PartsOf n c d q∧r=.slice (some ⟨b,0,none⟩) n n∧w0.heap.size≤b∧Az w b (q.map (Value.int .i64)).toArray 3)∧Ao w0 w:=by
 obtain ⟨dv0,ah⟩:∃x,x=dv:=⟨_,rfl⟩;have af:=h;rw[←ah] at af;obtain ⟨aa,ac,na,nc,rfl,bb,a5⟩:=h;have a6:=ok.nl;have ax:=ok.al;rw[ax,a6] at ah⊢;refine qR func176 rfl ntmps176 rfl (fun E=>(Y (BM (v:=(.agg #[(I6 d.start),(.slice aa n ac),(.slice na n nc)])) (c:=#[(I6 d.start),(.slice aa n ac),(.slice na n nc)]) qD rfl rfl ?_)));intro bd wd Nd;have Fd:=Nd.ge E;replace E:=E.ext Nd.ext;have Bd:=Nd.blk;refine qA _ rfl (AA (Y (qV (AU (vs:=[(I6 d.start),(.slice aa n ac),(.slice na n nc)]) rfl BC Ap rfl (Bd.cells rfl)) (qE rfl (AT func195 kQ kQ rfl) (V1 _ n c d _ ok (by rw[ah] at af;exact af.ext E) hn) ?_))));rintro _ w9 ⟨⟨M,lb,hM,rfl,hlb,ab⟩,X9⟩;replace Bd:=X9.keep Bd;replace E:=E.ext X9;have av:=ab.lt;have ay:∀w,Ao w0 w→B' w d [.int .i64 d.start,.slice aa n ac,.slice na n nc]:=fun w e=>by rw[ah] at af;exact af.ext e
 refine Au (v:=(.slice (some ⟨lb,0,none⟩) n n)) (c:=#[(.slice (some ⟨lb,0,none⟩) n n)]) (n:=1) qD Pr rfl Ld rfl rfl rfl qS ?_;intro bv wv Nv;have Fv:=Nv.ge E;have Ov_bd:=Nv.lt Bd;have Ov_lb:=Nv.lt ab;replace Bd:=Nv.keep Bd;replace ab:=Nv.keep ab;replace E:=E.ext Nv.ext;have Bv:=Nv.blk;refine AA (Y (qF bd 0 2 rfl underlying52 rfl CB rfl (qV (AD rfl B0 (Bd.cell rfl)) (qV (AH underlying50 rfl) (E8 (n:=n) (z:=(I6 0)) (bytes:=8) qD underlying22 Ab GO CW rfl rfl rfl qO qO ?_)))));intro bz wz Nz;have Fz:=Nz.ge E;have Oz_bd:=Nz.lt Bd;have Oz_lb:=Nz.lt ab;have Oz_bv:=Nz.lt Bv;replace Bd:=Nz.keep Bd;replace ab:=Nz.keep ab;replace Bv:=Nz.keep Bv;replace E:=E.ext Nz.ext;have Bz:=Nz.blk;refine Au (v:=(.slice (some ⟨bz,0,none⟩) n n)) (c:=#[(.slice (some ⟨bz,0,none⟩) n n)]) (n:=1) qD EG rfl BG rfl rfl rfl qS ?_;intro bp wp Np;have Fp:=Np.ge E;have Op_bd:=Np.lt Bd;have Op_lb:=Np.lt ab;have Op_bv:=Np.lt Bv;have Op_bz:=Np.lt Bz;replace Bd:=Np.keep Bd;replace ab:=Np.keep ab;replace Bv:=Np.keep Bv;replace Bz:=Np.keep Bz;replace E:=E.ext Np.ext;have Bp:=Np.blk;refine AA (Y (Au (v:=(I6 0)) (c:=#[(I6 0)]) (n:=1) qD CW rfl Ab rfl rfl rfl qS ?_));intro bc wc Nc;have Fc:=Nc.ge E;have Oc_bd:=Nc.lt Bd;have Oc_lb:=Nc.lt ab;have Oc_bv:=Nc.lt Bv;have Oc_bz:=Nc.lt Bz;have Oc_bp:=Nc.lt Bp;replace Bd:=Nc.keep Bd;replace ab:=Nc.keep ab;replace Bv:=Nc.keep Bv;replace Bz:=Nc.keep Bz;replace Bp:=Nc.keep Bp;replace E:=E.ext Nc.ext;have Bc:=Nc.blk;refine AA (Y (qV (CA rfl rfl) (qA _ rfl (AA (Y (Au (v:=(.func (.func 197) #[] #[])) (c:=#[(.func (.func 197) #[] #[])]) (n:=1) qD VZ rfl Vi rfl rfl rfl qS ?_))))));intro bw ww Nw;have Fw:=Nw.ge E;have Ow_bd:=Nw.lt Bd;have Ow_lb:=Nw.lt ab;have Ow_bv:=Nw.lt Bv;have Ow_bz:=Nw.lt Bz;have Ow_bp:=Nw.lt Bp;have Ow_bc:=Nw.lt Bc;replace Bd:=Nw.keep Bd;replace ab:=Nw.keep ab;replace Bv:=Nw.keep Bv;replace Bz:=Nw.keep Bz;replace Bp:=Nw.keep Bp;replace Bc:=Nw.keep Bc;replace E:=E.ext Nw.ext;have Bw:=Nw.blk;refine AA (Y (qM _ rfl (qV (CA rfl rfl) ?_)));have bi:=Bw.lt;refine qE rfl (D_ rfl func196 kQ kQ rfl rfl) (ZQ _ bp bv lb bc n n _ _ 0 M (fun s=>[EX d (s:Int)]) Bp Bv ab Bc qO hM.len hn.1 (fun w s hs hq hE=>CV.mk (first:=#[]) (cap:=#[.pointer (some ⟨bw,0,none⟩),.pointer (some ⟨bd,0,none⟩)]) func198 kQ kQ rfl (V4 w bw bd n d _ s _ (hE.keep Bw) (hE.keep Bd) (ay _ (Chg.ext E hE)) ax (IK ok hs) ⟨ok.at',hac _ (List.mem_of_getElem? (IK ok hs))⟩)) (fun s hs _ x hx=>by rw[List.mem_singleton] at hx;rw[hx];exact ⟨ok.at',hac _ (List.mem_of_getElem? (IK ok hs))⟩)) ?_;rintro _ w19 ⟨rfl,⟨q0,au,b1,be,ai,a7,hb0,ag⟩,am⟩;replace Bd:=am.keep qO Bd;replace ab:=am.keep qO ab;replace Bv:=am.keep qO Bv;replace Bz:=am.keep qO Bz;replace Bw:=am.keep qO Bw;replace E:=E.step am (by intro x hx hm;omega);have bf:Refd n c d q0 au.length:=NT hM be (fun s t _ _ _ _ h=>by simpa using h) (fun s t _ _ _ _ h=>by have:=h [] (E3.nil c);simpa[beh] using this);have ap:bw<b1:=qO
 refine AA (AM (Am (fun nn_ σ W1=>∃(p:List Int) (ad pb:Nat),(∃jj_,σ=BQ jj_ [(1,(P6 bd 0)),(4,(P6 bp 0)),(5,(P6 bc 0)),(6,(.func (.func 196) #[] #[(P6 bp 0),(P6 bv 0),(P6 bc 0)])),(7,(P6 bw 0))])∧Chg AZ w0 W1∧Az W1 bd #[(I6 d.start),(.slice aa n ac),(.slice na n nc)] 52∧Az W1 lb ((M.map Value.bool).toArray) 4∧Az W1 bv #[(.slice (some ⟨lb,0,none⟩) n n)] 66∧Az W1 bz ((List.replicate n (I6 0)).toArray) 3∧Az W1 bw #[(.func (.func 197) #[] #[])] 226∧Az W1 bp (#[Value.slice (some ⟨pb,0,none⟩) n n]) 22∧Az W1 bc (#[Value.int .i64 (ad:Int)]) 3∧(Refd n c d p ad)∧(Az W1 pb (p.map (Value.int .i64)).toArray 3)∧(bw<pb)∧nn_=n - ad) (n:=n - au.length) ?_ ?_))
 ·exact ⟨q0,au.length,b1,Af.out ⟨rfl,rfl,rfl,rfl,rfl,trivial⟩,E,Bd,ab,Bv,Bz,Bw,ai,ag,bf,a7,ap,rfl⟩
 ·clear E Bd ab Bv Bz Bw ai ag;rintro _ _ W1 ⟨p,ad,pb,⟨j1,rfl⟩,E,Bd,ab,Bv,Bz,Bw,ai,ag,hR,ak,hpb,rfl⟩;have a8:=ak.lt;obtain ⟨n9,hn9⟩:∃n9,n9=(W1).heap.size:=⟨_,rfl⟩;refine AM (AE ?_);obtain ⟨bh,ae⟩:∃Fs:List (FactT (AZ)),Fs=[.eq (I6 (ad:Int)),.eq (.slice (some ⟨pb,0,none⟩) n n),.gen (Qt n9) (KO _),.eq (I6 (ad:Int))]:=⟨_,rfl⟩;refine Iz (AZ) 4 2 [20,21,9,8] [[],[],[],[0,2]] bh ae rfl mixed qK qK qK ?_ ?_
  ·intro wd X0;refine DagStepsT.cons (fun s' w' X U H=>?_) ?_
   ·exact AY (AD (U 5 rfl) Aa ((Chg.keep X (fun f=>f) (X0.keep ag)).cell rfl)) (Chg.refl _ _) rfl
   refine DagStepsT.cons (fun s' w' X U H=>?_) ?_
   ·exact AY (AD (U 4 rfl) BX ((Chg.keep X (fun f=>f) (X0.keep ai)).cell rfl)) (Chg.refl _ _) rfl
   refine DagStepsT.cons (fun s' w' X U H=>?_) ?_
   ·exact RR (by have:=X0.size;have:=X.size;omega)
   refine DagStepsT.cons (fun s' w' X U H=>?_) ?_
   ·have ba:s' 20=(.int .i64 ((ad:Nat):Int)):=H 0 rfl 20 (.eq (.int .i64 ((ad:Nat):Int))) rfl (by rw[ae];rfl);exact AY (FS ba) (Chg.refl _ _) rfl
   exact DagStepsT.nil
  ·intro s' wd2 w2 X0 X2 U H;have bg:s' 21=(.slice (some ⟨pb,0,none⟩) n n):=H 1 21 (.eq (.slice (some ⟨pb,0,none⟩) n n)) rfl (by rw[ae];rfl);obtain ⟨b9,e9,g9,B9⟩:=(show (.gen (Qt n9) (KO _):FactT (AZ)).In (s' 9) w2 from H 2 9 (.gen (Qt n9) (KO _)) rfl (by rw[ae];rfl));have e8:s' 8=(.int .i64 ((ad:Nat):Int)):=H 3 8 (.eq (.int .i64 ((ad:Nat):Int))) rfl (by rw[ae];rfl);obtain ⟨j2,rfl⟩:=Af.out (σ:=s') (l:=[(1,(.pointer (some ⟨bd,0,none⟩))),(4,(.pointer (some ⟨bp,0,none⟩))),(5,(.pointer (some ⟨bc,0,none⟩))),(6,(.func (.func 196) #[] #[(.pointer (some ⟨bp,0,none⟩)),(.pointer (some ⟨bv,0,none⟩)),(.pointer (some ⟨bc,0,none⟩))])),(7,(.pointer (some ⟨bw,0,none⟩))),(21,(.slice (some ⟨pb,0,none⟩) n n)),(9,(.pointer (some ⟨b9,0,none⟩))),(8,(.int .i64 ((ad:Nat):Int)))]) ⟨U 1 rfl,U 4 rfl,U 5 rfl,U 6 rfl,U 7 rfl,bg,e9,e8,trivial⟩;clear U H;replace Bd:=Chg.keep X2 (fun f=>f) (X0.keep Bd);replace ab:=Chg.keep X2 (fun f=>f) (X0.keep ab);replace Bv:=Chg.keep X2 (fun f=>f) (X0.keep Bv);replace Bz:=Chg.keep X2 (fun f=>f) (X0.keep Bz);replace Bw:=Chg.keep X2 (fun f=>f) (X0.keep Bw);replace ai:=Chg.keep X2 (fun f=>f) (X0.keep ai);replace ag:=Chg.keep X2 (fun f=>f) (X0.keep ag);replace ak:=Chg.keep X2 (fun f=>f) (X0.keep ak);replace E:=(E.ext X0).step X2 (fun _ _ f=>f.elim);refine BB (b:=b9) (o:=0) (c':=#[(.slice (some ⟨pb,0,none⟩) n n)]) (v:=(.slice (some ⟨pb,0,none⟩) n n)) rfl rfl rfl BG B9 qP rfl ?_;intro w3 S3;replace Bd:=S3.keep qO Bd;replace ab:=S3.keep qO ab;replace Bv:=S3.keep qO Bv;replace Bz:=S3.keep qO Bz;replace Bw:=S3.keep qO Bw;replace ai:=S3.keep qO ai;replace ag:=S3.keep qO ag;replace ak:=S3.keep qO ak;replace E:=S3.step E qQ;replace B9:=S3.blk;refine AA (AB (Y (qM _ rfl (qV (CA rfl rfl) ?_))));have aw:=Bw.lt;refine qE rfl (D_ rfl func196 kQ kQ rfl rfl) (ZQ _ bp bv lb bc n n _ _ (ad:Int) M (Dw c d p) ai Bv ab ag qO hM.len hn.1 (fun w s hs hq hE=>CV.mk (first:=#[]) (cap:=#[.pointer (some ⟨bw,0,none⟩),.pointer (some ⟨b9,0,none⟩),.pointer (some ⟨bd,0,none⟩)]) func199 kQ kQ rfl (V3 w bw b9 bd n c pb n d _ p s ok (hE.keep Bw) (hE.keep B9) (hE.keep Bd) (ay _ (Chg.ext E hE)) (by have:=EV (hE.keep ak) hR.len;exact this) hR.len hR.rng hs hn)) (fun s hs _=>ST hR hn.1 s)) ?_;rintro _ w29 ⟨rfl,⟨q1,ar,b2,aq,az,a1,hb1,a2⟩,aj⟩;replace Bd:=aj.keep qO Bd;replace ab:=aj.keep qO ab;replace Bv:=aj.keep qO Bv;replace Bz:=aj.keep qO Bz;replace Bw:=aj.keep qO Bw;replace ak:=aj.keep qO ak;replace B9:=aj.keep qO B9;replace E:=E.step aj (by intro x hx hm;omega);have ao:=hR.next ok hM aq;have a4:=hR.finer hM aq;have a0:=Refd.cnt_mono hR ao a4;have a9:=ao.cnt_le;refine AA (Y (qV (AD rfl Aa (a2.cell rfl)) (qM _ rfl (qV (As rfl rfl) (AA (qC rfl (fun an=>?_) (fun an=>?_)))))))
   ·have a3:ar.length=ad:=qO
    refine Y (qV (AD rfl BX (az.cell rfl)) (qA _ rfl (AA (AS (Ag (AO (Ag (AV results176 (v:=(.slice (some ⟨b2,0,none⟩) n n)) rfl ?_))))))));rw[a3] at ao;exact ⟨⟨q1,b2,Refd.final ok hR ao (P7 hM aq),rfl,qO,a1⟩,E⟩
   ·refine AK (AP (AB ?_));exact ⟨n - ar.length,qO,q1,ar.length,b2,Af.out ⟨rfl,rfl,rfl,rfl,rfl,trivial⟩,E,Bd,ab,Bv,Bz,Bw,az,a2,ao,a1,qO,rfl⟩
end Go.Proofs
namespace Go.Proofs
open Go Go.Eng Go.Sort
def NC (d:Dfa) (p:List Int) (st:List Int) (s:Int) (x:Nat) (y:Int):Prop:=(y = -1∧Ck p (BN d s x)<0)∨∃(j:Nat) (t:Int),y=((j:Nat):Int)∧st[j]?=some t∧Ck p t=Ck p (BN d s x)∧0<=Ck p t
theorem NC.mono {d:Dfa} {p a:List Int} {s y:Int} {x:Nat} (h:NC d p a s x y) (u:List Int):NC d p (a++u) s x y:=by
 rcases h with h|⟨j,t,e,b,c⟩
 .exact .inl h
 .exact .inr ⟨j,t,e,by rw[List.getElem?_append_left (AI b)];exact b,c⟩
structure CanP (n c:Nat) (d:Dfa) (p:List Int) (rows:List (List Int)) (row st:List Int):Prop where
 s0:st[0]?=some d.start
 sl:∀s∈st,0<=s∧s<n∧0<=Ck p s
 inj:∀(i j:Nat) s t,st[i]?=some s->st[j]?=some t->Ck p s=Ck p t->i=j
 len:∀r∈rows,r.length=c
 ent:∀(i x:Nat) r y s,rows[i]?=some r->r[x]?=some y->st[i]?=some s->NC d p st s x y
 cur:∀(x:Nat) y s,row[x]?=some y->st[rows.length]?=some s->NC d p st s x y
 ord:∀(k:Nat) y,(rows.flatten++row)[k]?=some y->y<=G8 ((rows.flatten++row).take k)+1
 mx:G8 (rows.flatten++row)+1=st.length
 rch:∀i:Nat,i<rows.length->((i:Nat):Int)<=G8 (rows.take i).flatten
theorem CanP.start {n c:Nat} {d:Dfa} {p:List Int} (hs:0<=d.start∧d.start<n) (f:0<=Ck p d.start):CanP n c d p [] [] [d.start]:=by
 refine ⟨O,λs h=>by rw[List.mem_singleton] at h;subst h;exact ⟨hs.1,hs.2,f⟩,λi j s t g e _=>?_,λr h=>absurd h List.not_mem_nil,λi x r y s h=>by simp at h,λx y s h=>by simp at h,λk y h=>by simp at h,by simp[G8],λi h=>by simp at h⟩;have a:=AI g;have b:=AI e;simp at a b;omega
theorem OE {F:List Int} {y:Int} (h:∀(k:Nat) z,F[k]?=some z->z<=G8 (F.take k)+1) (d:y<=G8 F+1):∀(k:Nat) z,(F++[y])[k]?=some z->z<=G8 ((F++[y]).take k)+1:=by
 intro k z c;rcases Ce c with a|⟨a,b⟩
 .rw[List.take_append_of_le_length (by have:=AI a;omega)];exact h k z a
 .rw[a,b,List.take_append_of_le_length (Nat.le_refl _),List.take_length];exact d
theorem CanP.add {n c:Nat} {d:Dfa} {p:List Int} {rows:List (List Int)} {row b:List Int} {s y:Int} (h:CanP n c d p rows row b) (hs:b[rows.length]?=some s) (g:NC d p b s row.length y):CanP n c d p rows (row++[y]) b:=by
 have hy:y<=G8 (rows.flatten++row):=by
  have hm:=h.mx;have hl:=List.length_pos_of_mem (List.mem_of_getElem? h.s0);rcases g with ⟨a,_⟩|⟨j,t,a,e,_⟩
  .omega
  .have:=AI e;omega
 refine ⟨h.s0,h.sl,h.inj,h.len,h.ent,λx z q i f=>?_,?_,?_,h.rch⟩
 .rcases Ce i with a|⟨a,e⟩
  .exact h.cur x z q a f
  .rw[hs] at f;cases f;rw[a,e];exact g
 .rw[<-List.append_assoc];exact OE h.ord qO
 .rw[<-List.append_assoc,Id];have:=h.mx;omega
theorem CanP.new {n c:Nat} {d:Dfa} {p:List Int} {rows:List (List Int)} {row b:List Int} {s:Int} (h:CanP n c d p rows row b) (hs:b[rows.length]?=some s) (w:0<=BN d s row.length∧BN d s row.length<n) (v:0<=Ck p (BN d s row.length)) (e:∀t∈b,Ck p t≠Ck p (BN d s row.length)) :
 CanP n c d p rows (row++[((b.length:Nat):Int)]) (b++[BN d s row.length]):=by
 have k:=AI hs;have A:NC d p (b++[BN d s row.length]) s row.length ((b.length:Nat):Int):=.inr ⟨b.length,_,O,by rw[List.getElem?_append_right (Nat.le_refl _),Nat.sub_self];rfl,O,v⟩;refine ⟨by rw[List.getElem?_append_left (AI h.s0)];exact h.s0,λq f=>?_,λi j q r hi D o=>?_,h.len,λi x r y q u E f=>?_,λx z q B f=>?_,?_,?_,h.rch⟩
 .rcases List.mem_append.1 f with a|a
  .exact h.sl q a
  .rw[List.mem_singleton] at a;subst a;exact ⟨w.1,w.2,v⟩
 .rcases Ce hi with a|⟨a,g⟩<;>rcases Ce D with m|⟨m,C⟩
  .exact h.inj i j q r a m o
  .exact absurd (by rw[o,C]) (e q (List.mem_of_getElem? a))
  .exact absurd (by rw[<-o,g]) (e r (List.mem_of_getElem? m))
  .omega
 .rcases Ce f with a|⟨a,_⟩
  .exact (h.ent i x r y q u E a).mono _
  .have:=AI u;omega
 .have l:q=s:=by
   rw[List.getElem?_append_left k,hs] at f;exact (Option.some.inj f).symm
  subst l;rcases Ce B with a|⟨a,g⟩
  .exact (h.cur x z q a hs).mono _
  .rw[a,g];exact A
 .rw[<-List.append_assoc];exact OE h.ord (by have:=h.mx;omega)
 .rw[<-List.append_assoc,Id];have:=h.mx;simp;omega
theorem CanP.row {n c:Nat} {d:Dfa} {p:List Int} {rows:List (List Int)} {row g:List Int} (h:CanP n c d p rows row g) (o:row.length=c) (k:((rows.length:Nat):Int)<=G8 rows.flatten):CanP n c d p (rows++[row]) [] g:=by
 have j:(rows++[row]).flatten++[]=rows.flatten++row:=qP
 refine ⟨h.s0,h.sl,h.inj,λr m=>?_,λi x r y s a f e=>?_,λx y s a=>by simp at a,by rw[j];exact h.ord,by rw[j];exact h.mx,λi hi=>?_⟩
 .rcases List.mem_append.1 m with a|a
  .exact h.len r a
  .rw[List.mem_singleton] at a;rw[a];exact o
 .rcases Ce a with b|⟨b,l⟩
  .exact h.ent i x r y s b f e
  .subst l;rw[b] at e;exact h.cur x y s f e
 .simp at hi;rcases Nat.lt_or_ge i rows.length with a|a
  .rw[List.take_append_of_le_length qO];exact h.rch i a
  .have:i=rows.length:=qO
   rw[this,List.take_append_of_le_length (Nat.le_refl _),List.take_length];exact k
theorem Ks {c:Nat}:∀{L:List (List Int)} {i:Nat},(∀r∈L,r.length=c)->i<=L.length->L.flatten.take (i*c)=(L.take i).flatten
 | [],i,_,_=>qP
 | q::L,0,_,_=>qP
 | q::L,i+1,h,hi=>by
  have a:=h q List.mem_cons_self;rw[List.flatten_cons,List.take_succ_cons,List.flatten_cons,show (i+1)*c=q.length+i*c by rw[a,Nat.add_mul];omega,List.take_append,Nat.add_sub_cancel_left,Ks (λr b=>h r (List.mem_cons_of_mem _ b)) (by simpa using hi),List.take_of_length_le qO]
theorem CanP.done {n c:Nat} {d:Dfa} {p:List Int} {rows:List (List Int)} {e:List Int} (h:CanP n c d p rows [] e) (ok:OkD n c d) (w:PartsOf n c d p) (C:rows.length=e.length):Db c (beh d d.start) ⟨0,e.map (EX d),rows⟩:=by
 have D:=h.mx;rw[List.append_nil] at D;have hm0:=List.length_pos_of_mem (List.mem_of_getElem? h.s0);have A:∀i:Nat,i<rows.length->∃s,e[i]?=some s:=λi hi=>AL qO;have m:∀r∈rows,r.length=c∧∀y∈r,-1<=y∧y<e.length:=λr g=>by
  refine ⟨h.len r g,λy z=>?_⟩;obtain ⟨i,hi⟩:=List.getElem?_of_mem g;obtain ⟨x,v⟩:=List.getElem?_of_mem z;obtain ⟨s,hs⟩:=A i (AI hi);rcases h.ent i x r y s hi v hs with ⟨f,_⟩|⟨j,t,f,u,_⟩
  .omega
  .have:=AI u;omega
 have B:OkD e.length c ⟨0,e.map (EX d),rows⟩:=⟨C,qP,⟨Int.le_refl _,by show (0:Int)<_;omega⟩,λx v=>by
  obtain ⟨s,_,f⟩:=List.mem_map.1 v;rw[<-f];exact ok.at',m⟩
 have hb:Bfs e.length c ⟨0,e.map (EX d),rows⟩:=by
  refine ⟨B,O,λk y H=>?_,λi hi=>?_,?_⟩
  .have:=h.ord k y (by rw[List.append_nil];exact H)
   rwa [List.append_nil] at this
  .show _<=G8 (rows.flatten.take (i*c));rw[Ks h.len qO];exact h.rch i qO
  .show G8 rows.flatten=_;omega
 refine M4 ok hb O h.s0 (λi j s t hi E I=>?_) (λi s hs=>?_) λi x s hs v=>?_
 .have a:=h.sl s (List.mem_of_getElem? hi);have b:=h.sl t (List.mem_of_getElem? E);exact h.inj i j s t hi E ((w.iff s t ⟨qO,a.2.1⟩ ⟨qO,b.2.1⟩).2 I)
 .exact EW (by rw[List.getElem?_map,hs];rfl)
 .obtain ⟨r,g⟩:=AL (l:=rows) (i:=i) (by have:=AI hs;omega);have hrl:=h.len r (List.mem_of_getElem? g);obtain ⟨y,z⟩:=AL (l:=r) (i:=x) qO;have o:BN ⟨0,e.map (EX d),rows⟩ ((i:Nat):Int) x=y:=FG g z;have q:=ok.to (s:=s) (x:=x);rcases h.ent i x r y s g z hs with ⟨f,u⟩|⟨j,t,f,u,F,G⟩
  .left;refine ⟨by rw[o];exact f,λC=>?_⟩;have:=(w.live _ q).1.2 C;omega
  .right;have b:=h.sl t (List.mem_of_getElem? u);exact ⟨j,t,by rw[o];exact f,u,(w.iff t _ ⟨qO,b.2.1⟩ q).1 F,(w.live t ⟨qO,b.2.1⟩).1.1 G⟩
theorem Pb {n c:Nat} {d:Dfa} (ok:OkD n c d) (hd:¬BI c d d.start):Db c (beh d d.start) ⟨0,[-1],[List.replicate c (-1)]⟩:=by
 have a:∀(s:Int) (x:Nat),BN ⟨0,[-1],[List.replicate c (-1)]⟩ s x = -1:=λs x=>by
  unfold BN;split
  .rfl
  .rw[List.getD_eq_getElem?_getD,List.getD_eq_getElem?_getD];cases h:([List.replicate c (-1:Int)])[s.toNat]? with
   | none=>simp
   | some r=>
    have:=List.mem_of_getElem? h;rw[List.mem_singleton] at this;subst this;simp only[Option.getD_some,List.getElem?_replicate];split<;>rfl
 have g:G8 ([List.replicate c (-1:Int)]).flatten=0:=by
  simp only[List.flatten_cons,List.flatten_nil,List.append_nil]
  induction c with
  | zero=>rfl
  | succ c ih=>
   have e:∀k,G8 (List.replicate k (-1:Int))=0:=λk=>by
    induction k with
    | zero=>rfl
    | succ k l=>rw[List.replicate_succ',Id,l];decide
   exact e _
 have j:OkD 1 c ⟨0,[-1],[List.replicate c (-1)]⟩:=⟨O,O,⟨Int.le_refl _,by show (0:Int)<1;decide⟩,λx f=>by rw[List.mem_singleton] at f;rw[f];exact Int.le_refl _,λr o=>by
  rw[List.mem_singleton] at o;subst o;exact ⟨qP,λx f=>by rw[(List.mem_replicate.1 f).2];decide⟩⟩
 have b:∀(w:List Nat),beh ⟨0,[-1],[List.replicate c (-1)]⟩ 0 w = -1:=λw=>by
  cases w with
  | nil=>rfl
  | cons x w=>simp only[beh];rw[a];exact Dy qD
 refine ⟨1,⟨j,O,λk x q=>?_,λi hi=>?_,by rw[g];rfl⟩,λw u=>by rw[b,ok.dead hd u],λs t m p h3 h4 _=>qO,λs x _ h=>by rw[a] at h;exact absurd h qD⟩
 .have m:=List.mem_of_getElem? q;simp at m;have:=Sd ((([List.replicate c (-1:Int)]).flatten).take k);have p:x = -1:=m.2;show x<=G8 ((([List.replicate c (-1:Int)]).flatten).take k)+1;omega
 .have:i=0:=qO
  rw[this];exact Sd _
def Cv:List Int->Nat->List (Int×Int)
  | [],_=>[]
  | m::ks,n=>(m,((n:Nat):Int))::Cv ks (n+1)
theorem Ke:∀(a:List Int) (m:Int) (n:Nat),Cv (a++[m]) n=Cv a n++[(m,(((n+a.length:Nat):Nat):Int))]
 | [],m,n=>rfl
 | x::a,m,n=>by
  show (x,_)::Cv (a++[m]) (n+1)=(x,_)::(Cv a (n+1)++_);rw[Ke a m (n+1),List.length_cons,show n+1+a.length=n+(a.length+1) by omega]
theorem L2:∀{a:List Int} {n:Nat} {q:Int×Int},q∈Cv a n->∃(j:Nat) (m:Int),a[j]?=some m∧q=(m,(((n+j:Nat):Nat):Int))
 | [],_,_,h=>by cases h
 | x::a,n,q,h=>by
  rcases List.mem_cons.1 h with h|h
  .exact ⟨0,x,O,h⟩
  .obtain ⟨j,m,c,b⟩:=L2 h;exact ⟨j+1,m,c,by rw[b];congr 2;omega⟩
theorem L3:∀{a:List Int} {n:Nat} {m:Int},m∈a->m∈(Cv a n).map (·.1)
 | x::a,n,m,h=>by
  rcases List.mem_cons.1 h with rfl|h
  .exact List.mem_cons_self
  .exact List.mem_cons_of_mem _ (L3 (n:=n+1) h)
theorem Q2 {b:List Int} {m v:Int} (h:A_ (Cv b 0) m=some v):∃j:Nat,v=((j:Nat):Int)∧b[j]?=some m:=by
 obtain ⟨j,m',c,a⟩:=L2 (Ep h);simp only[Prod.mk.injEq,Nat.zero_add] at a;exact ⟨j,a.2,by rw[c,a.1]⟩
theorem PN {a:List Int} {m:Int} (h:A_ (Cv a 0) m=none):m∉a∧DA (Cv a 0) m ((a.length:Nat):Int)=Cv (a++[m]) 0:=by
 refine ⟨λb=>?_,?_⟩
 .have:=DN.2 (L3 (n:=0) b);rw[h] at this;cases this
 .rw[EJ _ h,Ke,Nat.zero_add]
end Go.Proofs
namespace Go.Proofs
open Go Go.Eng Go.Sort
set_option maxRecDepth 100000
theorem KB {P:Program} {σ:CN} {w:World} {dst:Option Tmp} {ty:TypeId} {pos:String} {af:Array Edge} {u:Option (Nat×Bool)} {t e:TypeId} {x y:Operand} {g o i k f c h l:Nat} {a c':Array Value} {T:TypeId} {cs:List Value} (n:P.underlying t=some (.slice e)) (hs:DK P e 1) (r:ev σ x=.slice (some ⟨g,o,none⟩) i k) (z:ev σ y=.slice (some ⟨f,c,none⟩) h l)
 (s:Az w g a T) (d:A' w f c cs) (q:cs.length=Nat.min h i) (b:o+cs.length<=a.size) (A:∀v∈cs,v.oneCell'=true) (B:(a.toList.take o++cs++a.toList.drop (o+cs.length)).toArray=c') :
 (execOp (ev σ) ⟨dst,.call ⟨.builtin .copy,#[x,y],#[t,t]⟩,ty,pos,af,u⟩).run P w=.ok (.value (.int .i64 ((cs.length:Nat):Int))) (w.setRow g c'):=by
 subst B;have m:=run_copy_row (P:=P) w t t ty e g o i k ⟨f,c,none⟩ h l a T cs n hs s q (λj v p=>by rw[Addr.add_lit];exact d j v p) b A;simp[execOp,resolve,invoke,builtin,r,z,m,goInt]
theorem Vn {P:Program} {N:Nat} {Q:Dj} {σ:CN} {w:World} {K:CN->World->Prop} {ops:Array Oper} {rest:List Oper} {d:Nat} {ty:TypeId} {pos:String} {af:Array Edge} {t e:TypeId} {x y:Operand} {g o l s h f i A:Nat} {a c':Array Value} {T:TypeId} {cs:List Value} (m:d<N) (p:P.underlying t=some (.slice e)) (hs:DK P e 1) (r:ev σ x=.slice (some ⟨g,o,none⟩) l s) (u:ev σ y=.slice (some ⟨h,f,none⟩) i A)
 (j:Az w g a T) (c:A' w h f cs) (q:cs.length=Nat.min i l) (b:o+cs.length<=a.size) (z:∀v∈cs,v.oneCell'=true) (n:(a.toList.take o++cs++a.toList.drop (o+cs.length)).toArray=c')
 (k:∀w',Put w w' g c' T->DW P N ops K Q rest (E4 σ d (.int .i64 ((cs.length:Nat):Int))) w'):DW P N ops K Q (⟨some d,.call ⟨.builtin .copy,#[x,y],#[t,t]⟩,ty,pos,af,none⟩::rest) σ w:=
 B_ O O m (KB p hs r u j c q b z n) (k _ (Put.of_setRow j _))
theorem Pq {P:Program} {N:Nat} {σ:CN} {w:World} {M:Nat->Prop} {R:El} {dst:Option Tmp} {ty:TypeId} {pos:String} {af:Array Edge} {u:Option (Nat×Bool)} {t e:TypeId} {x y:Operand} {g o l s f d i D:Nat} {a c':Array Value} {T:TypeId} {cs:List Value} (n:P.underlying t=some (.slice e)) (hs:DK P e 1) (r:ev σ x=.slice (some ⟨g,o,none⟩) l s) (A:ev σ y=.slice (some ⟨f,d,none⟩) i D)
 (j:Az w g a T) (c:A' w f d cs) (q:cs.length=Nat.min i l) (b:o+cs.length<=a.size) (B:∀v∈cs,v.oneCell'=true) (C:(a.toList.take o++cs++a.toList.drop (o+cs.length)).toArray=c') (m:M g)
 (p:∀w',Az w' g c' T->R (.int .i64 ((cs.length:Nat):Int)) w'):Cs M P N ⟨dst,.call ⟨.builtin .copy,#[x,y],#[t,t]⟩,ty,pos,af,u⟩ R σ w:=by
 have k:=Put.of_setRow j c';exact AY (KB n hs r A j c q b B C) (k.chg.mono λz _ h=>by subst h;exact m) (p _ k.blk)
theorem P5 (m:Nat) (h:m<18446744073709551616):(BitVec.ofInt 64 (m:Int)).toNat=m:=by
 rw[BitVec.toNat_ofInt];omega
theorem Tp {P:Program} {w:World} (m:Nat) (hm:m<4294967296):(Op.intBits .and .u64 (m:Int) 4294967295).run P w=.ok (.int .u64 (m:Int)) w:=by
 have a:m &&& 4294967295=m:=by
  have:=Nat.and_two_pow_sub_one_eq_mod m 32;rw[show (2:Nat) ^ 32 - 1=4294967295 by decide] at this;rw[this];omega
 show Result.ok (Value.int .u64 (IntKind.u64.wrap ((BitVec.ofInt 64 (m:Int) &&& BitVec.ofInt 64 (((4294967295:Nat):Nat):Int):BitVec 64).toNat:Int))) w=_;rw[BitVec.toNat_and,P5 m qO,P5 _ qD,a,Rf qO]
theorem NO {n:Int} (h:0<=n∧n<4294967296):n.fdiv (2 ^ min (Int.toNat 32) IntKind.u64.bits)=0:=by
 show n.fdiv 4294967296=0;rw[Int.fdiv_eq_ediv_of_nonneg n qD];omega
theorem Uc (a:World) (m n:Nat) (e:m<=60000) (d:n<=60000):CJ prog 201 #[.int .u64 (m:Int),.int .u64 (n:Int)] a λr w=>r=.tuple #[.int .u64 0,.int .u64 ((m*n:Nat):Int)]∧Ao a w:=by
 have hmn:m*n<=60000*60000:=Nat.mul_le_mul e d;have b:((m:Int)*(n:Int))=((m*n:Nat):Int):=qP
 refine qR func201 O ntmps201 O (λE=>(Y (qA _ O (qA _ O (AA (Y (qM _ O (qV (KJ (v:=.int .u64 (m:Int)) O O qP (Tp m qO)) (qA _ O (AA (Y (qM _ O (qV (IV (c:=0) O O qO (NO qO)) (qA _ O (AA (Y (qM _ O (qV (KJ (v:=.int .u64 (n:Int)) O O qP (Tp n qO)) ?_))))))))))))))))));refine qA _ O (AA (Y (qM _ O (qV (IV (c:=0) O O qO (NO qO)) (qA _ O (AA (Y (qM _ O (qM _ O (qV (NU (c:=((m*n:Nat):Int)) O O (by rw[b];exact Rf qO)) (qA _ O (AA (Y (qM _ O (qM _ O (qV (NU (c:=0) O O (by rw[Int.zero_mul];rfl)) (qM _ O ?_)))))))))))))))));refine qV (IV (c:=0) O O qO (NO qO)) (qV (Aq (c:=0) O O (by rfl)) (qA _ O (AA (Y (qM _ O (qV (KJ (v:=.int .u64 0) O O qP (Tp 0 qD)) (qA _ O (AA (Y (qM _ O (qV (IV (c:=0) O O qO (NO qO)) (qA _ O (AA (Y (qM _ O (qM _ O (qM _ O ?_)))))))))))))))));refine qV (NU (c:=0) O O (by rw[Int.mul_zero];rfl)) (qV (Aq (c:=0) O O (by rfl)) (qA _ O (AA (Y (qM _ O (qM _ O (qV (NU (c:=0) O O (by rfl)) (qM _ O (qV (Aq (c:=0) O O (by rfl)) (qM _ O (qV (IV (c:=0) O O qO (NO qO)) (qV (Aq (c:=0) O O (by rfl)) (qA _ O (AA (Y (qM _ O ?_))))))))))))))));refine qM _ O (qV (NU (c:=((m*n:Nat):Int)) O O (by rw[b];exact Rf qO)) (qA _ O (AA (AS (Cl results201 (v:=(.int .u64 0)) (v':=(.int .u64 ((m*n:Nat):Int))) O O ?_)))));exact ⟨O,E⟩
theorem W0 (a:World) (m n:Nat) (b:m<=60000) (d:n<=60000):CJ prog 177 #[.int .u64 (m:Int),.int .u64 (n:Int)] a λr w=>r=.tuple #[.int .u64 0,.int .u64 ((m*n:Nat):Int)]∧Ao a w:=by
 refine qR func177 O ntmps177 O (λE=>(Y (qA _ O (qA _ O (AA (AE (AW O (AK (AB (Y (qM _ O (qM _ O (qE O (AT func201 kQ kQ O) (Uc _ m n b d) ?_)))))))))))));rintro _ w9 ⟨rfl,c⟩;replace E:=E.ext c;refine qM _ O (qV (Ai O O) (qV (Ai O O) (qA _ O (qA _ O (AA (Y (qM _ O (qM _ O (qA _ O (qA _ O (AA (AS (Cl results177 (v:=(.int .u64 0)) (v':=(.int .u64 ((m*n:Nat):Int))) O O ?_)))))))))))));exact ⟨O,E⟩
def E_ (y:Int) (m n:Nat):List Value:=(List.replicate m y++List.replicate (n - m) 0).map (Value.int .i64)
theorem Lh (y:Int) {m n k:Nat} (h:k<=m):(E_ y m n).take k=List.replicate k (Value.int .i64 y):=by
 simp only[E_,List.map_append,List.map_replicate];rw[List.take_append_of_le_length (by simp;omega),List.take_replicate,Nat.min_eq_left h]
theorem Li (y:Int) {m n k:Nat} (h:m+k<=n):((E_ y m n).toArray.toList.take m++List.replicate k (Value.int .i64 y)++(E_ y m n).toArray.toList.drop (m+k)).toArray=(E_ y (m+k) n).toArray:=by
 have a:=Lh y (m:=m) (n:=n) (k:=m) (Nat.le_refl _);have b:(E_ y m n).drop (m+k)=List.replicate (n - (m+k)) (Value.int .i64 0):=by
  simp only[E_,List.map_append,List.map_replicate];rw[List.drop_append,List.drop_of_length_le qP,List.length_replicate,List.drop_replicate,List.nil_append];congr 1;omega
 show ((E_ y m n).take m++List.replicate k (Value.int .i64 y)++(E_ y m n).drop (m+k)).toArray=_;rw[a,b];simp only[E_,List.map_append,List.map_replicate,List.replicate_append_replicate]
theorem HC (w0:World) (b sc n:Nat) (y:Int) (T:TypeId) (hB:Az w0 b #[.int .i64 y] T) (h1:1≤n) (hn:n≤60000) :
  CJ prog 163 #[.slice (some ⟨b,0,none⟩) 1 sc,.int .i64 ((n:Nat):Int)] w0 fun r w=>(∃g,r=.slice (some ⟨g,0,none⟩) n n∧w0.heap.size≤g∧Az w g ((List.replicate n y).map (Value.int .i64)).toArray 3)∧Ao w0 w:=by
 have hbl:=hB.lt;refine qR func163 rfl ntmps163 rfl (fun E=>(Y (qA _ rfl (AA (AE (Y (qM _ rfl (qV (Av rfl rfl) (AA ?_)))))))));have aq:(decide ((((n:Nat):Int):Int)<0))=false:=decide_eq_false qO;refine AW (Aw aq) (AK (AB (Y (qM _ rfl (qV (AH underlying22 rfl) (qV (EI (c:=((1:Nat):Int)) ⟨_,underlying3⟩ underlying107 rfl (rfl)) (qM _ rfl (qV (EI (c:=(n:Int)) ⟨_,underlying3⟩ underlying107 rfl (Rf qO)) (qE rfl (AT func177 kQ kQ rfl) (W0 _ 1 n qD hn) ?_)))))))));rintro _ w9 ⟨rfl,X9⟩;replace hB:=X9.keep hB;replace E:=E.ext X9;refine qM _ rfl (qV (Ai rfl rfl) (qV (Ai rfl rfl) (qA _ rfl (qA _ rfl (AA (AE (Y (qM _ rfl (qV (CH rfl rfl) (qM _ rfl (AF rfl rfl qD rfl (qM _ rfl (AF rfl rfl qD rfl ?_)))))))))))));obtain ⟨e2,ac⟩:∃e,(decide ((9223372036854775807:Int)<((1*n:Nat):Int)))=e:=⟨_,rfl⟩;refine qV ((CH rfl rfl).trans (by rw[ac];try rfl)) (qV (Ac rfl rfl) (AA ?_));subst ac;have au:((decide ((9223372036854775807:Int)<((1*n:Nat):Int))))=false:=decide_eq_false qO;refine AW (Aw au) (AK (AB (Y (qM _ rfl (qV (EI (c:=(n:Int)) ⟨_,underlying107⟩ underlying3 rfl ((A2 qO).trans qO)) (E8 (n:=n) (z:=(I6 0)) (bytes:=8) qD underlying22 Ab GO CW rfl rfl rfl qO qO ?_))))));intro bz wz Nz;have Fz:=Nz.ge E;have Oz_b:=Nz.lt hB;replace hB:=Nz.keep hB;replace E:=E.ext Nz.ext;have Bz:=Nz.blk;refine qA _ rfl (AA (Y (qM _ rfl (qM _ rfl ?_))));rw[show List.replicate n (Value.int .i64 0)=E_ y 0 n by simp[E_]] at Bz;refine Vn (g:=bz) (o:=0) (cs:=[Value.int .i64 y]) (c':=(E_ y 1 n).toArray) qD underlying22 Ab rfl rfl Bz (hB.cells rfl) (by show 1=Nat.min 1 n;simp only[Nat.min_def];split<;>omega) (by simp[E_];omega) qS (Li y (m:=0) (k:=1) qO) ?_;intro w4 S4;replace hB:=S4.keep qO hB;replace E:=S4.step E qQ;replace Bz:=S4.blk;refine qA _ rfl (AA (AE (AM (Am (fun nn_ σ W5=>∃(m:Nat),(∃jj_,σ=BQ jj_ [(7,(.slice (some ⟨bz,0,none⟩) n n)),(8,(I6 (m:Int)))])∧Chg AZ w0 W5∧Az W5 b #[(I6 y)] T∧Az W5 bz ((E_ y m n).toArray) 3∧(1≤m∧m≤n)∧nn_=n - m) (n:=n - 1) ?_ ?_))))
 ·exact ⟨1,Af.out ⟨rfl,rfl,trivial⟩,E,hB,Bz,⟨Nat.le_refl _,h1⟩,rfl⟩
 ·clear E hB Bz;rintro _ _ W5 ⟨m,⟨j5,rfl⟩,E,hB,Bz,hm,rfl⟩;refine AE (Y (qM _ rfl (qM _ rfl (qV (AH underlying22 rfl) (qV (Av rfl rfl) (AA (qC rfl (fun ao=>?_) (fun ao=>?_))))))))
  ·obtain ⟨k,hk⟩:∃k,k=Nat.min m (n - m):=⟨_,rfl⟩;have ad:1≤k∧k≤m∧m+k≤n:=by rw[hk];simp only[Nat.min_def];split<;>omega
   refine AK (AB (AM ?_));obtain ⟨ai,aa⟩:∃Fs:List (FactT ((fun q=>q=bz))),Fs=[.eq (I6 (m:Int)),.eq (.slice (some ⟨bz,0,none⟩) n n),.eq (I6 (m:Int)),.eq (.slice (some ⟨bz,m,none⟩) (n - m) (n - m)),.eq (.slice (some ⟨bz,0,none⟩) n n),.eq (I6 (m:Int)),.eq (.slice (some ⟨bz,0,none⟩) m n),.own (fun v w=>v=.int .i64 (k:Int)∧Az w bz (E_ y (m+k) n).toArray 3) (fun _ _ _ e h=>⟨h.1,Ao.keep e h.2⟩),.eq (I6 ((m:Int)+(k:Int)))]:=⟨_,rfl⟩;refine Iz ((fun q=>q=bz)) 9 7 [38,39,40,41,42,43,44,45,46] [[],[],[],[1,2],[],[],[4,5],[3,6],[0,7]] ai aa rfl mixed qK qK qK ?_ ?_
   ·intro wd X0;refine DagStepsT.cons (fun s' w' X U H=>?_) ?_
    ·exact AY (Ah (U 8 rfl)) (Chg.refl _ _) rfl
    refine DagStepsT.cons (fun s' w' X U H=>?_) ?_
    ·exact AY (Ah (U 7 rfl)) (Chg.refl _ _) rfl
    refine DagStepsT.cons (fun s' w' X U H=>?_) ?_
    ·exact AY (Ah (U 8 rfl)) (Chg.refl _ _) rfl
    refine DagStepsT.cons (fun s' w' X U H=>?_) ?_
    ·have ap:s' 39=(.slice (some ⟨bz,0,none⟩) n n):=H 1 rfl 39 (.eq (.slice (some ⟨bz,0,none⟩) n n)) rfl (by rw[aa];rfl);have af:s' 40=(.int .i64 ((m:Nat):Int)):=H 2 rfl 40 (.eq (.int .i64 ((m:Nat):Int))) rfl (by rw[aa];rfl);exact AY (Lj (lo:=m) underlying22 Ab ap af rfl qO (by rw[if_neg qO];simp only[Option.map_some,Addr.add_lit,Nat.mul_one,Nat.zero_add]) rfl rfl) (Chg.refl _ _) rfl
    refine DagStepsT.cons (fun s' w' X U H=>?_) ?_
    ·exact AY (Ah (U 7 rfl)) (Chg.refl _ _) rfl
    refine DagStepsT.cons (fun s' w' X U H=>?_) ?_
    ·exact AY (Ah (U 8 rfl)) (Chg.refl _ _) rfl
    refine DagStepsT.cons (fun s' w' X U H=>?_) ?_
    ·have ag:s' 42=(.slice (some ⟨bz,0,none⟩) n n):=H 4 rfl 42 (.eq (.slice (some ⟨bz,0,none⟩) n n)) rfl (by rw[aa];rfl);have ah:s' 43=(.int .i64 ((m:Nat):Int)):=H 5 rfl 43 (.eq (.int .i64 ((m:Nat):Int))) rfl (by rw[aa];rfl);exact AY (GX (hi:=m) underlying22 Ab ag ah rfl qO (by rw[if_neg qO];simp only[Option.map_some,Addr.add_lit,Nat.zero_mul,Nat.add_zero])) (Chg.refl _ _) rfl
    refine DagStepsT.cons (fun s' w' X U H=>?_) ?_
    ·have am:s' 41=(.slice (some ⟨bz,m,none⟩) (n - m) (n - m)):=H 3 rfl 41 (.eq (.slice (some ⟨bz,m,none⟩) (n - m) (n - m))) rfl (by rw[aa];rfl);have al:s' 44=(.slice (some ⟨bz,0,none⟩) m n):=H 6 rfl 44 (.eq (.slice (some ⟨bz,0,none⟩) m n)) rfl (by rw[aa];rfl);exact Pq (cs:=List.replicate k (Value.int .i64 y)) (c':=(E_ y (m+k) n).toArray) underlying22 Ab am al (Ao.keep X (X0.keep Bz)) (Az.cells (Ao.keep X (X0.keep Bz)) (by show ((E_ y m n).drop 0).take _=_;rw[List.drop_zero,List.length_replicate,Lh y ad.2.1])) (by rw[List.length_replicate];exact hk) (by rw[List.length_replicate];simp[E_];omega) (by intro v hv;rw[(List.mem_replicate.1 hv).2];rfl) (by rw[List.length_replicate];exact Li y ad.2.2) rfl (fun w9 aj=>⟨by show Value.int .i64 (((List.replicate k (Value.int .i64 y)).length:Nat):Int)=_;rw[List.length_replicate],aj⟩)
    refine DagStepsT.cons (fun s' w' X U H=>?_) ?_
    ·have ak:s' 38=(.int .i64 ((m:Nat):Int)):=H 0 rfl 38 (.eq (.int .i64 ((m:Nat):Int))) rfl (by rw[aa];rfl);obtain ⟨ab,ae⟩:=(show (.own (fun v w=>v=.int .i64 ((k:Nat):Int)∧Az w bz (E_ y (m+k) n).toArray 3) (fun _ _ _ e h=>⟨h.1,Ao.keep e h.2⟩):FactT ((fun q=>q=bz))).In (s' 45) w' from H 7 rfl 45 (.own (fun v w=>v=.int .i64 ((k:Nat):Int)∧Az w bz (E_ y (m+k) n).toArray 3) (fun _ _ _ e h=>⟨h.1,Ao.keep e h.2⟩)) rfl (by rw[aa];rfl));exact AY (Aq ak ab (A2 qO)) (Chg.refl _ _) rfl
    exact DagStepsT.nil
   ·intro s' wd7 w7 X0 X7 U H;obtain ⟨ab,ae⟩:=(show (.own (fun v w=>v=.int .i64 ((k:Nat):Int)∧Az w bz (E_ y (m+k) n).toArray 3) (fun _ _ _ e h=>⟨h.1,Ao.keep e h.2⟩):FactT ((fun q=>q=bz))).In (s' 45) w7 from H 7 45 (.own (fun v w=>v=.int .i64 ((k:Nat):Int)∧Az w bz (E_ y (m+k) n).toArray 3) (fun _ _ _ e h=>⟨h.1,Ao.keep e h.2⟩)) rfl (by rw[aa];rfl));have ar:s' 46=(.int .i64 (((m:Nat):Int)+((k:Nat):Int))):=H 8 46 (.eq (.int .i64 (((m:Nat):Int)+((k:Nat):Int)))) rfl (by rw[aa];rfl);obtain ⟨j7,rfl⟩:=Af.out (σ:=s') (l:=[(7,(.slice (some ⟨bz,0,none⟩) n n)),(46,(.int .i64 (((m:Nat):Int)+((k:Nat):Int))))]) ⟨U 7 rfl,ar,trivial⟩;clear U H;replace hB:=Chg.keep X7 (fun h=>by have h':b=bz:=h;omega) (X0.keep hB);replace E:=(E.ext X0).step X7 (fun q hq h=>by have h':q=bz:=h;omega);refine qA _ rfl (AA (AP (AB ?_)));exact ⟨n - (m+k),qO,m+k,Af.out ⟨rfl,rfl,trivial⟩,E,hB,ae,qO,rfl⟩
  ·have an:m=n:=qO
   refine Ak (AR (AR (Ae (AB (Y (qM _ rfl (qA _ rfl (AA (AS (AV results163 (v:=(.slice (some ⟨bz,0,none⟩) n n)) rfl ?_))))))))));rw[an,show E_ y n n=(List.replicate n y).map (Value.int .i64) by simp[E_]] at Bz;exact ⟨⟨bz,rfl,qO,Bz⟩,E⟩
end Go.Proofs
namespace Go.Eng
open Go
def two (c1 c2:Nat) (M1 M2:Nat->Prop) (p:Nat):Nat->Prop:=bif Nat.beq p c1 then M1 else bif Nat.beq p c2 then M2 else AZ
def Mo (wss:List (List Nat)) (i j:Nat):Bool:=Nat.beq j i || (wss.getD j []).contains i
def C5 (wss:List (List Nat)) (Ms:Nat->Nat->Prop) (i:Nat):Nat->Prop:=λy=>∃j,Mo wss i j=false∧Ms j y
theorem E5 {c1 c2:Nat} {M1 M2:Nat->Prop} {p y:Nat} (h:two c1 c2 M1 M2 p y):(p=c1∧M1 y)∨(p=c2∧M2 y):=by
 unfold two at h;cases h1:Nat.beq p c1 with
 | true=>rw[h1] at h;exact .inl ⟨Nat.eq_of_beq_eq_true h1,h⟩
 | false=>
  rw[h1] at h;cases h2:Nat.beq p c2 with
  | true=>rw[h2] at h;exact .inr ⟨Nat.eq_of_beq_eq_true h2,h⟩
  | false=>rw[h2] at h;exact h.elim
section
variable {wss : List (List Nat)} {c1 c2 i y : Nat} {M1 M2 : Nat → Prop}
theorem C5.or (h:C5 wss (two c1 c2 M1 M2) i y):M1 y∨M2 y:=by
 obtain ⟨j,_,a⟩:=h;rcases E5 a with h|h
 .exact .inl h.2
 .exact .inr h.2
theorem C5.fst (c:Mo wss i c2=true) (h:C5 wss (two c1 c2 M1 M2) i y):M1 y:=by
 obtain ⟨j,a,b⟩:=h;rcases E5 b with h|h
 .exact h.2
 .rw[h.1,c] at a;cases a
theorem C5.none (d:Mo wss i c1=true) (b:Mo wss i c2=true) (h:C5 wss (two c1 c2 M1 M2) i y):False:=by
 obtain ⟨j,a,c⟩:=h;rcases E5 c with h|h
 .rw[h.1,d] at a;cases a
 .rw[h.1,b] at a;cases a
theorem Js {p:Nat} {w w':World} (h:Chg (two c1 c2 M1 M2 p) w w'):(p=c1∧Chg M1 w w')∨(p=c2∧Chg M2 w w')∨Ao w w':=by
 unfold two at h;cases h1:Nat.beq p c1 with
 | true=>rw[h1] at h;exact .inl ⟨Nat.eq_of_beq_eq_true h1,h⟩
 | false=>
  rw[h1] at h;cases h2:Nat.beq p c2 with
  | true=>rw[h2] at h;exact .inr (.inl ⟨Nat.eq_of_beq_eq_true h2,h⟩)
  | false=>rw[h2] at h;exact .inr (.inr h)
end
abbrev C1:=CN->El
def NA (ds:List Nat) (Fs:List C1) (j:Nat) (σ:CN) (w:World):Prop:=∀d F,ds[j]?=some d->Fs[j]?=some F->F σ (σ d) w
def Ow (P:Program) (N:Nat) (ds:List Nat) (Fs:List C1) (σ:CN) (w:World) (Ms:Nat->Nat->Prop) (all:List (List Nat)) (i:Nat) (o:Oper) (ws:List Nat) (F:C1):Prop:=
 ∀σ' w',Chg (C5 all Ms i) w w'->(∀t,ds.contains t=false->σ' t=σ t)->(∀j,ws.contains j=true->NA ds Fs j σ' w')->Cs (Ms i) P N o (λv w=>F σ' (Go.Eng.valOf o v) w) σ' w'
def A8 (Ms:Nat->Nat->Prop) (i:Nat) (ws:List Nat) (F:C1):Prop:=∀p,p≠i->ws.contains p=false->∀σ v w w',Chg (Ms p) w w'->F σ v w->F σ v w'
def F_ (ds:List Nat) (ws:List Nat) (F:C1):Prop:=∀σ1 σ2:CN,(∀j d,ws.contains j=true->ds[j]?=some d->σ2 d=σ1 d)->∀v w,F σ1 v w->F σ2 v w
theorem A8.eq {Ms:Nat->Nat->Prop} {i:Nat} {ws:List Nat} {u:Value}:A8 Ms i ws (λ_ v _=>v=u):=λ_ _ _ _ _ _ _ _ h=>h
theorem F_.const {ds ws:List Nat} {G:El}:F_ ds ws (λ_=>G):=λ_ _ _ _ _ h=>h
inductive DagStepsX (P:Program) (N:Nat) (ds:List Nat) (Fs:List C1) (σ:CN) (w:World) (Ms:Nat->Nat->Prop) (all:List (List Nat)):Nat->List Oper->List (List Nat)->List C1->Prop where
  | nil {i:Nat}:DagStepsX P N ds Fs σ w Ms all i [] [] []
  | cons {i:Nat} {o:Oper} {l:List Oper} {ws:List Nat} {wss:List (List Nat)} {F:C1} {Gs:List C1} (s:A8 Ms i ws F) (lc:F_ ds ws F) (h:Ow P N ds Fs σ w Ms all i o ws F) (t:DagStepsX P N ds Fs σ w Ms all (i+1) l wss Gs):DagStepsX P N ds Fs σ w Ms all i (o::l) (ws::wss) (F::Gs)
theorem DagStepsX.get {P:Program} {N:Nat} {ds:List Nat} {b:List C1} {σ:CN} {w:World} {Ms:Nat->Nat->Prop} {a:List (List Nat)}:∀{i:Nat} {l:List Oper} {wss:List (List Nat)} {c:List C1},DagStepsX P N ds b σ w Ms a i l wss c->∀{j:Nat} {o:Oper},l[j]?=some o->∃ws F,wss[j]?=some ws∧c[j]?=some F∧A8 Ms (i+j) ws F∧F_ ds ws F∧Ow P N ds b σ w Ms a (i+j) o ws F
 | _,_,_,_,.nil,j,o,h=>by simp at h
 | i,_,_,_,.cons s lc h t,0,o,ho=>by
  simp at ho;subst ho;exact ⟨_,_,O,O,s,lc,h⟩
 | i,_,_,_,.cons s lc h t,j+1,o,ho=>by
  simp at ho;obtain ⟨ws,F,k,d,g,e,f⟩:=DagStepsX.get t ho;exact ⟨ws,F,by simpa using k,by simpa using d,by rw[show i+(j+1)=i+1+j from qO];exact g,e,by rw[show i+(j+1)=i+1+j from qO];exact f⟩
def WH (wss cl:List (List Nat)) (i:Nat):Bool:=(cl.getD i []).all λc=>(wss.getD i []).contains c || (wss.getD i []).any λe=>(cl.getD e []).contains c
def QS (wss cl:List (List Nat)):Bool:=(List.range wss.length).all (WH wss cl)
theorem Hl {wss cl:List (List Nat)} (h:QS wss cl=true) {i c:Nat} {ws:List Nat} (b:wss[i]?=some ws) (j:(cl.getD i []).contains c=true):c∈ws∨∃e∈ws,(cl.getD e []).contains c=true:=by
 have f:=List.all_eq_true.1 h i (List.mem_range.2 (AI b));have a:=List.all_eq_true.1 f c (by simpa using j);rw[List.getD_eq_getElem?_getD,b,Option.getD_some,Bool.or_eq_true] at a;rcases a with a|a
 .exact .inl (by simpa using a)
 .obtain ⟨e,g,d⟩:=List.any_eq_true.1 a;exact .inr ⟨e,g,d⟩
theorem Hq {P:Program} {N:Nat} {Q:Dj} {σ:CN} {w:World} {id:Nat} {l:List Oper} (Ms:Nat->Nat->Prop) (n:Nat) (ds:List Nat) (wss cl:List (List Nat)) (Fs:List C1) {Gs:List C1} (hG:Fs=Gs) (hC:QS wss cl=true) (hm:P.follows .mixedOrders=true) (hB:Gg N 0 (l.take n) ds wss=true) (hn:Gr ds=true)
 (hT:(decide (n<l.length) && Region.sinkB .any l.toArray n && Region.chainB .any l.toArray n && Region.seqB .any l.toArray (l.length - n) n (Ew n l.length))=true)
 (al:∀A,Ao w A->DagStepsX P N ds Fs σ A Ms cl 0 (l.take n) cl Gs)
 (k:∀σ' A w',Ao w A->Chg (λy=>∃j,Ms j y) A w'->(∀t,ds.contains t=false->σ' t=σ t)->(∀j,NA ds Fs j σ' w')->DW P N l.toArray (Q .normal) Q (l.drop n) σ' w'):Wp P N (.region id l.toArray true) Q σ w:=by
 intro dz a Z C;have eQ:EN dz N (MT (Q .normal) Q)=EN dz N Q:=by funext e a w;cases e<;>rfl
 refine wp_region_any hm ?_;obtain ⟨A,a2⟩:∃A:World,A={w with drawn:=w.drawn+1}:=⟨_,O⟩;have aw:Ao w A:=by rw[a2];exact Ge w
 rw[<-a2];have am:=al A aw;rw[<-hG] at am;simp only[Bool.and_eq_true,decide_eq_true_eq] at hT;obtain ⟨⟨⟨bc,hs⟩,hc⟩,a0⟩:=hT;have hlen:ds.length=n:=by rw[JR hB];simp;omega
 have bi:∀(m:Nat) (listed:Array Bool) (a:Act) (w':World),(listed.toList.take n).count false=m->HeadInv .any l.toArray n listed->Ok dz N a->Chg (λy=>∃j,listed.getD j false=true∧Ms j y) A w'->(∀t,ds.contains t=false->DO a t=σ t)->(∀j,listed.getD j false=true->NA ds Fs j (DO a) w')->
  wpAny P .any l.toArray (EN dz N Q) (m+(l.length - n)) listed a w':=by
  intro m
  induction m with
  | zero=>
   intro listed a w' a5 r Z hx hu hh;have ak:listed.size=l.length:=by simpa using r.size
   have hl:listed=Ew n l.length:=by
    apply Array.ext';rw[Ew];have:=OX (l:=listed.toList) (n:=n) (by simp;omega) a5 (by
     intro t E h2;have ad:t<listed.size:=by simpa using h2
     have:=r.tail t E (by simpa[ak] using ad);simp only[Array.getD_eq_getD_getElem?,Array.getElem?_eq_getElem ad,Option.getD_some] at this;simp[ad,this])
    rw[this];simp[ak]
   rw[Nat.zero_add];have E:=k (DO a) A w' aw (hx.mono λy _ h=>by obtain ⟨j,_,h⟩:=h;exact ⟨j,h⟩) hu (λj d F hd hF=>by
    have B:j<n:=by have:=AI hd;omega
    exact hh j (by
     rw[hl,Ew];simp[Array.getD_eq_getD_getElem?,List.getElem?_append_left,B]) d F hd hF) dz a Z O
   rw[eQ] at E;have:=wpAny_of_seq (P:=P) (md:=.any) (ops:=l.toArray) (Q':=EN dz N Q) (l.drop n) n listed a w' (λj=>by simp[List.getElem?_drop]) (by rw[List.length_drop,hl];exact a0) E
   rwa [List.length_drop] at this
  | succ m ih=>
   intro listed a w' hcm r Z hx hu hh;have ak:listed.size=l.length:=by simpa using r.size
   obtain ⟨i0,ac,ai⟩:∃i,i<n∧listed.getD i true=false:=by
    have:0<(listed.toList.take n).count false:=qO
    rw[List.count_pos_iff] at this;obtain ⟨i,hi,C⟩:=List.getElem_of_mem this;have I:i<n:=by simp at hi;omega
    refine ⟨i,I,?_⟩;have L:i<listed.size:=by simp at hi;omega
    simp only[Array.getD_eq_getD_getElem?,Array.getElem?_eq_getElem L,Option.getD_some];simpa using C
   rw[show m+1+(l.length - n)=(m+(l.length - n))+1 by omega];refine ⟨λhr=>?_,λi hi=>?_⟩
   .exfalso;have aq:∀i,i<n->listed.getD i true=true:=by
     intro i
     induction i using Nat.strongRecOn with
     | _ i ihi=>
      intro hi;cases hv:listed.getD i true with
      | true=>rfl
      | false=>
       exfalso;obtain ⟨o,ho⟩:=AL (l:=l) (i:=i) qO;have U:(l.take n)[i]?=some o:=by rw[List.getElem?_take_of_lt hi];exact ho
       obtain ⟨d,ws,_,_,h3⟩:=EL hB U;have:i∈Region.ready .any l.toArray listed:=by
        refine mem_ready.2 ⟨hv,o,by simpa using ho,λe C hb=>?_⟩;simp only[GH,Bool.and_eq_true,Array.all_eq_true_iff_forall_mem,Bool.or_eq_true,Bool.not_eq_true',Nat.zero_add] at h3;have:=(h3.1.1.2 e C).resolve_left (by simp[hb]);have bd:e.on<i:=by simpa[Nat.blt_eq] using this
        have h4:=ihi e.on bd qO;have B:e.on<listed.size:=qO
        simpa only[Array.getD_eq_getD_getElem?,Array.getElem?_eq_getElem B,Option.getD_some] using h4
       rw[hr] at this;cases this
    rw[aq i0 ac] at ai;cases ai
   .have I:i<n:=by
     rcases Nat.lt_or_ge i n with h|h
     .exact h
     .exact absurd hi (tail_waits hs hc (by simpa using bc) r _ i0 O ac ai i h)
    obtain ⟨E,o,h2,h3⟩:=mem_ready.1 hi;have L:i<listed.size:=qO
    have ho:l[i]?=some o:=by simpa using h2
    have U:(l.take n)[i]?=some o:=by rw[List.getElem?_take_of_lt I];exact ho
    obtain ⟨d,ws,hd,ba,h4⟩:=EL hB U;obtain ⟨ax,F,a3,hF,ae,av,H⟩:=am.get U;simp only[Nat.zero_add] at H ae;simp only[GH,Bool.and_eq_true,List.all_eq_true,Array.any_eq_true',Array.all_eq_true_iff_forall_mem,Bool.or_eq_true,Bool.not_eq_true',Nat.zero_add] at h4;obtain ⟨⟨⟨f,_⟩,aj⟩,ah⟩:=h4;have ah:o.guard=none:=by simpa using ah
    have an:∀j,listed.getD j false=true->∀c,(cl.getD j []).contains c=true->listed.getD c false=true:=by
     intro j
     induction j using Nat.strongRecOn with
     | _ j ihj=>
      intro b c hc;have bj:j<n:=by
       rcases Nat.lt_or_ge j n with h|h
       .exact h
       .rcases Nat.lt_or_ge j l.length with h'|h'
        .have:=getD_both (r.tail j h (by simpa using h'));rw[this] at b;cases b
        .simp[Array.getElem?_eq_none (show listed.size<=j by omega)] at b
      obtain ⟨oc,ay⟩:=AL (l:=l) (i:=j) qO;have au:(l.take n)[j]?=some oc:=by rw[List.getElem?_take_of_lt bj];exact ay
      obtain ⟨dc,a4,_,ar,h5⟩:=EL hB au;simp only[GH,Bool.and_eq_true,List.all_eq_true,Array.any_eq_true',Array.all_eq_true_iff_forall_mem,Bool.or_eq_true,Bool.not_eq_true',Nat.zero_add] at h5;have g:∀x∈a4,listed.getD x false=true∧x<j:=by
       intro x u;obtain ⟨e,C,M,af⟩:=h5.1.2 x u;have bh:e.on=x:=Nat.eq_of_beq_eq_true af;have s:=r.closed j oc (by simpa using ay) b e C M;have h7:=(h5.1.1.2 e C).resolve_left (by simp[M]);rw[bh] at s h7;exact ⟨s,by simpa[Nat.blt_eq] using h7⟩
      rcases Hl hC ar hc with s|⟨x,u,s⟩
      .exact (g c s).1
      .exact ihj x (g x u).2 (g x u).1 c s
    have J:∀j,listed.getD j false=true->Mo cl i j=false:=by
     intro j b;cases R:Mo cl i j with
     | false=>rfl
     | true=>
      exfalso;simp only[Mo,Bool.or_eq_true] at R;rcases R with R|R
      .have:j=i:=Nat.eq_of_beq_eq_true R;rw[this,getD_both E] at b;cases b
      .have:=an j b i R;rw[getD_both E] at this;cases this
    have ab:∀j,ax.contains j=true->listed.getD j false=true:=by
     intro j B;have D:(cl.getD i []).contains j=true:=by rw[List.getD_eq_getElem?_getD,a3,Option.getD_some];exact B
     have g:∀x∈ws,listed.getD x false=true:=by
      intro x u;obtain ⟨e,C,M,af⟩:=aj x u;have:e.on=x:=Nat.eq_of_beq_eq_true af;exact this▸h3 e C M
     rcases Hl hC ba D with s|⟨x,u,s⟩
     .exact g j s
     .exact an x (g x u) j s
    have hH:∀j,ax.contains j=true->NA ds Fs j (DO a) w':=λj B=>hh j (ab j B);have T:∀W,Chg (Ms i) w' W->Chg (λy=>∃j,(listed.setIfInBounds i true).getD j false=true∧Ms j y) A W:=by
     intro W V;have R:(listed.setIfInBounds i true).getD i false=true:=by simp[Array.getD_eq_getD_getElem?,L]
     refine Chg.step (hx.mono λy _ h=>?_) V (λy _ h=>⟨i,R,h⟩);obtain ⟨j,h5,s⟩:=h;by_cases z:j=i
     .exact ⟨i,R,z▸s⟩
     .exact ⟨j,by rw[getD_set_ne _ (Ne.symm z)];exact h5,s⟩
    have az:∀v W,Chg (Ms i) w' W->F (DO a) (Go.Eng.valOf o v) W->wpAny P .any l.toArray (EN dz N Q) (m+(l.length - n)) (listed.setIfInBounds i true) (a.put o.dst v) W:=by
     intro v W V hv;have q:(∀t,t≠d->DO (a.put o.dst v) t=DO a t)∧DO (a.put o.dst v) d=Go.Eng.valOf o v:=by
      cases hod:o.dst with
      | none=>
       rw[hod] at f;have a6:N<=d:=Nat.le_of_ble_eq_true f;refine ⟨λt _=>rfl,?_⟩;simp only[Go.Eng.valOf,hod];show a.tmps.getD d undef=undef;have:a.tmps.size<=d:=by rw[Z.size];exact a6
       simp[Array.getElem?_eq_none this]
      | some G=>
       rw[hod] at f;simp only[Bool.and_eq_true] at f;have bf:G=d:=Nat.eq_of_beq_eq_true f.1;have a9:d<N:=by simpa[Nat.blt_eq] using f.2
       subst bf;rw[Dx Z a9 v];refine ⟨λt ht=>?_,?_⟩
       .have:Nat.beq t G=false:=by cases hb:Nat.beq t G;rfl;exact absurd (Nat.eq_of_beq_eq_true hb) ht
        simp[E4,this]
       .simp[E4,Go.Eng.valOf,hod]
     refine ih _ _ _ ?_ (r.set hi I) (Z.put _ _) (T W V) ?_ ?_
     .have hl:listed.toList[i]?=some false:=by
       simp only[Array.getD_eq_getD_getElem?,Array.getElem?_eq_getElem L,Option.getD_some] at E;simp[L,E]
      have:=HL (l:=listed.toList) I (by simp;omega) hl;rw[Array.toList_setIfInBounds];omega
     .intro t ht;rw[q.1 t (λh=>by
       subst h;have:=List.mem_of_getElem? hd;simp[this] at ht),hu t ht]
     .intro j B G F' p S;by_cases z:j=i
      .subst z;rw[hd] at p;cases p;rw[hF] at S;cases S;rw[q.2];refine av (DO a) _ (λj' G D p=>q.1 G λC=>?_) _ _ hv;have:=Cz hn (C▸p) hd;subst this;have:=ab j' D;rw[getD_both E] at this;cases this
      .have bb:G≠d:=by
        intro h;subst h;exact z (Cz hn p hd)
       rw[q.1 G bb];rw[getD_set_ne _ (Ne.symm z)] at B;have s:=hh j B G F' p S;have be:j<n:=by have:=AI p;omega
       obtain ⟨oj,bk⟩:=AL (l:=l) (i:=j) qO;have aa:(l.take n)[j]?=some oj:=by rw[List.getElem?_take_of_lt be];exact bk
       obtain ⟨dj,wsj,_,hwsj,h5⟩:=EL hB aa;obtain ⟨K,Fj,ag,a1,ao,b,_⟩:=am.get aa;rw[S] at a1;cases a1;simp only[Nat.zero_add] at ao;have X:K.contains i=false:=by
        cases X:K.contains i with
        | false=>rfl
        | true=>
         exfalso;have:=J j B;have bg:cl.getD j []=K:=by simp[ag]
         simp only[Mo,bg,X,Bool.or_true] at this;cases this
       refine b (DO a) _ (λj' G D p=>q.1 G λC=>?_) _ _ (ao i (Ne.symm z) X _ _ _ _ V s);have:=Cz hn (C▸p) hd;subst this;rw[X] at D;cases D
    have a8:Chg (C5 cl Ms i) A w':=hx.mono λy _ h=>by
     obtain ⟨j,h5,s⟩:=h;exact ⟨j,J j h5,s⟩
    have a7:=H (DO a) w' a8 hu hH;have hw:Region.wanted o (yielded l.toArray a.tmps)=true:=by simp[Region.wanted,ah]
    unfold wpOp;simp only[h2,hw,if_true];exact Or.inl (a7 _ a Z O _ _ az)
 have ap:HeadInv .any l.toArray n (Array.replicate l.toArray.size false):=
  ⟨qP,λj oj _ hl=>(by rw[getD_replicate_false] at hl;cases hl),λt _ ht=>getD_in (by simpa using ht) (getD_replicate_false _ _)⟩
 have E:=bi n (Array.replicate l.toArray.size false) a A (by simp;omega) ap Z (Chg.refl _ _) (λt _=>by rw[C]) (λj B=>by rw[getD_replicate_false] at B;cases B);have e3:n+(l.length - n)=l.toArray.size:=by simp;omega
 rw[e3] at E;exact E
end Go.Eng
namespace Go.Proofs
open Go Go.Eng Go.Sort
set_option maxRecDepth 100000
def Ek (E N:Value) (vs:List Value) (b:Nat):Prop:=E.ownBlock=some b∨N.ownBlock=some b∨∃(i:Nat) (v:Value),vs[i]?=some v∧v.ownBlock=some b
structure OutSt (w:World) (base:Nat) (E N:Value) (vs:List Value) (acc:List Int) (rows:List (List Int)):Prop where
 e:w.ownsRow base DP 1 E acc.length (acc.map (Value.int .i64))
 n:LSt Co DP 1 w base N vs (rows.map Gv)
 en:∀b,E.ownBlock=some b->N.ownBlock≠some b
 ei:∀(i:Nat) v b,vs[i]?=some v->v.ownBlock=some b->E.ownBlock≠some b
theorem OutSt.typ {w:World} {base b T:Nat} {E N:Value} {vs:List Value} {acc:List Int} {rows:List (List Int)} {c:Array Value} (h:OutSt w base E N vs acc rows) (f:Az w b c T) (q:T≠DP) (s:T≠Co):¬Ek E N vs b:=by
 have a:∀{e n:Nat} {v:Value} {xs:List Value},w.ownsRow base e 1 v n xs->v.ownBlock=some b->T=e:=by
  intro e n v xs t r;rcases t.2 with ⟨rfl,_⟩|⟨g,cap,j,rfl,_,u,_⟩
  .cases r
  .have m:g=b:=Option.some.inj r;subst m;unfold Az at f;have k:w.heap[g]?=some (.cells j e (0,0)):=u;rw[k] at f;simp at f;exact f.2.symm
 rintro (d|d|⟨i,v,d,x⟩)
 .exact q (a h.e d)
 .exact s (a h.n.o d)
 .obtain ⟨p,y⟩:=AL (l:=rows.map Gv) (i:=i) (by have:=AI d;have:=h.n.len;omega);exact q (a (h.n.inn i v p d y) x)
theorem OutSt.start (w:World) (base:Nat):OutSt w base (.slice none 0 0) (.slice none 0 0) [] [] []:=
 ⟨World.ownsRow_nil _ _ _ _,LSt.start _ _ _ _ _,(λb h=>by cases h),λi v b h=>by simp at h⟩
theorem OutSt.lt {w:World} {base:Nat} {E N:Value} {vs:List Value} {acc:List Int} {rows:List (List Int)} (h:OutSt w base E N vs acc rows) {b:Nat} (hb:Ek E N vs b):base<=b∧b<w.heap.size:=by
 rcases hb with a|a|⟨i,v,a,c⟩
 .exact h.e.lt b a
 .exact h.n.o.lt b a
 .obtain ⟨p,d⟩:=AL (l:=rows.map Gv) (i:=i) (by have:=AI a;have:=h.n.len;omega);exact (h.n.inn i v p a d).lt b c
theorem OutSt.chg {M:Nat->Prop} {w w':World} {base:Nat} {E N:Value} {vs:List Value} {acc:List Int} {rows:List (List Int)} (h:OutSt w base E N vs acc rows) (c:Chg M w w') (a:∀b,Ek E N vs b->¬M b):OutSt w' base E N vs acc rows:=
 ⟨Ax h.e c λb hb=>a b (.inl hb),⟨Ax h.n.o c λb hb=>a b (.inr (.inl hb)),h.n.len,λi v p d f=>Ax (h.n.inn i v p d f) c λb hb=>a b (.inr (.inr ⟨i,v,d,hb⟩)),h.n.apo⟩,h.en,h.ei⟩
theorem OutSt.ext {w w':World} {base:Nat} {E N:Value} {vs:List Value} {acc:List Int} {rows:List (List Int)} (h:OutSt w base E N vs acc rows) (c:Ao w w'):OutSt w' base E N vs acc rows:=h.chg c λ_ _ f=>f
theorem OutSt.push {w w':World} {base x m:Nat} {E E' N N' u:Value} {vs:List Value} {acc row:List Int} {rows:List (List Int)} {y:Int} (h:OutSt w base E N vs acc rows) (t:w.ownsRow x DP 1 u m (row.map (Value.int .i64))) (H:m=row.length) (hb:base<=x) (r:∀b,Ek E N vs b->b<x)
 (C:Chg (λb=>N.ownBlock=some b∨E.ownBlock=some b) w w') (B:w'.ownsRow base Co 1 N' (rows.length+1) (vs++[u])) (J:∀k,N'.ownBlock=some k->N.ownBlock=some k∨w.heap.size<=k)
 (I:w'.ownsRow base DP 1 E' (acc.length+1) ((acc++[y]).map (Value.int .i64))) (D:∀k,E'.ownBlock=some k->E.ownBlock=some k∨w.heap.size<=k) (F:∀b,N'.ownBlock=some b->E'.ownBlock≠some b):OutSt w' base E' N' (vs++[u]) (acc++[y]) (rows++[row]):=by
 have A:=λb (a:u.ownBlock=some b)=>t.lt b a;have j:∀(i:Nat) v,(vs++[u])[i]?=some v->vs[i]?=some v∨(i=vs.length∧v=u):=λi v c=>by
  rcases Nat.lt_or_ge i vs.length with d|d
  .left;rwa [List.getElem?_append_left d] at c
  .right;rw[List.getElem?_append_right d] at c;have o:=AI c;simp at o;rw[show i - vs.length=0 by omega] at c;simp at c;exact ⟨qO,c.symm⟩
 have l:∀(i:Nat) v b,(vs++[u])[i]?=some v->v.ownBlock=some b->N.ownBlock≠some b∧E.ownBlock≠some b∧b<w.heap.size:=λi v b c a=>by
  rcases j i v c with d|⟨_,rfl⟩
  .exact ⟨λe=>h.n.apo i v b d a e,h.ei i v b d a,(h.lt (.inr (.inr ⟨i,v,d,a⟩))).2⟩
  .have:=A b a;exact ⟨λe=>by have:=r b (.inr (.inl e));omega,λe=>by have:=r b (.inl e);omega,this.2⟩
 have g:∀(i:Nat) v b,(vs++[u])[i]?=some v->v.ownBlock=some b->N'.ownBlock≠some b∧E'.ownBlock≠some b:=λi v b c a=>by
  obtain ⟨d,o,s⟩:=l i v b c a;exact ⟨λe=>by rcases J b e with f|f;exact d f;omega,λe=>by rcases D b e with f|f;exact o f;omega⟩
 refine ⟨by rw[List.length_append];exact I,⟨by simpa using B,by simp[h.n.len],λi v p c q=>?_,λi v b c a=>(g i v b c a).1⟩,λb a e=>F b e a,λi v b c a=>(g i v b c a).2⟩;rw[List.map_append] at q;rcases j i v c with d|⟨d,rfl⟩
 .rw[List.getElem?_append_left (by have:=AI d;have:=h.n.len;omega)] at q;exact Ax (h.n.inn i v p d q) C λb a z=>by
   obtain ⟨o,s,_⟩:=l i v b c a;rcases z with f|f
   .exact o f
   .exact s f
 .have G:=h.n.len;rw[d,G,List.getElem?_append_right (Nat.le_refl _),Nat.sub_self] at q;simp[Gv] at q;subst q;rw[H] at t;exact Eo (Ax t C λb a z=>by
   obtain ⟨o,s,_⟩:=l i v b c a;rcases z with f|f
   .exact o f
   .exact s f) hb
theorem C6 {c1 c2 i e hs:Nat} {M1 M2:Nat->Prop} {a:Array Value} {ws:List Nat} (j:∀y,M1 y->y<hs) (c:∀y,M2 y->y<hs):A8 (two c1 c2 M1 M2) i ws (λ_=>C0 e a hs):=by
 rintro p _ _ σ v w w' x ⟨b,g,f,d⟩;exact ⟨b,g,x.keep (λh=>by rcases E5 h with h|h;have:=j b h.2;omega;have:=c b h.2;omega) f,d⟩
theorem HQ {c1 c2 base e size n hs:Nat} {M1 M2:Nat->Prop} {xs:List Value} {a:Value} {ws:List Nat} (h:∀k,(a.ownBlock=some k∨hs<=k)->¬M2 k):A8 (two c1 c2 M1 M2) c1 ws (λ_=>Cd base e size n xs a hs):=by
 rintro p i _ σ v w w' x ⟨f,d,c⟩;rcases Js x with b|b|b
 .exact absurd b.1 i
 .exact ⟨f,Ax d b.2 (λk g=>h k (c k g)),c⟩
 .exact ⟨f,Aj d b,c⟩
theorem HP {c1 c2 base e size n hs t:Nat} {M1 M2:Nat->Prop} {xs:List Value} {d:Value} {ws:List Nat} (g:ws.contains c1=true):A8 (two c1 c2 M1 M2) c2 ws (λs v w=>Cd base e size n xs d hs v w∧∀b,(s t).ownBlock=some b->v.ownBlock≠some b):=by
 rintro p j c σ v w w' x ⟨⟨k,f,i⟩,h⟩;rcases Js x with a|a|a
 .rw[a.1,g] at c;cases c
 .exact absurd a.1 j
 .exact ⟨⟨k,Aj f a,i⟩,h⟩
theorem Ov {M:Nat->Prop} {P:Program} {N:Nat} {o:Oper} {R R':El} {σ:CN} {w:World} (h:Cs M P N o R σ w) (f:∀v w,R v w->R' v w):Cs M P N o R' σ w:=λe a g j Q K i=>h e a g j Q K λv c b d=>i v c b (f v c d)
theorem Hp {M:Nat->Prop} {P:Program} {N:Nat} {o:Oper} {σ:CN} {w:World} {n q C y m l i j hs:Nat} {xs r:List Value} {c a u:Value} (h:Cd n q C y r a hs u w) (hd:Cs M P N o (Cd m l i j xs c w.heap.size) σ w) (z:hs<=w.heap.size) (e:∀k,(a.ownBlock=some k∨hs<=k)->c.ownBlock≠some k) (t:∀v,Go.Eng.valOf o v=v:=by intro v;rfl) :
 Cs M P N o (λv w=>Cd m l i j xs c hs (Go.Eng.valOf o v) w∧∀b,u.ownBlock=some b->(Go.Eng.valOf o v).ownBlock≠some b) σ w:=by
 refine Ov hd ?_;rintro v w2 ⟨A,x,g⟩;rw[t v];refine ⟨⟨A,x,λk d=>(g k d).imp id (λh=>Nat.le_trans z h)⟩,λk d s=>?_⟩;obtain ⟨_,p,B⟩:=h;rcases g k s with f|f
 .exact e k (B k d) f
 .have:=(p.lt k d).2;omega
theorem GZ {w:World} {b base n:Nat} {row:List Int} (h:Az w b (row.map (Value.int .i64)).toArray DP) (hb:base≤b) (hn:row.length=n) (hl:n≤9223372036854775807:=by omega):w.ownsRow base DP 1 (.slice (some ⟨b,0,none⟩) n n) n (row.map (Value.int .i64)):=
 ⟨by simp[hn],.inr ⟨b,n,_,rfl,hb,h,Nat.le_refl _,hl,by simp[hn],by simp only[Nat.mul_one];exact List.take_of_length_le (by simp[hn])⟩⟩
theorem OutSt.intss {w:World} {base:Nat} {E N:Value} {vs:List Value} {acc:List Int} {rows:List (List Int)} (h:OutSt w base E N vs acc rows):EY w N rows:=by
 have a:vs.length=rows.length:=by simpa using h.n.len
 refine ⟨vs,?_,a,λi u l d a=>?_⟩
 .have b:=h.n.o;rw[show vs=(vs.map λx=>[x]).flatten by simp[List.flatten_eq_flatMap,List.flatMap_map]] at b;exact DY b (by intro r c;simp only[List.mem_map] at c;obtain ⟨x,_,rfl⟩:=c;rfl) (by simp[a]) qD
 .exact FM (h.n.inn i u (Gv l) d (by rw[List.getElem?_map,a];rfl)) O
end Go.Proofs
namespace Go.Proofs
open Go Go.Eng Go.Sort
set_option maxRecDepth 100000
theorem Ev {w:World} {b:Nat} {l:List Int} {T:Nat} (h:Az w b (l.map (Value.int .i64)).toArray T) {i:Nat} {x:Int} (a:l[i]?=some x):w.cell? ⟨b,0+i,none⟩=some (.int .i64 x):=h.cell (by simp[a])
theorem Nj {p:List Int} {t:Nat} {n:Nat} (hl:p.length=n) (ht:t<n):p[t]?=some (Ck p ((t:Nat):Int)):=by
 have a:p[t]?=some (p[t]'(by omega)):=List.getElem?_eq_getElem _;rw[a,Ct a]
theorem TG {w:World} {e b bg c:Nat} {T m:Nat} (k:Az w e #[.int .i64 (-1)] T) (h:Az w b #[.slice (some ⟨bg,0,none⟩) c c] m) (g:Az w bg ((List.replicate c (-1:Int)).map (Value.int .i64)).toArray DP) (hc:c<=60000):B' w ⟨0,[-1],[List.replicate c (-1)]⟩ [.int .i64 0,.slice (some ⟨e,0,none⟩) 1 1,.slice (some ⟨b,0,none⟩) 1 1]:=by
 refine ⟨_,1,_,1,O,HG [-1] k qP qP,[.slice (some ⟨bg,0,none⟩) c c],⟨some ⟨b,0,none⟩,1,O,show (1:Nat)<=9223372036854775807 by decide,Nat.le_refl 1,.inr ⟨b,0,O,?_⟩⟩,O,?_⟩
 .intro i r d j u a;rcases i with _|i<;>simp at d;subst d;cases j with
  | zero=>simp at a;subst a;exact h.cell O
  | succ j=>simp at a
 .intro i u l a f;rcases i with _|i<;>simp at a f;subst a;subst f;exact EV g qP
theorem IY {E E' N N':Value} {vs:List Value} {b f e c:Nat} (h:¬Ek E N vs b∧b≠f) (hb:b<e) (m:∀k,N'.ownBlock=some k->N.ownBlock=some k∨e<=k) (l:∀k,E'.ownBlock=some k->E.ownBlock=some k∨e<=k) (j:Ek E' N' (vs++[.slice (some ⟨f,0,none⟩) c c]) b):False:=by
 rcases j with d|d|⟨i,v,d,g⟩
 .rcases l b d with a|a
  .exact h.1 (.inl a)
  .omega
 .rcases m b d with a|a
  .exact h.1 (.inr (.inl a))
  .omega
 .rcases Ce d with a|⟨_,a⟩
  .exact h.1 (.inr (.inr ⟨i,v,a,g⟩))
  .subst a;cases g;exact h.2 O
theorem Ed {α:Type} {l:List α} {k:Nat} {x:α} (h:l[k]?=some x):l.take (k+1)=l.take k++[x]:=by rw[List.take_add_one,h];rfl
theorem CanP.st_le {n c:Nat} {d:Dfa} {p:List Int} {rows:List (List Int)} {row f:List Int} (h:CanP n c d p rows row f):f.length<=n:=by
 have hd:(f.map Int.toNat).Nodup:=by
  rw[List.nodup_iff_pairwise_ne,List.pairwise_iff_getElem];intro i j hi g hij l;simp only[List.length_map] at hi g;simp only[List.getElem_map] at l;have a:=List.getElem?_eq_getElem hi;have b:=List.getElem?_eq_getElem g;have h1:=h.sl _ (List.mem_of_getElem? a);have h2:=h.sl _ (List.mem_of_getElem? b);have e:f[i]=f[j]:=qO
  have:=h.inj i j _ _ a b (by rw[e]);omega
 have:=Gc (m:=List.range n) hd λx k=>by
  obtain ⟨s,hs,rfl⟩:=List.mem_map.1 k;have:=h.sl s hs;exact List.mem_range.2 qO
 simpa using this
def DV (m:Nat) (w:World) (d:Dfa) (vs:List Value):Prop:=∀(M:Nat->Prop) w',Chg M w w'->(∀b,M b->b<m∨∃cs,Az w b cs 52)->B' w' d vs
theorem DV.at' {m:Nat} {w:World} {d:Dfa} {vs:List Value} (h:DV m w d vs):B' w d vs:=h AZ w (Chg.refl _ _) λ_ f=>f.elim
theorem DV.chgT {M:Nat->Prop} {m:Nat} {w w':World} {d:Dfa} {vs:List Value} (h:DV m w d vs) (c:Chg M w w') (j:∀b,M b->b<m∨∃cs,Az w b cs 52):DV m w' d vs:=λM2 k c2 i=>
 h (λb=>M b∨(M2 b∧b<w.heap.size∧¬M b)) k (Chg.step (c.mono λb _ hb=>.inl hb) c2 λb g e=>by by_cases a:M b;exact .inl a;exact .inr ⟨e,g,a⟩) λb hb=>by
  rcases hb with hb|⟨e,g,a⟩
  .exact j b hb
  .rcases i b e with f|⟨cs,f⟩
   .exact .inl f
   .exact .inr ⟨cs,(c.blk b g a).symm.trans f⟩
theorem DV.chg {M:Nat->Prop} {m:Nat} {w w':World} {d:Dfa} {vs:List Value} (h:DV m w d vs) (c:Chg M w w') (a:∀b,M b->b<m):DV m w' d vs:=h.chgT c λb hb=>.inl (a b hb)
theorem DV.low {m m':Nat} {w:World} {d:Dfa} {vs:List Value} (h:DV m w d vs) (hm:m'<=m):DV m' w d vs:=λM w' c a=>h M w' c λb hb=>(a b hb).imp (λh=>qO) id
theorem Mh {M:Nat->Prop} {m b:Nat} {w:World} {cs:Array Value} {T:TypeId} (e:∀b,M b->b<m∨∃cs,Az w b cs 52) (hb:m<=b) (a:Az w b cs T) (d:T≠52):¬M b:=λh=>by
 rcases e b h with c|⟨c2,c⟩
 .omega
 .unfold Az at a c;rw[c] at a;simp at a;exact d a.2.symm
theorem U4 (w0:World) (n c:Nat) (d:Dfa) (dv:List Value) (ok:OkD n c d) (h:B' w0 d dv) (hn:n≤20000∧1≤c∧c≤16) (hac:∀x∈d.accept,x<2147483648) :
  CJ prog 162 #[.agg dv.toArray] w0 fun r w=>(∃C cv,Db c (beh d d.start) C∧C.next.length≤n∧(∀x∈C.accept,x<2147483648)∧r=.agg cv.toArray∧DV w0.heap.size w C cv)∧Ao w0 w:=by
 obtain ⟨dv0,bw⟩:∃x,x=dv:=⟨_,rfl⟩;have b9:=h;rw[←bw] at b9;obtain ⟨aa,ac,na,nc,rfl,cu,ck⟩:=h;have d9:=ok.nl;have ej:=ok.al;have c5:=ok.st;rw[ej,d9] at bw⊢;rw[ej] at cu;rw[d9] at ck;have fs:∀w,Ao w0 w→B' w d [.int .i64 d.start,.slice aa n ac,.slice na n nc]:=fun w e=>by rw[bw] at b9;exact b9.ext e
 obtain ⟨nb,no,rfl,fz⟩:=Ca (n:=n) ck qO;obtain ⟨ab,ao,rfl,eg⟩:=BF (n:=n) cu qO;obtain ⟨s0,ee⟩:=Int.eq_ofNat_of_zero_le c5.1;have f5:ab<w0.heap.size:=World.block_lt_of_cell? w0 _ (eg s0 _ (IK ok (show s0<n by omega)));have bk:∀(s:Nat),s<n→∃row ra rc,d.next[s]?=some row∧row.length=c∧w0.cell? ⟨nb,no+s,none⟩=some (.slice ra c rc)∧CF w0 (.slice ra c rc) row:=fun s hs=>by
  obtain ⟨row,a4⟩:=AL (l:=d.next) (i:=s) qO;have du:=(ok.row row (List.mem_of_getElem? a4)).1;obtain ⟨ra,rc,h1,h2⟩:=fz s row a4;rw[du] at h1 h2;exact ⟨row,ra,rc,a4,du,h1,h2⟩
 obtain ⟨fx,ed,eo,eh,e7,b4,e5⟩:=bk 0 qO;refine qR func162 rfl ntmps162 rfl (fun E=>(Y (BM (v:=(.agg #[(I6 d.start),(.slice (some ⟨ab,ao,none⟩) n ac),(.slice (some ⟨nb,no,none⟩) n nc)])) (c:=#[(I6 d.start),(.slice (some ⟨ab,ao,none⟩) n ac),(.slice (some ⟨nb,no,none⟩) n nc)]) qD rfl rfl ?_)));intro bd wd Nd;have Fd:=Nd.ge E;replace E:=E.ext Nd.ext;have Bd:=Nd.blk;refine BO (c:=#[(I6 0),(.slice none 0 0),(.slice none 0 0)]) qD CU rfl ?_;intro bo wo No;have Fo:=No.ge E;have Oo_bd:=No.lt Bd;replace Bd:=No.keep Bd;replace E:=E.ext No.ext;have Bo:=No.blk;refine AA (Y (qV (AU (vs:=[(I6 d.start),(.slice (some ⟨ab,ao,none⟩) n ac),(.slice (some ⟨nb,no,none⟩) n nc)]) rfl BC Ap rfl (Bd.cells rfl)) ?_));have f8:=Bo.lt;have ez:=Bd.lt;refine qE rfl (AT (vs:=[(.agg #[(I6 d.start),(.slice (some ⟨ab,ao,none⟩) n ac),(.slice (some ⟨nb,no,none⟩) n nc)])]) func176 kQ kQ rfl) (UR _ n c d _ ok (fs _ E) qO hac) ?_;rintro _ w9 ⟨⟨p,b1,cy,rfl,hb1,ae⟩,X9⟩;replace Bd:=X9.keep Bd;replace Bo:=X9.keep Bo;replace E:=E.ext X9;refine qA (.slice (some ⟨b1,0,none⟩) n n) rfl (AA (Y (qF bd 0 2 rfl underlying52 rfl CB rfl (qV (AD (v:=(.slice (some ⟨nb,no,none⟩) n nc)) rfl B0 (Bd.cell rfl)) (qV (AC (b:=nb) (o:=no) (len:=n) (cap:=nc) (i:=0) (o':=no+0) rfl rfl rfl underlying50 BG qO qO) (qV (AD (v:=(.slice ed c eo)) rfl BX (E.cell (fun f=>f) (by rw[Nat.add_zero] at *;exact b4))) ?_))))));have fj:=ae.lt;have eu:=Nj cy.len (show s0<n by omega);refine qV (AH (ad:=ed) (n:=c) (cap:=eo) underlying22 rfl) (qA (I6 (c:Int)) rfl (AA (AE (Y (qM (.slice (some ⟨b1,0,none⟩) n n) rfl (qF bd 0 0 rfl underlying52 rfl Ab rfl (qV (AD (v:=(I6 d.start)) rfl Aa (Bd.cell rfl)) (qV (AC (b:=b1) (o:=0) (len:=n) (cap:=n) (i:=s0) (o':=0+s0) rfl rfl qO underlying22 Ab qO qO) (qV (AD (v:=(I6 (Ck p d.start))) rfl Aa (by rw[ee];exact Ev ae eu)) (qV (Av (k:=.i64) (a:=Ck p d.start) (b:=0) rfl rfl) (AA (qC rfl (fun cf=>?_) (fun cf=>?_)))))))))))))
 ·have dy:¬BI c d d.start:=fun hl=>by have:=(cy.live d.start ⟨qO,c5.2⟩).1.2 hl;omega
  refine Y (Ad (ps:=[(0,(I6 (-1)))]) (c:=#[(I6 (-1))]) qD rfl underlying22 Ab CW qD qD qK ?_);intro be we Ne;have Fe:=Ne.ge E;have Oe_bd:=Ne.lt Bd;have Oe_bo:=Ne.lt Bo;have Oe_b1:=Ne.lt ae;replace Bd:=Ne.keep Bd;replace Bo:=Ne.keep Bo;replace ae:=Ne.keep ae;replace E:=E.ext Ne.ext;have Be:=Ne.blk;refine Ad (ps:=[(0,(I6 (-1)))]) (c:=#[(I6 (-1))]) qD rfl underlying22 Ab CW qD qD qK ?_;intro bf wf Nf;have Ff:=Nf.ge E;have Of_bd:=Nf.lt Bd;have Of_bo:=Nf.lt Bo;have Of_b1:=Nf.lt ae;have Of_be:=Nf.lt Be;replace Bd:=Nf.keep Bd;replace Bo:=Nf.keep Bo;replace ae:=Nf.keep ae;replace Be:=Nf.keep Be;replace E:=E.ext Nf.ext;have Bf:=Nf.blk;refine qM (I6 (c:Int)) rfl ?_;have e6:=Bf.lt;refine qE rfl (AT (vs:=[(.slice (some ⟨bf,0,none⟩) 1 1),(I6 (c:Int))]) func163 kQ kQ rfl) (HC _ bf 1 c (-1) _ Bf hn.2.1 qO) ?_;rintro _ fg ⟨⟨g,rfl,hg,hG⟩,ca⟩;replace Bd:=ca.keep Bd;replace Bo:=ca.keep Bo;replace ae:=ca.keep ae;replace Be:=ca.keep Be;replace Bf:=ca.keep Bf;replace E:=E.ext ca;refine Ad (ps:=[(0,(.slice (some ⟨g,0,none⟩) c c))]) (c:=#[(.slice (some ⟨g,0,none⟩) c c)]) qD rfl underlying50 BG EG qD qD qK ?_;intro bh wh Nh;have Fh:=Nh.ge E;have Oh_bd:=Nh.lt Bd;have Oh_bo:=Nh.lt Bo;have Oh_b1:=Nh.lt ae;have Oh_be:=Nh.lt Be;have Oh_bf:=Nh.lt Bf;have Oh_g:=Nh.lt hG;replace Bd:=Nh.keep Bd;replace Bo:=Nh.keep Bo;replace ae:=Nh.keep ae;replace Be:=Nh.keep Be;replace Bf:=Nh.keep Bf;replace hG:=Nh.keep hG;replace E:=E.ext Nh.ext;have Bh:=Nh.blk;refine qV (BU (ps:=[(1,(.slice (some ⟨be,0,none⟩) 1 1)),(2,(.slice (some ⟨bh,0,none⟩) 1 1))]) (v:=(.agg #[(I6 0),(.slice (some ⟨be,0,none⟩) 1 1),(.slice (some ⟨bh,0,none⟩) 1 1)])) rfl qK) (Al (b:=bo) (o:=0) (c':=#[(I6 0),(.slice (some ⟨be,0,none⟩) 1 1),(.slice (some ⟨bh,0,none⟩) 1 1)]) rfl rfl qS Ap rfl Bo qL rfl ?_);intro w2 S2;replace Bd:=S2.keep qO Bd;replace ae:=S2.keep qO ae;replace Be:=S2.keep qO Be;replace Bf:=S2.keep qO Bf;replace hG:=S2.keep qO hG;replace Bh:=S2.keep qO Bh;replace E:=S2.step E qQ;replace Bo:=S2.blk;refine AA (AS (AO (Cp results162 (vs:=[(.int .i64 0),(.slice (some ⟨be,0,none⟩) 1 1),(.slice (some ⟨bh,0,none⟩) 1 1)]) (b:=bo) rfl BC Ap rfl (Bo.cells rfl) ?_)));exact ⟨⟨⟨0,[-1],[List.replicate c (-1)]⟩,_,Pb ok dy,by show 1≤n;omega,fun x hx=>by rw[List.mem_singleton] at hx;rw[hx];decide,rfl,fun M w' ch hM=>TG (ch.keep (Mh hM qO Be qD) Be) (ch.keep (Mh hM qO Bh qD) Bh) (ch.keep (Mh hM qO hG qD) hG) qO⟩,E⟩
 ·have b5:0≤Ck p d.start:=qO
  refine AK (AB (Y (BO (c:=#[(I6 0),(.slice none 0 0),(.slice none 0 0)]) qD CU rfl ?_)));intro br wr Nr;have Fr:=Nr.ge E;have Or_bd:=Nr.lt Bd;have Or_bo:=Nr.lt Bo;have Or_b1:=Nr.lt ae;replace Bd:=Nr.keep Bd;replace Bo:=Nr.keep Bo;replace ae:=Nr.keep ae;replace E:=E.ext Nr.ext;have Br:=Nr.blk;refine AA (Y (Eg DJ DJ qD ?_));intro bm wm Nm;have Fm:=Nm.ge E;have Om_bd:=Nm.lt Bd;have Om_bo:=Nm.lt Bo;have Om_b1:=Nm.lt ae;have Om_br:=Nm.lt Br;replace Bd:=Nm.keep Bd;replace Bo:=Nm.keep Bo;replace ae:=Nm.keep ae;replace Br:=Nm.keep Br;replace E:=E.ext Nm.ext;intro Mm;refine qM (.slice (some ⟨b1,0,none⟩) n n) rfl (qF bd 0 0 rfl underlying52 rfl Ab rfl (qV (AD (v:=(I6 d.start)) rfl Aa (Bd.cell rfl)) (qV (AC (b:=b1) (o:=0) (len:=n) (cap:=n) (i:=s0) (o':=0+s0) rfl rfl qO underlying22 Ab qO qO) (qV (AD (v:=(I6 (Ck p d.start))) rfl Aa (by rw[ee];exact Ev ae eu)) (HB (k:=(Ck p d.start)) (v:=0) underlying199 (JK underlying3) Mm rfl rfl rfl ?_)))));intro w3 S3 H3;replace Bd:=S3.keep qO Bd;replace Bo:=S3.keep qO Bo;replace ae:=S3.keep qO ae;replace Br:=S3.keep qO Br;replace E:=S3.step E qQ;replace Mm:=H3;refine qM (.map (some bm)) rfl (qA (.map (some bm)) rfl (AA (Y (qF bd 0 0 rfl underlying52 rfl Ab rfl (qV (AD (v:=(I6 d.start)) rfl Aa (Bd.cell rfl)) (Ad (ps:=[(0,(I6 d.start))]) (c:=#[(I6 d.start)]) qD rfl underlying22 Ab CW qD qD qK ?_))))));intro bs ws Ns;have Fs:=Ns.ge E;have Os_bd:=Ns.lt Bd;have Os_bo:=Ns.lt Bo;have Os_b1:=Ns.lt ae;have Os_br:=Ns.lt Br;have Os_bm:=Ns.ltM Mm;replace Bd:=Ns.keep Bd;replace Bo:=Ns.keep Bo;replace ae:=Ns.keep ae;replace Br:=Ns.keep Br;replace Mm:=Ns.keepM Mm;replace E:=E.ext Ns.ext;have Bs:=Ns.blk;refine qA (.slice (some ⟨bs,0,none⟩) 1 1) rfl (AA (AE (Y (qA (I6 0) rfl (AA (AM ?_))))));obtain ⟨n1,fp⟩:∃n1,n1=bs:=⟨_,rfl⟩;have fv:bs<ws.heap.size:=Bs.lt;have fh:=KN (base:=n1) Bs qO;have f7:=CanP.start (c:=c) c5 b5;refine Am (fun nn_ σ W4=>∃(i:Nat) (ag:List (List Int)) (st aq:List Int) (vs:List Value) (sa ea aj:Option Addr) (ah sn ec am:Nat),(∃jj_,σ=BQ jj_ [(1,(P6 bd 0)),(2,(P6 bo 0)),(3,(.slice (some ⟨b1,0,none⟩) n n)),(4,(I6 (c:Int))),(5,(P6 br 0)),(6,(.map (some bm))),(8,(I6 (i:Int))),(7,(.slice sa sn ah))])∧Chg AZ w0 W4∧Az W4 bd #[(I6 d.start),(.slice (some ⟨ab,ao,none⟩) n ac),(.slice (some ⟨nb,no,none⟩) n nc)] 52∧Az W4 bo #[(I6 0),(.slice none 0 0),(.slice none 0 0)] 52∧Az W4 b1 ((p.map (Value.int .i64)).toArray) 3∧Az W4 br (#[Value.int .i64 0,.slice ea i ec,.slice aj i am]) 52∧BZ W4 bm DJ DJ (Cv (st.map (Ck p)) 0)∧(CanP n c d p ag [] st)∧(ag.length=i)∧(sn=st.length)∧(i≤sn)∧(aq=(st.take i).map (EX d))∧(W4.ownsRow n1 DP 1 (.slice sa sn ah) sn (st.map (Value.int .i64)))∧(OutSt W4 n1 (.slice ea i ec) (.slice aj i am) vs aq ag)∧(∀b,(Value.slice sa sn ah).ownBlock=some b→¬Ek (.slice ea i ec) (.slice aj i am) vs b)∧(n1≤W4.heap.size)∧nn_=n - i) (n:=n - 0) ?_ ?_
  ·exact ⟨0,[],[d.start],[],[],some ⟨bs,0,none⟩,none,none,1,1,0,0,Af.out ⟨rfl,rfl,rfl,rfl,rfl,rfl,rfl,rfl,trivial⟩,E,Bd,Bo,ae,Br,Mm,f7,rfl,rfl,qO,rfl,fh,OutSt.start _ _,(fun b _ h=>by rcases h with h|h|⟨i,v,h,_⟩;cases h;cases h;simp at h),qO,rfl⟩
  ·clear E Bd Bo ae Br Mm;rintro _ _ W4 ⟨i,ag,st,aq,vs,sa,ea,aj,ah,sn,ec,am,⟨j4,rfl⟩,E,Bd,Bo,ae,Br,Mm,hC,cx,bn,gd,bp,hS,hO,az,au,rfl⟩;refine AE (Y (qM (I6 (i:Int)) rfl (qM (.slice sa sn ah) rfl (qV (AH (ad:=sa) (n:=sn) (cap:=ah) underlying22 rfl) (qV (Av (k:=.i64) (a:=(i:Int)) (b:=(sn:Int)) rfl rfl) (AA (qC rfl (fun e9=>?_) (fun e9=>?_))))))))
   ·obtain ⟨s,av⟩:=AL (l:=st) (i:=i) qO;obtain ⟨dc,f9,f1⟩:=hC.sl s (List.mem_of_getElem? av);obtain ⟨sN,em⟩:=Int.eq_ofNat_of_zero_le dc;obtain ⟨row,ra,rc,a4,du,cq,ff⟩:=bk sN qO;have hle:=hC.st_le;have db:((ag.length:Nat):Int)≤G8 ag.flatten:=by have:=hC.mx;rw[List.append_nil] at this;omega
    obtain ⟨sb,rfl,fd,cn⟩:=Bj hS qO;obtain ⟨z0,hz0⟩:∃z0,z0=(W4).heap.size:=⟨_,rfl⟩;have hnz:n1≤z0:=qO
    have cd:∀b,Ek (.slice ea i ec) (.slice aj i am) vs b→b<z0:=fun b hb=>by have:=(hO.lt hb).2;omega
    have fi:∀b,(Value.slice (some ⟨sb,0,none⟩) sn ah).ownBlock=some b→b<z0:=fun b hb=>by have:=(hS.lt b hb).2;omega
    refine AK (AB (AE (AM (Y (qM (I6 (c:Int)) rfl (E8 (n:=c) (z:=(I6 0)) (bytes:=8) qD underlying22 Ab GO CW rfl rfl rfl qO qO ?_))))));intro bq wq Nq;have Fq:=Nq.ge E;have Oq_bd:=Nq.lt Bd;have Oq_bo:=Nq.lt Bo;have Oq_b1:=Nq.lt ae;have Oq_br:=Nq.lt Br;have Oq_bm:=Nq.ltM Mm;replace Bd:=Nq.keep Bd;replace Bo:=Nq.keep Bo;replace ae:=Nq.keep ae;replace Br:=Nq.keep Br;replace Mm:=Nq.keepM Mm;replace hS:=Aj hS Nq.ext;replace hO:=hO.ext Nq.ext;replace au:=Nat.le_trans au Nq.ext.size;replace cn:=cn.ext Nq.ext;replace E:=E.ext Nq.ext;have Bq:=Nq.blk;refine qA (.slice (some ⟨bq,0,none⟩) c c) rfl (AA (AE (AE ?_)));obtain ⟨f2,ak⟩:∃Fs:List Fact,Fs=[.eq (P6 bd 2),.eq (.slice (some ⟨nb,no,none⟩) n nc),.eq (.slice (some ⟨sb,0,none⟩) sn ah),.eq (I6 (i:Int)),.eq (.pointer (some ⟨sb,0+i,none⟩)),.eq (I6 s),.eq (.pointer (some ⟨nb,no+sN,none⟩)),.eq (.slice ra c rc),.eq (I6 (c:Int)),.eq (I6 0)]:=⟨_,rfl⟩;refine LC [51,52,53,54,55,56,57,58,59,60] [[],[0],[],[],[2,3],[4],[1,5],[6],[7],[]] f2 ak mixed qK qK ?_ ?_
    ·intro wd X0;refine DagSteps.cons (fun s' w' X U H=>Or.inl ⟨?_,?_⟩) ?_
     ·exact AQ rfl
     ·exact A1 (AN (b:=bd) (o:=0) (o':=2) (U 1 rfl) underlying52 rfl CB rfl) (Ao.refl _) rfl
     refine DagSteps.cons (fun s' w' X U H=>Or.inl ⟨?_,?_⟩) ?_
     ·exact AQ rfl
     ·have e8:s' 51=(.pointer (some ⟨bd,2,none⟩)):=H 0 rfl 51 (.eq (.pointer (some ⟨bd,2,none⟩))) rfl (by rw[ak];rfl);exact A1 (AD (v:=(.slice (some ⟨nb,no,none⟩) n nc)) e8 B0 (((X0.trans X).keep Bd).cell rfl)) (Ao.refl _) rfl
     refine DagSteps.cons (fun s' w' X U H=>Or.inl ⟨?_,?_⟩) ?_
     ·exact AQ rfl
     ·exact A1 (Ah (v:=(.slice (some ⟨sb,0,none⟩) sn ah)) (U 7 rfl)) (Ao.refl _) rfl
     refine DagSteps.cons (fun s' w' X U H=>Or.inl ⟨?_,?_⟩) ?_
     ·exact AQ rfl
     ·exact A1 (Ah (v:=(I6 (i:Int))) (U 8 rfl)) (Ao.refl _) rfl
     refine DagSteps.cons (fun s' w' X U H=>Or.inl ⟨?_,?_⟩) ?_
     ·exact AQ rfl
     ·have e1:s' 53=(.slice (some ⟨sb,0,none⟩) sn ah):=H 2 rfl 53 (.eq (.slice (some ⟨sb,0,none⟩) sn ah)) rfl (by rw[ak];rfl);have e4:s' 54=(.int .i64 ((i:Nat):Int)):=H 3 rfl 54 (.eq (.int .i64 ((i:Nat):Int))) rfl (by rw[ak];rfl);exact A1 (AC (b:=sb) (o:=0) (len:=sn) (cap:=ah) (i:=i) (o':=0+i) e1 e4 rfl underlying22 Ab qO qO) (Ao.refl _) rfl
     refine DagSteps.cons (fun s' w' X U H=>Or.inl ⟨?_,?_⟩) ?_
     ·exact AQ rfl
     ·have gc:s' 55=(.pointer (some ⟨sb,0+i,none⟩)):=H 4 rfl 55 (.eq (.pointer (some ⟨sb,0+i,none⟩))) rfl (by rw[ak];rfl);exact A1 (AD (v:=(I6 s)) gc Aa ((X0.trans X).cell (cn i _ (by rw[List.getElem?_map,av];rfl)))) (Ao.refl _) rfl
     refine DagSteps.cons (fun s' w' X U H=>Or.inl ⟨?_,?_⟩) ?_
     ·exact AQ rfl
     ·have e2:s' 52=(.slice (some ⟨nb,no,none⟩) n nc):=H 1 rfl 52 (.eq (.slice (some ⟨nb,no,none⟩) n nc)) rfl (by rw[ak];rfl);have fb:s' 56=(.int .i64 s):=H 5 rfl 56 (.eq (.int .i64 s)) rfl (by rw[ak];rfl);exact A1 (AC (b:=nb) (o:=no) (len:=n) (cap:=nc) (i:=sN) (o':=no+sN) e2 fb qO underlying50 BG qO qO) (Ao.refl _) rfl
     refine DagSteps.cons (fun s' w' X U H=>Or.inl ⟨?_,?_⟩) ?_
     ·exact AQ rfl
     ·have e3:s' 57=(.pointer (some ⟨nb,no+sN,none⟩)):=H 6 rfl 57 (.eq (.pointer (some ⟨nb,no+sN,none⟩))) rfl (by rw[ak];rfl);exact A1 (AD (v:=(.slice ra c rc)) e3 BX ((Chg.ext E (X0.trans X)).cell (fun f=>f) cq)) (Ao.refl _) rfl
     refine DagSteps.cons (fun s' w' X U H=>Or.inl ⟨?_,?_⟩) ?_
     ·exact AQ rfl
     ·have f3:s' 58=(.slice ra c rc):=H 7 rfl 58 (.eq (.slice ra c rc)) rfl (by rw[ak];rfl);exact A1 (AH (ad:=ra) (n:=c) (cap:=rc) underlying22 f3) (Ao.refl _) rfl
     refine DagSteps.cons (fun s' w' X U H=>Or.inl ⟨?_,?_⟩) ?_
     ·exact AQ rfl
     ·exact A1 (Ah (v:=(I6 0)) rfl) (Ao.refl _) rfl
     exact DagSteps.nil
    ·intro s' w6 X6 U H;obtain ⟨j6,rfl⟩:=Af.out (σ:=s') (l:=[(1,(.pointer (some ⟨bd,0,none⟩))),(2,(.pointer (some ⟨bo,0,none⟩))),(3,(.slice (some ⟨b1,0,none⟩) n n)),(4,(.int .i64 ((c:Nat):Int))),(5,(.pointer (some ⟨br,0,none⟩))),(6,(.map (some bm))),(7,(.slice (some ⟨sb,0,none⟩) sn ah)),(8,(.int .i64 ((i:Nat):Int))),(9,(.slice (some ⟨bq,0,none⟩) c c)),(58,(.slice ra c rc)),(59,(.int .i64 ((c:Nat):Int))),(60,(.int .i64 0))]) ⟨U 1 rfl,U 2 rfl,U 3 rfl,U 4 rfl,U 5 rfl,U 6 rfl,U 7 rfl,U 8 rfl,U 9 rfl,(show s' 58=(.slice ra c rc) from H 7 58 (.eq (.slice ra c rc)) rfl (by rw[ak];rfl)),(show s' 59=(.int .i64 ((c:Nat):Int)) from H 8 59 (.eq (.int .i64 ((c:Nat):Int))) rfl (by rw[ak];rfl)),(show s' 60=(.int .i64 0) from H 9 60 (.eq (.int .i64 0)) rfl (by rw[ak];rfl)),trivial⟩;clear U H;replace Bd:=X6.keep Bd;replace Bo:=X6.keep Bo;replace ae:=X6.keep ae;replace Br:=X6.keep Br;replace Mm:=X6.keepM Mm;replace Bq:=X6.keep Bq;replace hS:=Aj hS X6;replace hO:=hO.ext X6;replace au:=Nat.le_trans au X6.size;replace cn:=cn.ext X6;replace E:=E.ext X6;have hqz:z0≤bq:=by have:=Nq.eq;omega
     rw[show List.replicate c (Value.int .i64 0)=(List.replicate c (0:Int)).map (Value.int .i64) by simp] at Bq;refine AB (AM (Am (fun nn_ σ W7=>∃(x:Nat) (R:List Int) (st:List Int) (sa:Option Addr) (ah sn:Nat),(∃jj_,σ=BQ jj_ [(1,(P6 bd 0)),(2,(P6 bo 0)),(3,(.slice (some ⟨b1,0,none⟩) n n)),(4,(I6 (c:Int))),(5,(P6 br 0)),(6,(.map (some bm))),(8,(I6 (i:Int))),(9,(.slice (some ⟨bq,0,none⟩) c c)),(58,(.slice ra c rc)),(59,(I6 (c:Int))),(60,(I6 (x:Int))),(7,(.slice sa sn ah))])∧Chg AZ w0 W7∧Az W7 bd #[(I6 d.start),(.slice (some ⟨ab,ao,none⟩) n ac),(.slice (some ⟨nb,no,none⟩) n nc)] 52∧Az W7 bo #[(I6 0),(.slice none 0 0),(.slice none 0 0)] 52∧Az W7 b1 ((p.map (Value.int .i64)).toArray) 3∧Az W7 br (#[Value.int .i64 0,.slice ea i ec,.slice aj i am]) 52∧BZ W7 bm DJ DJ (Cv (st.map (Ck p)) 0)∧Az W7 bq ((R.map (Value.int .i64)).toArray) 3∧(x≤c)∧(R.length=c)∧(CanP n c d p ag (R.take x) st)∧(st[i]?=some s)∧(sn=st.length)∧((st.take i).map (EX d)=aq)∧(W7.ownsRow n1 DP 1 (.slice sa sn ah) sn (st.map (Value.int .i64)))∧(OutSt W7 n1 (.slice ea i ec) (.slice aj i am) vs aq ag)∧(∀b,(Value.slice sa sn ah).ownBlock=some b→¬Ek (.slice ea i ec) (.slice aj i am) vs b∧b≠bq)∧(n1≤W7.heap.size)∧nn_=c - x) (n:=c - 0) ?_ ?_))
     ·exact ⟨0,List.replicate c 0,st,some ⟨sb,0,none⟩,ah,sn,Af.out ⟨rfl,rfl,rfl,rfl,rfl,rfl,rfl,rfl,rfl,rfl,rfl,rfl,trivial⟩,E,Bd,Bo,ae,Br,Mm,Bq,Nat.zero_le _,qP,(by simpa using hC),av,bn,bp.symm,hS,hO,(fun b hb=>⟨az b hb,fun e=>by have:=fi b hb;omega⟩),au,rfl⟩
     ·clear E Bd Bo ae Br Mm Bq;rintro _ _ W7 ⟨x,R,st,sa,ah,sn,⟨j7,rfl⟩,E,Bd,Bo,ae,Br,Mm,Bq,hx,b8,hC,av,bn,cb,hS,hO,az,au,rfl⟩;refine Y (qV (Av (k:=.i64) (a:=(x:Int)) (b:=(c:Int)) rfl rfl) (AA (AE (qC rfl (fun dm=>?_) (fun dm=>?_)))))
      ·obtain ⟨t,ht⟩:=AL (l:=row) (i:=x) qO;obtain ⟨rb,ro,rfl,f0⟩:=BF (n:=c) ff qO;obtain ⟨cr,_,_,hxl,hxh⟩:=MR ok a4 ht;rw[←em] at cr;have bc:(R.take x).length=x:=by simp;omega
       have cz:st[ag.length]?=some s:=by rw[cx];exact av
       have eb:=CX (L:=R) (s:=x) (x:=-1) qO;refine AK (AB (AE (AM (Y (qM (I6 (x:Int)) rfl (qV (AC (b:=rb) (o:=ro) (len:=c) (cap:=rc) (i:=x) (o':=ro+x) rfl rfl rfl underlying22 Ab qO qO) (qV (AD (v:=(I6 t)) rfl Aa (E.cell (fun f=>f) (f0 x t ht))) (qA (I6 (x:Int)) rfl (qA (I6 t) rfl (AA (AE (Y (qM (.slice (some ⟨bq,0,none⟩) c c) rfl (qM (I6 (x:Int)) rfl (qV (AC (b:=bq) (o:=0) (len:=c) (cap:=c) (i:=x) (o':=0+x) rfl rfl rfl underlying22 Ab qO qO) (BB (b:=bq) (o:=0+x) (c':=((R.set x (-1)).map (Value.int .i64)).toArray) (v:=(I6 (-1))) rfl rfl rfl Ab Bq (by simp;omega) (C7 _) ?_))))))))))))))));intro w9 S9;replace hS:=Ax hS S9.chg fun b hb h=>(az b hb).2 h;replace hO:=hO.chg S9.chg fun b hb h=>by have:=cd b hb;have h':b=bq:=h;omega
       replace au:=Nat.le_trans au S9.chg.size;replace Bd:=S9.keep qO Bd;replace Bo:=S9.keep qO Bo;replace ae:=S9.keep qO ae;replace Br:=S9.keep qO Br;replace Mm:=S9.keepM qO Mm;replace E:=S9.step E qQ;replace Bq:=S9.blk;refine AA (Y (qM (I6 t) rfl (qV (Av (k:=.i64) (a:=t) (b:=0) rfl rfl) (qM (.bool (decide ((t:Int)<0))) rfl ?_))));rcases Bool.eq_false_or_eq_true (decide ((t:Int)<0)) with ai|ai
       ·have an:=ai;replace an:=of_decide_eq_true an;have d1:NC d p st s (R.take x).length (-1):=.inl ⟨rfl,by rw[bc,cr,Mb an];decide⟩;refine AJ (oj:=_) rfl rfl qD (v:=.bool true) (Aw ai) (Or.inl rfl) (AJ (oj:=_) rfl rfl qD (v:=.bool true) (Aw ai) (Or.inl rfl) (AJ (oj:=_) rfl rfl qD (v:=.bool true) (Aw ai) (Or.inl rfl) (AJ (oj:=_) rfl rfl qD (v:=.bool true) (Aw ai) (Or.inl rfl) (AJ (oj:=_) rfl rfl qD (v:=.bool true) (Aw ai) (Or.inl rfl) (qV (Ac (b:=decide ((t:Int)<0)) (v:=(.bool true)) rfl (by rw[ai];rfl)) (AA (A4 rfl (Ak (AR (Ae (AB (AG (qV (Aq (k:=.i64) (a:=(x:Int)) (b:=1) (c:=(x:Int)+1) rfl rfl (A2 qO)) (qM (I6 ((x:Int)+1)) rfl (AA (AB ?_))))))))))))))));exact ⟨c - (x+1),qO,x+1,R.set x (-1),st,sa,ah,sn,Af.out ⟨rfl,rfl,rfl,rfl,rfl,rfl,rfl,rfl,rfl,rfl,rfl,rfl,trivial⟩,E,Bd,Bo,ae,Br,Mm,Bq,qO,(by simp[b8]),(by rw[eb];exact hC.add cz d1),av,bn,cb,hS,hO,az,au,rfl⟩
       ·have an:=ai;replace an:=of_decide_eq_false an;obtain ⟨tN,dg⟩:=Int.eq_ofNat_of_zero_le (show 0≤t by omega);have dn:=Nj cy.len (show tN<n by omega);refine AF (oj:=_) rfl rfl qD (Aw ai) (qM (.slice (some ⟨b1,0,none⟩) n n) rfl (AF (oj:=_) rfl rfl qD (Aw ai) (qM (I6 t) rfl (AF (oj:=_) rfl rfl qD (Aw ai) (qV (AC (b:=b1) (o:=0) (len:=n) (cap:=n) (i:=tN) (o':=0+tN) rfl rfl qO underlying22 Ab qO qO) (AF (oj:=_) rfl rfl qD (Aw ai) (qV (AD (v:=(I6 (Ck p t))) rfl Aa (by rw[dg];exact Ev ae dn)) (AF (oj:=_) rfl rfl qD (Aw ai) (qV (Av (k:=.i64) (a:=Ck p t) (b:=0) rfl rfl) (qV (Ac (b:=decide ((t:Int)<0)) (v:=(.bool (decide ((Ck p t:Int)<0)))) rfl (by rw[ai];rfl)) (AA (qC rfl (fun fa=>?_) (fun fa=>?_)))))))))))))
        ·have d1:NC d p st s (R.take x).length (-1):=.inl ⟨rfl,by rw[bc,cr];omega⟩;refine Ak (AR (Ae (AB (AG (qV (Aq (k:=.i64) (a:=(x:Int)) (b:=1) (c:=(x:Int)+1) rfl rfl (A2 qO)) (qM (I6 ((x:Int)+1)) rfl (AA (AB ?_))))))));exact ⟨c - (x+1),qO,x+1,R.set x (-1),st,sa,ah,sn,Af.out ⟨rfl,rfl,rfl,rfl,rfl,rfl,rfl,rfl,rfl,rfl,rfl,rfl,trivial⟩,E,Bd,Bo,ae,Br,Mm,Bq,qO,(by simp[b8]),(by rw[eb];exact hC.add cz d1),av,bn,cb,hS,hO,az,au,rfl⟩
        ·refine AK (AB (Y (qM (.map (some bm)) rfl (qM (.slice (some ⟨b1,0,none⟩) n n) rfl (qM (I6 t) rfl (qV (AC (b:=b1) (o:=0) (len:=n) (cap:=n) (i:=tN) (o':=0+tN) rfl rfl qO underlying22 Ab qO qO) (qV (AD (v:=(I6 (Ck p t))) rfl Aa (by rw[dg];exact Ev ae dn)) (B_ (v:=(.tuple #[(I6 ((A_ (Cv (st.map (Ck p)) 0) (Ck p t)).getD 0)),(.bool ((A_ (Cv (st.map (Ck p)) 0) (Ck p t)).isSome))])) rfl rfl qD (FL (k:=(Ck p t)) (z:=0) underlying199 (JK underlying3) CW Mm rfl rfl) (qM (.tuple #[(I6 ((A_ (Cv (st.map (Ck p)) 0) (Ck p t)).getD 0)),(.bool ((A_ (Cv (st.map (Ck p)) 0) (Ck p t)).isSome))]) rfl (qV (Ai (vs:=#[(I6 ((A_ (Cv (st.map (Ck p)) 0) (Ck p t)).getD 0)),(.bool ((A_ (Cv (st.map (Ck p)) 0) (Ck p t)).isSome))]) (v:=(I6 ((A_ (Cv (st.map (Ck p)) 0) (Ck p t)).getD 0))) rfl rfl) (qV (Ai (vs:=#[(I6 ((A_ (Cv (st.map (Ck p)) 0) (Ck p t)).getD 0)),(.bool ((A_ (Cv (st.map (Ck p)) 0) (Ck p t)).isSome))]) (v:=(.bool ((A_ (Cv (st.map (Ck p)) 0) (Ck p t)).isSome))) rfl rfl) (qA (I6 ((A_ (Cv (st.map (Ck p)) 0) (Ck p t)).getD 0)) rfl (qA (.bool ((A_ (Cv (st.map (Ck p)) 0) (Ck p t)).isSome)) rfl (AA (GR (fun σ a3=>∃(bt:List Int) (j:Nat) (cc:Option Addr) (ci b2:Nat),(∃jj_,σ=BQ jj_ [(1,(P6 bd 0)),(2,(P6 bo 0)),(3,(.slice (some ⟨b1,0,none⟩) n n)),(4,(I6 (c:Int))),(5,(P6 br 0)),(6,(.map (some bm))),(8,(I6 (i:Int))),(9,(.slice (some ⟨bq,0,none⟩) c c)),(10,(I6 (x:Int))),(58,(.slice (some ⟨rb,ro,none⟩) c rc)),(59,(I6 (c:Int))),(60,(I6 (x:Int))),(7,(.slice cc b2 ci)),(12,(I6 (j:Int)))])∧Chg AZ w0 a3∧Az a3 bd #[(I6 d.start),(.slice (some ⟨ab,ao,none⟩) n ac),(.slice (some ⟨nb,no,none⟩) n nc)] 52∧Az a3 bo #[(I6 0),(.slice none 0 0),(.slice none 0 0)] 52∧Az a3 b1 ((p.map (Value.int .i64)).toArray) 3∧Az a3 br (#[Value.int .i64 0,.slice ea i ec,.slice aj i am]) 52∧BZ a3 bm DJ DJ (Cv (bt.map (Ck p)) 0)∧Az a3 bq (((R.set x (-1)).map (Value.int .i64)).toArray) 3∧(CanP n c d p ag (R.take x++[(j:Int)]) bt)∧(bt[i]?=some s)∧(b2=bt.length)∧((bt.take i).map (EX d)=aq)∧(a3.ownsRow n1 DP 1 (.slice cc b2 ci) b2 (bt.map (Value.int .i64)))∧(OutSt a3 n1 (.slice ea i ec) (.slice aj i am) vs aq ag)∧(∀b,(Value.slice cc b2 ci).ownBlock=some b→¬Ek (.slice ea i ec) (.slice aj i am) vs b∧b≠bq)∧(n1≤a3.heap.size)) ?_ ?_)))))))))))))))
         ·skip
          refine Y (qM (.bool ((A_ (Cv (st.map (Ck p)) 0) (Ck p t)).isSome)) rfl (qV (Cj (b:=(A_ (Cv (st.map (Ck p)) 0) (Ck p t)).isSome) rfl) (AA (A3 (b:=!((A_ (Cv (st.map (Ck p)) 0) (Ck p t)).isSome)) rfl (fun ap=>?_) (fun ap=>?_)))))
          ·have ce:=ap;replace ap:=by simpa using ap
           have fm:A_ (Cv (st.map (Ck p)) 0) (Ck p t)=none:=by simpa using ap
           obtain ⟨dh,dd⟩:=PN fm;have bb:BN d s (R.take x).length=t:=by rw[bc,cr]
           have fn:=hC.st_le;refine Y (qM (.slice sa sn ah) rfl (qV (AH (ad:=sa) (n:=sn) (cap:=ah) underlying22 rfl) (qA (I6 (sn:Int)) rfl (AA (Y (qM (.map (some bm)) rfl (qM (.slice (some ⟨b1,0,none⟩) n n) rfl (qM (I6 t) rfl (qV (AC (b:=b1) (o:=0) (len:=n) (cap:=n) (i:=tN) (o':=0+tN) rfl rfl qO underlying22 Ab qO qO) (qV (AD (v:=(I6 (Ck p t))) rfl Aa (by rw[dg];exact Ev ae dn)) (qM (I6 (sn:Int)) rfl (DM (k:=(Ck p t)) (v:=(sn:Int)) underlying199 (JK underlying3) Mm rfl rfl rfl ?_))))))))))));intro w14 bg fr;replace hS:=Ax hS bg.chg fun b hb h=>by have:=(hS.lt b hb).1;have h':b=bm:=h;omega
           replace hO:=hO.chg bg.chg fun b hb h=>by have:=(hO.lt hb).1;have h':b=bm:=h;omega
           replace au:=Nat.le_trans au bg.chg.size;replace Bd:=bg.keep qO Bd;replace Bo:=bg.keep qO Bo;replace ae:=bg.keep qO ae;replace Br:=bg.keep qO Br;replace Bq:=bg.keep qO Bq;replace E:=bg.step E qQ;replace Mm:=fr;refine AA (AG (qM (.slice sa sn ah) rfl (qM (I6 t) rfl (Ad (ps:=[(0,(I6 t))]) (c:=#[(I6 t)]) qD rfl underlying22 Ab CW qD qD qK ?_))));intro b15 w15 ar;have F15:=ar.ge E;have O15_bd:=ar.lt Bd;have O15_bo:=ar.lt Bo;have O15_b1:=ar.lt ae;have O15_br:=ar.lt Br;have O15_bm:=ar.ltM Mm;have O15_bq:=ar.lt Bq;replace Bd:=ar.keep Bd;replace Bo:=ar.keep Bo;replace ae:=ar.keep ae;replace Br:=ar.keep Br;replace Mm:=ar.keepM Mm;replace Bq:=ar.keep Bq;replace hS:=Aj hS ar.ext;replace hO:=hO.ext ar.ext;replace au:=Nat.le_trans au ar.ext.size;replace E:=E.ext ar.ext;have fw:=ar.blk;have c9:=Bq.lt;refine BT (base:=n1) (n:=sn) (m:=1) (xs:=(st.map (Value.int .i64))) (news:=[(I6 t)]) (size:=1) (bytes:=8) (v:=(.slice sa sn ah)) qD underlying22 Ab GO CW rfl qD rfl hS rfl (rfl) (fw.cells rfl) qS (by unfold maxLen;omega) qO (au) ?_;intro v7 w59 d8 bi ft;replace Bd:=bi.keep (fun h=>by have:=(hS.lt _ h).1;omega) Bd;replace Bo:=bi.keep (fun h=>by have:=(hS.lt _ h).1;omega) Bo;replace ae:=bi.keep (fun h=>by have:=(hS.lt _ h).1;omega) ae;replace Br:=bi.keep (fun h=>by have:=(hS.lt _ h).1;omega) Br;replace Mm:=bi.keepM (fun h=>by have:=(hS.lt _ h).1;omega) Mm;replace Bq:=bi.keep (fun h=>(az _ h).2 rfl) Bq;replace E:=E.step bi (fun x hx h=>absurd (hS.lt x h).1 qO);obtain ⟨es,d7,rfl⟩:=A9 d8;rw[bn,show ((st.length:Nat):Int)=(((st.map (Ck p)).length:Nat):Int) by rw[List.length_map],dd,show st.map (Ck p)++[Ck p t]=(st++[t]).map (Ck p) by simp] at Mm;refine qA (.slice es (sn+1) d7) rfl (AA (AB ?_));exact ⟨st++[t],sn,es,d7,sn+1,Af.out ⟨rfl,rfl,rfl,rfl,rfl,rfl,rfl,rfl,rfl,rfl,rfl,rfl,rfl,rfl,trivial⟩,E,Bd,Bo,ae,Br,Mm,Bq,(by rw[bn];have h9:=hC.new cz (by rw[bb];omega) (by rw[bb];omega) (fun u hu he=>dh (by rw[←bb,←he];exact List.mem_map.2 ⟨u,hu,rfl⟩));rw[bb] at h9;exact h9),(by rw[List.getElem?_append_left (AI av)];exact av),(by simp;omega),(by rw[List.take_append_of_le_length (by have:=AI av;omega)];exact cb),(by rw[List.map_append];exact d8),hO.chg bi (fun b hb h=>(az b h).1 hb),(fun b hb=>by rcases ft b hb with h9|h9;exact az b h9;exact ⟨fun ho=>by have:=(hO.lt ho).2;omega,fun e=>qO⟩),Nat.le_trans au bi.size⟩
          ·have ce:=ap;replace ap:=by simpa using ap
           have e0:(A_ (Cv (st.map (Ck p)) 0) (Ck p t)).isSome=true:=by simpa using ap
           obtain ⟨v9,ef⟩:=Option.isSome_iff_exists.1 e0;obtain ⟨j9,rfl,ep⟩:=Q2 ef;rw[List.getElem?_map] at ep;obtain ⟨u,hu,ei⟩:=Option.map_eq_some_iff.1 ep;rw[show (A_ (Cv (st.map (Ck p)) 0) (Ck p t)).getD 0=((j9:Nat):Int) from by rw[ef];rfl];refine AK (AB ?_);exact ⟨st,j9,sa,ah,sn,Af.out ⟨rfl,rfl,rfl,rfl,rfl,rfl,rfl,rfl,rfl,rfl,rfl,rfl,rfl,rfl,trivial⟩,E,Bd,Bo,ae,Br,Mm,Bq,hC.add cz (.inr ⟨j9,u,rfl,hu,by rw[bc,cr,ei],by rw[ei];omega⟩),av,bn,cb,hS,hO,az,au⟩
         ·clear E Bd Bo ae Br Mm Bq;rintro _ a3 ⟨bt,j,cc,ci,b2,⟨j12,rfl⟩,E,Bd,Bo,ae,Br,Mm,Bq,fc,c1,c2,dj,d4,c8,cw,b0⟩;have c3:=CX (L:=R.set x (-1)) (s:=x) (x:=((j:Nat):Int)) (by simp;omega);refine AG (qM (.slice (some ⟨bq,0,none⟩) c c) rfl (qM (I6 (x:Int)) rfl (qM (I6 (j:Int)) rfl (qV (AC (b:=bq) (o:=0) (len:=c) (cap:=c) (i:=x) (o':=0+x) rfl rfl rfl underlying22 Ab qO qO) (BB (b:=bq) (o:=0+x) (c':=(((R.set x (-1)).set x (j:Int)).map (Value.int .i64)).toArray) (v:=(I6 (j:Int))) rfl rfl rfl Ab Bq (by simp;omega) (C7 _) ?_)))));intro w16 ba;replace d4:=Ax d4 ba.chg fun b hb h=>(cw b hb).2 h;replace c8:=c8.chg ba.chg fun b hb h=>by have:=cd b hb;have h':b=bq:=h;omega
          replace b0:=Nat.le_trans b0 ba.chg.size;replace Bd:=ba.keep qO Bd;replace Bo:=ba.keep qO Bo;replace ae:=ba.keep qO ae;replace Br:=ba.keep qO Br;replace Mm:=ba.keepM qO Mm;replace E:=ba.step E qQ;replace Bq:=ba.blk;refine AA (AP (AB (AG (qV (Aq (k:=.i64) (a:=(x:Int)) (b:=1) (c:=(x:Int)+1) rfl rfl (A2 qO)) (qM (I6 ((x:Int)+1)) rfl (AA (AB ?_)))))));exact ⟨c - (x+1),qO,x+1,(R.set x (-1)).set x ((j:Nat):Int),bt,cc,ci,b2,Af.out ⟨rfl,rfl,rfl,rfl,rfl,rfl,rfl,rfl,rfl,rfl,rfl,rfl,trivial⟩,E,Bd,Bo,ae,Br,Mm,Bq,qO,(by simp[b8]),(by rw[c3,List.take_set_of_le (Nat.le_refl x)];exact fc),c1,c2,dj,d4,c8,cw,b0,rfl⟩
      ·have ex:x=c:=qO
       rw[ex,show R.take c=R by rw[←b8,List.take_length]] at hC;obtain ⟨n4,er⟩:∃n4,n4=(W7).heap.size:=⟨_,rfl⟩;obtain ⟨b7,rfl,_,dl⟩:=Bj hS (by have:=AI av;omega);have cg:aq.length=i:=by rw[←cb,List.length_map,List.length_take];have:=AI av;omega
       have ay:(W7).ownsRow n1 DP 1 (.slice ea i ec) i (aq.map (Value.int .i64)):=by have h9:=hO.e;rwa [cg] at h9
       have a0:(W7).ownsRow n1 Co 1 (.slice aj i am) i vs:=hO.n.on (by rw[List.length_map];omega);have gb:=hC.st_le;have fe:=AI av;have ek:=IK ok (show sN<n by omega);obtain ⟨yv,ew⟩:∃y,y=EX d s:=⟨_,rfl⟩;rw[←em,←ew] at ek;have c9:=Bq.lt;have ga:=GZ (base:=bq) Bq (Nat.le_refl _) b8;refine Ak (AR (AR (Ae (AB ?_))));obtain ⟨df,af⟩:∃Fs:List C1,Fs=[(fun _ v _=>v=(P6 br 2)),(fun _ v _=>v=(.slice aj i am)),(fun _ v _=>v=(.slice (some ⟨bq,0,none⟩) c c)),(fun _=>C0 Co #[.slice (some ⟨bq,0,none⟩) c c] n4),(fun _=>Cd n1 Co 1 (i+1) (vs++[Value.slice (some ⟨bq,0,none⟩) c c]) (.slice aj i am) n4),(fun _ v _=>v=(P6 br 1)),(fun _ v _=>v=(.slice ea i ec)),(fun _ v _=>v=(P6 bd 1)),(fun _ v _=>v=(.slice (some ⟨ab,ao,none⟩) n ac)),(fun _ v _=>v=(.slice (some ⟨b7,0,none⟩) sn ah)),(fun _ v _=>v=(I6 (i:Int))),(fun _ v _=>v=(.pointer (some ⟨b7,0+i,none⟩))),(fun _ v _=>v=(I6 s)),(fun _ v _=>v=(.pointer (some ⟨ab,ao+sN,none⟩))),(fun _ v _=>v=(I6 yv)),(fun _=>C0 DP #[.int .i64 yv] n4),(fun s v w=>Cd n1 DP 1 (i+1) (aq.map (Value.int .i64)++[Value.int .i64 yv]) (.slice ea i ec) n4 v w∧∀b,(s 109).ownBlock=some b→v.ownBlock≠some b),(fun _ v _=>v=(P6 br 2))]:=⟨_,rfl⟩;refine Hq (two 4 16 (fun b=>(Value.slice aj i am).ownBlock=some b) (fun b=>(Value.slice ea i ec).ownBlock=some b)) 18 [105,106,107,108,109,110,111,112,113,114,115,116,117,118,119,120,121,122] [[],[0],[],[2],[1,3],[],[5],[],[7],[],[],[9,10],[11],[8,12],[13],[14],[4,6,15],[0,1,2,3,4,5,6]] [[],[0],[],[2],[1,0,3,2],[],[5],[],[7],[],[],[9,10],[11,9,10],[8,7,12,11,9,10],[13,8,7,12,11,9,10],[14,13,8,7,12,11,9,10],[4,1,0,3,2,6,5,15,14,13,8,7,12,11,9,10],[0,1,2,3,4,5,6]] df af qK mixed qK qK qK ?_ ?_
       ·intro wd X0;refine DagStepsX.cons (A8.eq) (fun _ _ _ _ _ h=>h) (fun s' w' X U H=>?_) ?_
        ·exact AY (AN (b:=br) (o:=0) (o':=2) (U 5 rfl) underlying52 rfl CB rfl) (Chg.refl _ _) rfl
        refine DagStepsX.cons (A8.eq) (fun _ _ _ _ _ h=>h) (fun s' w' X U H=>?_) ?_
        ·have c0:=H 0 rfl 105 _ rfl (by rw[af];rfl);exact AY (AD (v:=(.slice aj i am)) c0 B0 ((Chg.keep X (fun h=>(fun h=>h.elim (fun h=>by have:=(a0.lt _ h).1;omega) (fun h=>by have:=(ay.lt _ h).1;omega)) (C5.or h)) (X0.keep Br)).cell rfl)) (Chg.refl _ _) rfl
        refine DagStepsX.cons (A8.eq) (fun _ _ _ _ _ h=>h) (fun s' w' X U H=>?_) ?_
        ·exact AY (Ah (v:=(.slice (some ⟨bq,0,none⟩) c c)) (U 9 rfl)) (Chg.refl _ _) rfl
        refine DagStepsX.cons (C6 (fun y h=>by have:=(a0.lt y h).2;omega) (fun y h=>by have:=(ay.lt y h).2;omega)) (F_.const) (fun s' w' X U H=>?_) ?_
        ·have dp:=H 2 rfl 107 _ rfl (by rw[af];rfl);exact Cq (hs:=n4) underlying50 BG EG dp qD qD qK (by have:=X0.size;have:=X.size;omega)
        refine DagStepsX.cons (HQ (fun k hk hm=>hk.elim (fun h=>hO.en k hm h) (fun h=>by have:=(ay.lt k hm).2;omega))) (F_.const) (fun s' w' X U H=>?_) ?_
        ·have dz:=H 1 rfl 106 _ rfl (by rw[af];rfl);obtain ⟨fu,d0,dx,f4⟩:=(show ((fun _=>C0 Co #[.slice (some ⟨bq,0,none⟩) c c] n4):C1) s' (s' 108) w' from H 3 rfl 108 ((fun _=>C0 Co #[.slice (some ⟨bq,0,none⟩) c c] n4)) rfl (by rw[af];rfl));exact CL (hs:=n4) underlying50 BG K6 EG rfl qD dz (Aj (Aj a0 X0) (X.mono (fun y _ h=>C5.none rfl rfl h))) d0 rfl (dx.cells rfl) qS (by unfold maxLen;omega) qO (by have:=X0.size;have:=X.size;omega) (fun y h=>h) (by have:=X0.size;have:=X.size;omega)
        refine DagStepsX.cons (A8.eq) (fun _ _ _ _ _ h=>h) (fun s' w' X U H=>?_) ?_
        ·exact AY (AN (b:=br) (o:=0) (o':=1) (U 5 rfl) underlying52 rfl BG rfl) (Chg.refl _ _) rfl
        refine DagStepsX.cons (A8.eq) (fun _ _ _ _ _ h=>h) (fun s' w' X U H=>?_) ?_
        ·have dq:=H 5 rfl 110 _ rfl (by rw[af];rfl);exact AY (AD (v:=(.slice ea i ec)) dq BX ((Chg.keep X (fun h=>(fun h=>h.elim (fun h=>by have:=(a0.lt _ h).1;omega) (fun h=>by have:=(ay.lt _ h).1;omega)) (C5.or h)) (X0.keep Br)).cell rfl)) (Chg.refl _ _) rfl
        refine DagStepsX.cons (A8.eq) (fun _ _ _ _ _ h=>h) (fun s' w' X U H=>?_) ?_
        ·exact AY (AN (b:=bd) (o:=0) (o':=1) (U 1 rfl) underlying52 rfl BG rfl) (Chg.refl _ _) rfl
        refine DagStepsX.cons (A8.eq) (fun _ _ _ _ _ h=>h) (fun s' w' X U H=>?_) ?_
        ·have di:=H 7 rfl 112 _ rfl (by rw[af];rfl);exact AY (AD (v:=(.slice (some ⟨ab,ao,none⟩) n ac)) di BX ((Chg.keep X (fun h=>(fun h=>h.elim (fun h=>by have:=(a0.lt _ h).1;omega) (fun h=>by have:=(ay.lt _ h).1;omega)) (C5.or h)) (X0.keep Bd)).cell rfl)) (Chg.refl _ _) rfl
        refine DagStepsX.cons (A8.eq) (fun _ _ _ _ _ h=>h) (fun s' w' X U H=>?_) ?_
        ·exact AY (Ah (v:=(.slice (some ⟨b7,0,none⟩) sn ah)) (U 7 rfl)) (Chg.refl _ _) rfl
        refine DagStepsX.cons (A8.eq) (fun _ _ _ _ _ h=>h) (fun s' w' X U H=>?_) ?_
        ·exact AY (Ah (v:=(I6 (i:Int))) (U 8 rfl)) (Chg.refl _ _) rfl
        refine DagStepsX.cons (A8.eq) (fun _ _ _ _ _ h=>h) (fun s' w' X U H=>?_) ?_
        ·have dt:=H 9 rfl 114 _ rfl (by rw[af];rfl);have c4:=H 10 rfl 115 _ rfl (by rw[af];rfl);exact AY (AC (b:=b7) (o:=0) (len:=sn) (cap:=ah) (i:=i) (o':=0+i) dt c4 rfl underlying22 Ab qO qO) (Chg.refl _ _) rfl
        refine DagStepsX.cons (A8.eq) (fun _ _ _ _ _ h=>h) (fun s' w' X U H=>?_) ?_
        ·have de:=H 11 rfl 116 _ rfl (by rw[af];rfl);exact AY (AD (v:=(I6 s)) de Aa (Chg.cell X (fun h=>(C5.or h).elim (fun h=>(az _ rfl).1 (.inr (.inl h))) (fun h=>(az _ rfl).1 (.inl h))) (X0.cell (dl i _ (by rw[List.getElem?_map,av];rfl))))) (Chg.refl _ _) rfl
        refine DagStepsX.cons (A8.eq) (fun _ _ _ _ _ h=>h) (fun s' w' X U H=>?_) ?_
        ·have d6:=H 8 rfl 113 _ rfl (by rw[af];rfl);have dk:=H 12 rfl 117 _ rfl (by rw[af];rfl);exact AY (AC (b:=ab) (o:=ao) (len:=n) (cap:=ac) (i:=sN) (o':=ao+sN) d6 dk qO underlying22 Ab qO qO) (Chg.refl _ _) rfl
        refine DagStepsX.cons (A8.eq) (fun _ _ _ _ _ h=>h) (fun s' w' X U H=>?_) ?_
        ·have c7:=H 13 rfl 118 _ rfl (by rw[af];rfl);exact AY (AD (v:=(I6 yv)) c7 Aa (Chg.cell X (fun h=>(C5.or h).elim (fun h=>by have:=(a0.lt ab h).1;omega) (fun h=>by have:=(ay.lt ab h).1;omega)) (X0.cell (E.cell (fun f=>f) (eg sN _ ek))))) (Chg.refl _ _) rfl
        refine DagStepsX.cons (C6 (fun y h=>by have:=(a0.lt y h).2;omega) (fun y h=>by have:=(ay.lt y h).2;omega)) (F_.const) (fun s' w' X U H=>?_) ?_
        ·have d3:=H 14 rfl 119 _ rfl (by rw[af];rfl);exact Cq (hs:=n4) underlying22 Ab CW d3 qD qD qK (by have:=X0.size;have:=X.size;omega)
        refine DagStepsX.cons (HP rfl) (fun s1 s2 h v w h2=>⟨h2.1,by have:=h 4 109 rfl rfl;rw[this];exact h2.2⟩) (fun s' w' X U H=>?_) ?_
        ·have d5:=H 6 rfl 111 _ rfl (by rw[af];rfl);obtain ⟨fq,ds,c6,fy⟩:=(show ((fun _=>C0 DP #[.int .i64 yv] n4):C1) s' (s' 120) w' from H 15 rfl 120 ((fun _=>C0 DP #[.int .i64 yv] n4)) rfl (by rw[af];rfl));exact Hp (H 4 rfl 109 _ rfl (by rw[af];rfl)) (CL (hs:=w'.heap.size) underlying22 Ab GO CW rfl qD d5 (Ax (Aj ay X0) (X.mono (fun y _ h=>C5.fst rfl h)) (fun k hk hm=>hO.en k hk hm)) ds rfl (c6.cells rfl) qS (by unfold maxLen;omega) qO (by have:=X0.size;have:=X.size;omega) (fun y h=>h) (Nat.le_refl _)) (by have:=X0.size;have:=X.size;omega) (fun k h1 h2=>h1.elim (fun h=>hO.en k h2 h) (fun h=>by have:=(ay.lt k h2).2;omega))
        refine DagStepsX.cons (A8.eq) (fun _ _ _ _ _ h=>h) (fun s' w' X U H=>?_) ?_
        ·exact AY (AN (b:=br) (o:=0) (o':=2) (U 5 rfl) underlying52 rfl CB rfl) (Chg.refl _ _) rfl
        exact DagStepsX.nil
       ·intro s' fk et X0 a8 U H;replace a8:=a8.mono (M':=fun y=>(fun b=>(Value.slice aj i am).ownBlock=some b) y∨(fun b=>(Value.slice ea i ec).ownBlock=some b) y) (fun y _ h=>by obtain ⟨j,h⟩:=h;rcases E5 h with h|h;exact .inl h.2;exact .inr h.2);obtain ⟨⟨ax,aw,cl⟩,cj,bu⟩:=(show ((fun _=>Cd n1 Co 1 (i+1) (vs++[Value.slice (some ⟨bq,0,none⟩) c c]) (.slice aj i am) n4):C1) s' (s' 109) et from H 4 109 ((fun _=>Cd n1 Co 1 (i+1) (vs++[Value.slice (some ⟨bq,0,none⟩) c c]) (.slice aj i am) n4)) rfl (by rw[af];rfl));obtain ⟨⟨⟨a1,a2,co⟩,cp,bx⟩,bz⟩:=(show ((fun s v w=>Cd n1 DP 1 (i+1) (aq.map (Value.int .i64)++[Value.int .i64 yv]) (.slice ea i ec) n4 v w∧∀b,(s 109).ownBlock=some b→v.ownBlock≠some b):C1) s' (s' 121) et from H 16 121 ((fun s v w=>Cd n1 DP 1 (i+1) (aq.map (Value.int .i64)++[Value.int .i64 yv]) (.slice ea i ec) n4 v w∧∀b,(s 109).ownBlock=some b→v.ownBlock≠some b)) rfl (by rw[af];rfl));have dr:s' 122=(.pointer (some ⟨br,2,none⟩)):=H 17 122 ((fun _ v _=>v=(.pointer (some ⟨br,2,none⟩)))) rfl (by rw[af];rfl);obtain ⟨j17,rfl⟩:=Af.out (σ:=s') (l:=[(1,(.pointer (some ⟨bd,0,none⟩))),(2,(.pointer (some ⟨bo,0,none⟩))),(3,(.slice (some ⟨b1,0,none⟩) n n)),(4,(.int .i64 ((c:Nat):Int))),(5,(.pointer (some ⟨br,0,none⟩))),(6,(.map (some bm))),(7,(.slice (some ⟨b7,0,none⟩) sn ah)),(8,(.int .i64 ((i:Nat):Int))),(109,(.slice ax (i+1) aw)),(121,(.slice a1 (i+1) a2)),(122,(.pointer (some ⟨br,2,none⟩)))]) ⟨U 1 rfl,U 2 rfl,U 3 rfl,U 4 rfl,U 5 rfl,U 6 rfl,U 7 rfl,U 8 rfl,cl,co,dr,trivial⟩;clear U H;replace Bd:=Chg.keep a8 (fun h=>h.elim (fun h=>by have:=(a0.lt _ h).1;omega) (fun h=>by have:=(ay.lt _ h).1;omega)) (X0.keep Bd);replace Bo:=Chg.keep a8 (fun h=>h.elim (fun h=>by have:=(a0.lt _ h).1;omega) (fun h=>by have:=(ay.lt _ h).1;omega)) (X0.keep Bo);replace ae:=Chg.keep a8 (fun h=>h.elim (fun h=>by have:=(a0.lt _ h).1;omega) (fun h=>by have:=(ay.lt _ h).1;omega)) (X0.keep ae);replace Br:=Chg.keep a8 (fun h=>h.elim (fun h=>by have:=(a0.lt _ h).1;omega) (fun h=>by have:=(ay.lt _ h).1;omega)) (X0.keep Br);replace Mm:=Chg.keepM a8 (fun h=>h.elim (fun h=>by have:=(a0.lt _ h).1;omega) (fun h=>by have:=(ay.lt _ h).1;omega)) (X0.keepM Mm);replace Bq:=Chg.keep a8 (fun h=>h.elim (fun h=>by have:=cd _ (.inr (.inl h));omega) (fun h=>by have:=cd _ (.inl h);omega)) (X0.keep Bq);have dw:=Chg.trans (Ao.chg X0) a8;replace E:=(E.ext X0).step a8 (fun y hy h=>h.elim (fun h=>by have:=(a0.lt y h).1;omega) (fun h=>by have:=(ay.lt y h).1;omega));rw[cl] at cj bu bz;rw[co] at cp bx bz;have b3:=hO.push (y:=yv) (N':=.slice ax (i+1) aw) (E':=.slice a1 (i+1) a2) ga b8.symm qO (fun b hb=>by have:=cd b hb;omega) dw (by rw[cx];exact cj) (fun k hk=>by rw[←er];exact bu k hk) (by rw[cg,List.map_append];exact cp) (fun k hk=>by rw[←er];exact bx k hk) bz;have b6:=Ax hS dw (fun b hb h=>h.elim (fun h=>(az b hb).1 (.inr (.inl h))) (fun h=>(az b hb).1 (.inl h)));have a6:=Nat.le_trans au dw.size;have da:∀b,(Value.slice (some ⟨b7,0,none⟩) sn ah).ownBlock=some b→¬Ek (.slice a1 (i+1) a2) (.slice ax (i+1) aw) (vs++[.slice (some ⟨bq,0,none⟩) c c]) b:=fun b hb ho=>IY (az b hb) (by have:=(hS.lt b hb).2;omega) bu bx ho;refine BB (b:=br) (o:=2) (c':=#[(I6 0),(.slice ea i ec),(.slice ax (i+1) aw)]) (v:=(.slice ax (i+1) aw)) rfl rfl rfl CB Br qP rfl ?_;intro w18 a9;replace b3:=b3.chg a9.chg fun b hb h=>by have:=(b3.lt hb).1;have h':b=br:=h;omega
        replace b6:=Ax b6 a9.chg fun b hb h=>by have:=(b6.lt b hb).1;have h':b=br:=h;omega
        replace a6:=Nat.le_trans a6 a9.chg.size;replace Bd:=a9.keep qO Bd;replace Bo:=a9.keep qO Bo;replace ae:=a9.keep qO ae;replace Mm:=a9.keepM qO Mm;replace Bq:=a9.keep qO Bq;replace E:=a9.step E qQ;replace Br:=a9.blk;refine qF br 0 1 rfl underlying52 rfl BG rfl (BB (b:=br) (o:=1) (c':=#[(I6 0),(.slice a1 (i+1) a2),(.slice ax (i+1) aw)]) (v:=(.slice a1 (i+1) a2)) rfl rfl rfl BG Br qP rfl ?_);intro fg a7;replace b3:=b3.chg a7.chg fun b hb h=>by have:=(b3.lt hb).1;have h':b=br:=h;omega
        replace b6:=Ax b6 a7.chg fun b hb h=>by have:=(b6.lt b hb).1;have h':b=br:=h;omega
        replace a6:=Nat.le_trans a6 a7.chg.size;replace Bd:=a7.keep qO Bd;replace Bo:=a7.keep qO Bo;replace ae:=a7.keep qO ae;replace Mm:=a7.keepM qO Mm;replace Bq:=a7.keep qO Bq;replace E:=a7.step E qQ;replace Br:=a7.blk;refine AA (AP (AB (AG (qM (I6 (i:Int)) rfl (qV (Aq (k:=.i64) (a:=(i:Int)) (b:=1) (c:=(i:Int)+1) rfl rfl (A2 qO)) (qA (I6 ((i:Int)+1)) rfl (AA (AB ?_))))))));exact ⟨n - (i+1),qO,i+1,ag++[R],st,aq++[yv],vs++[.slice (some ⟨bq,0,none⟩) c c],some ⟨b7,0,none⟩,a1,ax,ah,sn,a2,aw,Af.out ⟨rfl,rfl,rfl,rfl,rfl,rfl,rfl,rfl,trivial⟩,E,Bd,Bo,ae,Br,Mm,hC.row b8 db,(by simp[cx]),bn,qO,(by rw[Ed av,List.map_append,cb,ew];rfl),b6,b3,da,a6,rfl⟩
   ·have fo:i=st.length:=qO
    have hlc:=hC.st_le;refine Ak (AR (AR (Ae (AB (Y (qV (AU (vs:=[(I6 0),(.slice ea i ec),(.slice aj i am)]) rfl BC Ap rfl (Br.cells rfl)) (Al (b:=bo) (o:=0) (c':=#[(I6 0),(.slice ea i ec),(.slice aj i am)]) rfl rfl qS Ap rfl Bo qL rfl ?_)))))));intro w20 bv;replace hO:=hO.chg bv.chg fun b hb h=>by have:=(hO.lt hb).1;have h':b=bo:=h;omega
    replace Bd:=bv.keep qO Bd;replace ae:=bv.keep qO ae;replace Br:=bv.keep qO Br;replace Mm:=bv.keepM qO Mm;replace E:=bv.step E qQ;replace Bo:=bv.blk;refine AA (AS (Cp results162 (vs:=[(.int .i64 0),(.slice ea i ec),(.slice aj i am)]) (b:=bo) rfl BC Ap rfl (Bo.cells rfl) ?_));have cm:=hC.done ok cy qO;have a5:aq=st.map (EX d):=by rw[bp,fo,List.take_length]
    have ct:ag.length=i:=cx;have bj:aq.length=i:=by rw[a5,List.length_map];omega
    rw[←a5] at cm;refine ⟨⟨⟨0,aq,ag⟩,_,cm,by show ag.length≤n;omega,fun x hx=>?_,rfl,fun M w' ch hM=>⟨ea,ec,aj,am,by show [_,_,_]=[Value.int .i64 0,.slice ea aq.length ec,.slice aj ag.length am];rw[bj,ct],?_,?_⟩⟩,E⟩
    ·rw[a5] at hx;obtain ⟨u,hu,ey⟩:=List.mem_map.1 hx;have h9:=hC.sl u hu;obtain ⟨uN,f6⟩:=Int.eq_ofNat_of_zero_le h9.1;rw[←ey,f6];exact hac _ (List.mem_of_getElem? (IK ok (show uN<n by omega)))
    ·show CF _ (.slice ea aq.length ec) aq;rw[bj];have h9:=(hO.chg ch fun b hb h=>by rcases hM b h with h1|⟨cs,h1⟩;have:=(hO.lt hb).1;omega;exact OutSt.typ hO h1 qD qD hb).e;rw[bj] at h9;exact FM h9 bj.symm
    ·show EY _ (.slice aj ag.length am) ag;rw[ct];exact (hO.chg ch fun b hb h=>by rcases hM b h with h1|⟨cs,h1⟩;have:=(hO.lt hb).1;omega;exact OutSt.typ hO h1 qD qD hb).intss
end Go.Proofs
namespace Go.Proofs
open Go Go.Eng Go.Sort
set_option maxRecDepth 100000
theorem Qx {n c:Nat} {d:Dfa} (h:OkD n c d) (hn:1<=n∧n<=200) (hc:1<=c∧c<=16):Do d=0:=by
 obtain ⟨p,o,h3,q,k⟩:=h;have i:d.next≠[]:=λf=>by rw[f] at p;simp at p;omega
 have hcol:K4 d=c:=by
  unfold K4;cases hq:d.next with
  | nil=>exact absurd hq i
  | cons y l=>exact (k y (by rw[hq];simp)).1
 unfold Do;rw[if_neg qO,if_neg qO,if_neg qO,if_neg,if_neg]
 .rw[Bool.or_eq_true];rintro (hb|hb)
  .unfold K9 at hb;have e:d.accept≠[]:=λf=>by rw[f] at o;simp at o;omega
   have:=(P_ e (z:=-1)).2 (λx g=>q x g);simp only[Bool.or_eq_true,decide_eq_true_eq] at hb;omega
  .obtain ⟨row,j,hb⟩:=List.any_eq_true.1 hb;obtain ⟨m,g⟩:=k row j;have a:row≠[]:=λf=>by rw[f] at m;simp at m;omega
   have h6:=(P_ a (z:=-1)).2 (λx b=>(g x b).1);have h7:=(Ud a (z:=((n:Nat):Int))).2 (λx b=>(g x b).2);simp only[Dp,Bool.or_eq_true,decide_eq_true_eq] at hb;omega
 .intro hb;obtain ⟨row,j,hb⟩:=List.any_eq_true.1 hb;obtain ⟨m,_⟩:=k row j;simp only[Hi,Bool.or_eq_true,decide_eq_true_eq] at hb;omega
def NR (d:Dfa) (s:Int) (w:List Int):Int:=w.foldl (λs x=>BN d s x.toNat) s
theorem QX (d:Dfa):∀(w:List Int) (s:Int),beh d s (w.map Int.toNat)=EX d (NR d s w)
 | [],_=>rfl
 | x::w,s=>by simp only[List.map_cons,beh];rw[QX d w];rfl
theorem Qq {d:Dfa} {s:Int} {w:List Int} {k:Nat} {x:Int} (h:w[k]?=some x):NR d s (w.take (k+1))=BN d (NR d s (w.take k)) x.toNat:=by
 rw[List.take_add_one,h];simp[NR,List.foldl_append]
theorem OkD.run {n c:Nat} {d:Dfa} (h:OkD n c d) (w:List Int) : -1<=NR d d.start w∧NR d d.start w<n:=by
 have hst:=h.st;rcases List.eq_nil_or_concat w with rfl|⟨w,x,rfl⟩
 .show -1<=d.start∧d.start<n;omega
 .simp only[NR,List.concat_eq_append,List.foldl_append,List.foldl_cons,List.foldl_nil];exact h.to
theorem Mx (q:World) (d:Dfa) (A:List Value) (s:Int) (h:B' q d A) (hs:s<d.accept.length) :
 CJ prog 107 #[.agg A.toArray,.int .i64 s] q λr w=>r=.int .i64 (EX d s)∧Ao q w:=by
 obtain ⟨x,m,z,D,rfl,g,hnxt⟩:=h;refine qR func107 O ntmps107 O (λE=>(Y (BM (v:=(.agg #[(I6 d.start),(.slice x d.accept.length m),(.slice z d.next.length D)])) (c:=#[(I6 d.start),(.slice x d.accept.length m),(.slice z d.next.length D)]) qD O O ?_)));intro F wq u;replace E:=E.ext u.ext;have G:=u.blk;refine qA (I6 0) O (AA (AE (Y (qM (I6 s) O (qV (Av (k:=.i64) (a:=s) (b:=0) O O) (AA (qC O (λe=>?_) (λe=>?_))))))))
 .refine Y (qA (I6 (-1)) O (AA (AS (AO (AV results107 (v:=(.int .i64 (-1))) O ?_)))));exact ⟨A5 (by unfold EX;rw[if_pos e]),E⟩
 .obtain ⟨j,n⟩:=Int.eq_ofNat_of_zero_le (show 0<=s by omega);obtain ⟨B,p,rfl,t⟩:=BF g qO;obtain ⟨y,C⟩:=AL (l:=d.accept) (i:=j) qO;refine AK (AB (Y (qF F 0 1 O underlying52 O BG O (qV (AD (v:=(.slice (some ⟨B,p,none⟩) d.accept.length m)) O BX (G.cell O)) (qM (I6 s) O (qV (AC (b:=B) (o:=p) (len:=d.accept.length) (cap:=m) (i:=j) (o':=p+j) O O qO underlying22 Ab qO qO) (qV (AD (v:=(I6 y)) O Aa (E.cell (λf=>f) (t j _ C))) (qA (I6 y) O (AA (AS (AV results107 (v:=(.int .i64 y)) O ?_)))))))))));exact ⟨A5 (by rw[n,EW C]),E⟩
theorem Mw (D:World) (n c:Nat) (d:Dfa) (N:List Value) (s x:Int) (ok:OkD n c d) (h:B' D d N) (hs:s<n) (S:0<=x∧x<c) :
 CJ prog 106 #[.agg N.toArray,.int .i64 s,.int .i64 x] D λr w=>r=.int .i64 (BN d s x.toNat)∧Ao D w:=by
 obtain ⟨H,K,M,q,rfl,hacc,m⟩:=h;have hnl:=ok.nl;obtain ⟨p,rfl⟩:=Int.eq_ofNat_of_zero_le S.1;rw[Int.toNat_natCast];refine qR func106 O ntmps106 O (λE=>(Y (BM (v:=(.agg #[(I6 d.start),(.slice H d.accept.length K),(.slice M d.next.length q)])) (c:=#[(I6 d.start),(.slice H d.accept.length K),(.slice M d.next.length q)]) qD O O ?_)));intro R wq G;replace E:=E.ext G.ext;have Q:=G.blk;refine qA (I6 0) O (AA (AE (Y (qM (I6 s) O (qV (Av (k:=.i64) (a:=s) (b:=0) O O) (AA (qC O (λg=>?_) (λg=>?_))))))))
 .refine Y (qA (I6 (-1)) O (AA (AS (AO (AV results106 (v:=(.int .i64 (-1))) O ?_)))));exact ⟨A5 (by rw[En g]),E⟩
 .obtain ⟨t,u⟩:=Int.eq_ofNat_of_zero_le (show 0<=s by omega);obtain ⟨I,F,rfl,z⟩:=Ca m qO;obtain ⟨row,e⟩:=AL (l:=d.next) (i:=t) qO;have hrl:=(ok.row row (List.mem_of_getElem? e)).1;obtain ⟨ra,L,j,B⟩:=z t row e;obtain ⟨J,C,rfl,A⟩:=BF B qO;obtain ⟨y,P⟩:=AL (l:=row) (i:=p) qO;refine AK (AB (Y (qF R 0 2 O underlying52 O CB O (qV (AD (v:=(.slice (some ⟨I,F,none⟩) d.next.length q)) O B0 (Q.cell O)) (qM (I6 s) O (qV (AC (b:=I) (o:=F) (len:=d.next.length) (cap:=q) (i:=t) (o':=F+t) O O qO underlying50 BG qO qO) (qV (AD (v:=(.slice (some ⟨J,C,none⟩) row.length L)) O BX (E.cell (λf=>f) j)) (qM (I6 (p:Int)) O (qV (AC (b:=J) (o:=C) (len:=row.length) (cap:=L) (i:=p) (o':=C+p) O O O underlying22 Ab qO qO) (qV (AD (v:=(I6 y)) O Aa (E.cell (λf=>f) (A p _ P))) (qA (I6 y) O (AA (AS (AV results106 (v:=(.int .i64 y)) O ?_))))))))))))));exact ⟨A5 (by rw[u,FG e P]),E⟩
theorem TD (q:World) (b n c:Nat) (d:Dfa) (B:List Value) (x:Int) (ok:OkD n c d) (h:B' q d B) (F:Az q b B.toArray 52) (hn:1<=n) (hc:c<=16) :
 CJ prog 105 #[.int .i64 x,.pointer (some ⟨b,0,none⟩)] q λr w=>r=.bool (decide (x<0) || decide ((c:Int)<=x))∧Ao q w:=by
 obtain ⟨aa,ac,na,C,rfl,hacc,p⟩:=h;have hnl:=ok.nl;obtain ⟨D,s,rfl,t⟩:=Ca p qO;obtain ⟨row,m⟩:=AL (l:=d.next) (i:=0) qO;have u:=(ok.row row (List.mem_of_getElem? m)).1;obtain ⟨A,z,j,y⟩:=t 0 row m;rw[u] at j y;refine qR func105 O ntmps105 O (λE=>(Y (qA (.bool false) O (AA (Y (qM (I6 x) O (qV (Av (k:=.i64) (a:=x) (b:=0) O O) (qM (.bool (decide ((x:Int)<0))) O ?_))))))));rcases Bool.eq_false_or_eq_true (decide ((x:Int)<0)) with e|e
 .have g:=e;replace g:=of_decide_eq_true g;refine AJ (oj:=_) O O qD (v:=.bool true) (Aw e) (Or.inl O) (AJ (oj:=_) O O qD (v:=.bool true) (Aw e) (Or.inl O) (AJ (oj:=_) O O qD (v:=.bool true) (Aw e) (Or.inl O) (AJ (oj:=_) O O qD (v:=.bool true) (Aw e) (Or.inl O) (AJ (oj:=_) O O qD (v:=.bool true) (Aw e) (Or.inl O) (AJ (oj:=_) O O qD (v:=.bool true) (Aw e) (Or.inl O) (AJ (oj:=_) O O qD (v:=.bool true) (Aw e) (Or.inl O) (qV (Ac (b:=decide ((x:Int)<0)) (v:=(.bool true)) O (by rw[e];rfl)) (qA (.bool true) O (AA (AS (AV results105 (v:=(.bool true)) O ?_)))))))))));exact ⟨CG (by simp[e]),E⟩
 .have g:=e;replace g:=of_decide_eq_false g;refine AF (oj:=_) O O qD (Aw e) (qM (I6 x) O (AF (oj:=_) O O qD (Aw e) (qF b 0 2 O underlying52 O CB O (AF (oj:=_) O O qD (Aw e) (qV (AD (v:=(.slice (some ⟨D,s,none⟩) d.next.length C)) O B0 (F.cell O)) (AF (oj:=_) O O qD (Aw e) (qV (AC (b:=D) (o:=s) (len:=d.next.length) (cap:=C) (i:=0) (o':=s+0) O O O underlying50 BG qO qO) (AF (oj:=_) O O qD (Aw e) (qV (AD (v:=(.slice A c z)) O BX (E.cell (λf=>f) j)) (AF (oj:=_) O O qD (Aw e) (qV (AH (ad:=A) (n:=c) (cap:=z) underlying22 O) (AF (oj:=_) O O qD (Aw e) (qV (C3 (k:=.i64) (a:=x) (b:=(c:Int)) O O) (qV (Ac (b:=decide ((x:Int)<0)) (v:=(.bool (decide (((c:Int):Int)<=x)))) O (by rw[e];rfl)) ?_))))))))))))));refine qA (.bool (decide (((c:Int):Int)<=x))) O (AA (AS (AV results105 (v:=(.bool (decide ((((c:Nat):Int):Int)<=x)))) O ?_)));exact ⟨CG (by simp[e]),E⟩
theorem HJ (b:Bool) (c:World):CJ prog 161 #[.bool b] c λr w=>r=.int .i64 (if b=true then 0 else -1)∧Ao c w:=by
 refine qR func161 O ntmps161 O (λE=>(Y (qA (I6 0) O (AA (AE (Y (qM (.bool b) O (AA (A3 (b:=b) O (λhb=>?_) (λhb=>?_))))))))))
 .have a:=hb;refine Y (qA (I6 0) O (AA (AS (AO (AV results161 (v:=(.int .i64 0)) O ?_)))));exact ⟨A5 (by rw[if_pos hb]),E⟩
 .have a:=hb;refine AK (AB (Y (qA (I6 (-1)) O (AA (AS (AV results161 (v:=(.int .i64 (-1))) O ?_))))));exact ⟨A5 (by rw[hb];rfl),E⟩
theorem QP (G:World) (n c:Nat) (d:Dfa) (W:List Value) (v:Value) (l:List Int) (ok:OkD n c d) (h:B' G d W) (V:1<=n∧n<=200) (X:1<=c∧c<=16) (H:CF G v l) (hll:l.length<=4000) (z:∀x∈l,0<=x∧x<c) :
 CJ prog 59 #[.agg W.toArray,v] G λr w=>r=.tuple #[.int .i64 (beh d d.start (l.map Int.toNat)),.int .i64 0]∧Ao G w:=by
 have g:=h;obtain ⟨j,p,q,m,rfl,hacc,hnxt⟩:=h;have hnl:=ok.nl;have hal:=ok.al;have hst:=ok.st;obtain ⟨u,t,rfl⟩:=BL.form H;simp only[List.length_map] at H⊢;have B:(l.any λx=>decide (x<0) || decide ((c:Int)<=x))=false:=by
  rw[List.any_eq_false];intro x D;have:=z x D;simp only[Bool.or_eq_true,decide_eq_true_eq];omega
 refine qR func59 O ntmps59 O (λE=>(Y (BM (v:=(.agg #[(I6 d.start),(.slice j d.accept.length p),(.slice q d.next.length m)])) (c:=#[(I6 d.start),(.slice j d.accept.length p),(.slice q d.next.length m)]) qD O O ?_)));intro y wq R;replace E:=E.ext R.ext;have e:=R.blk;refine qA (I6 0) O (qA (I6 0) O (AA (AE (Y (qV (AU (vs:=[(I6 d.start),(.slice j d.accept.length p),(.slice q d.next.length m)]) O BC Ap O (e.cells O)) (qE O (AT (vs:=[(.agg #[(I6 d.start),(.slice j d.accept.length p),(.slice q d.next.length m)])]) func104 kQ kQ O) (TH _ d _ (g.ext E)) ?_))))));rintro _ w9 ⟨rfl,T⟩;replace e:=T.keep e;replace E:=E.ext T;refine qA (I6 (Do d)) O (AA (Y (qM (I6 (Do d)) O (qV (CO (k:=.i64) (a:=Do d) (b:=0) O O) (AA ?_)))));have L:(decide ((Do d:Int)≠0))=false:=decide_eq_false (by rw[Qx ok V X];decide);refine AW (Aw L) (AK (AB (AE (Y (qM (.slice u l.length t) O (qV (AH (ad:=u) (n:=l.length) (cap:=t) underlying22 O) (qV (CH (k:=.i64) (a:=(l.length:Int)) (b:=4000) O O) (AA ?_))))))));have M:(decide ((4000:Int)<((l.length:Nat):Int)))=false:=decide_eq_false qO;refine AW (Aw M) (AK (AB (AE (Y (qM (.slice u l.length t) O (qV (CA (vs:=[]) (us:=[(P6 y 0)]) O O) (qE O (AT (vs:=[(.slice u l.length t),(.func (.func 105) #[] #[(P6 y 0)])]) func25 kQ kQ O) (PR _ _ _ l (λx=>decide (x<0) || decide ((c:Int)<=x)) (H.ext E) (λw x S _=>CV.mk (first:=#[]) (cap:=#[.pointer (some ⟨y,0,none⟩)]) func105 kQ kQ O (TD w y n c d _ x ok (g.ext (E.trans S)) (S.keep e) V.1 X.2))) ?_)))))));rintro _ w19 ⟨rfl,A⟩;replace e:=A.keep e;replace E:=E.ext A;refine AA ?_;have P:((l.any λx=>decide (x<0) || decide ((c:Int)<=x)))=false:=B;refine AW (Aw P) (AK (AB (Y (qF y 0 0 O underlying52 O Ab O (qV (AD (v:=(I6 d.start)) O Aa (e.cell O)) (qA (I6 d.start) O (AA (AE (Y (qM (.slice u l.length t) O (qV (AH (ad:=u) (n:=l.length) (cap:=t) underlying22 O) (qM (I6 0) O (AA (AM (Am (λnn_ σ Q=>∃(k:Nat) (s:Int),(∃jj_,σ=BQ jj_ [(2,(P6 y 0)),(23,(.slice u l.length t)),(24,(I6 (l.length:Int))),(25,(I6 (k:Int))),(7,(I6 s))])∧Chg AZ G Q∧Az Q y #[(I6 d.start),(.slice j d.accept.length p),(.slice q d.next.length m)] 52∧(k<=l.length)∧(s=NR d d.start (l.take k))∧nn_=l.length - k) (n:=l.length - 0) ?_ ?_)))))))))))))))
 .exact ⟨0,d.start,Af.out ⟨O,O,O,O,O,trivial⟩,E,e,Nat.zero_le _,O,O⟩
 .clear E e;rintro _ _ Q ⟨k,s,⟨j4,rfl⟩,E,e,hk,hs,rfl⟩;refine Y (qV (Av (k:=.i64) (a:=(k:Int)) (b:=(l.length:Int)) O O) (AA (AE (qC O (λJ=>?_) (λJ=>?_)))))
  .obtain ⟨x,D⟩:=AL (l:=l) (i:=k) qO;obtain ⟨Z,U,rfl,I⟩:=BF H qO;have N:=ok.run (l.take k);refine AK (AB (AE (AM (Y (qV (AC (b:=Z) (o:=U) (len:=l.length) (cap:=t) (i:=k) (o':=U+k) O O O underlying22 Ab qO qO) (qV (AD (v:=(I6 x)) O Aa (E.cell (λf=>f) (I k x D))) (qA (I6 x) O (AA (AG (qV (AU (vs:=[(I6 d.start),(.slice j d.accept.length p),(.slice q d.next.length m)]) O BC Ap O (e.cells O)) (qM (I6 s) O (qM (I6 x) O (qE O (AT (vs:=[(.agg #[(I6 d.start),(.slice j d.accept.length p),(.slice q d.next.length m)]),(I6 s),(I6 x)]) func106 kQ kQ O) (Mw _ n c d _ s x ok (g.ext E) qO (z x (List.mem_of_getElem? D))) ?_)))))))))))));rintro _ w29 ⟨rfl,C⟩;replace e:=C.keep e;replace E:=E.ext C;refine qA (I6 (BN d s x.toNat)) O (AA (AP (AB (AG (qV (Aq (k:=.i64) (a:=(k:Int)) (b:=1) (c:=(k:Int)+1) O O (A2 qO)) (qM (I6 ((k:Int)+1)) O (AA (AB ?_))))))));exact ⟨l.length - (k+1),qO,k+1,BN d s x.toNat,Af.out ⟨O,O,O,O,O,trivial⟩,E,e,qO,(by rw[Qq D,hs]),O⟩
  .have K:k=l.length:=qO
   have N:=ok.run (l.take k);refine Ak (AR (AR (Ae (AB (Y (qV (AU (vs:=[(I6 d.start),(.slice j d.accept.length p),(.slice q d.next.length m)]) O BC Ap O (e.cells O)) (qM (I6 s) O (qE O (AT (vs:=[(.agg #[(I6 d.start),(.slice j d.accept.length p),(.slice q d.next.length m)]),(I6 s)]) func107 kQ kQ O) (Mx _ d _ s (g.ext E) qO) ?_))))))));rintro _ w39 ⟨rfl,F⟩;replace e:=F.keep e;replace E:=E.ext F;refine qA (I6 (EX d s)) O (qA (I6 0) O (AA (AS (Cl results59 (v:=(.int .i64 (EX d s))) (v':=(.int .i64 0)) O O ?_))));exact ⟨by rw[QX,hs,K,List.take_length],E⟩
end Go.Proofs
namespace Go.Proofs
open Go Go.Eng Go.Sort
set_option maxRecDepth 100000
--BEGIN
def nt (n:Nat) (t:Int):Int:=if t<0 then (n:Int) else t
def Mg (n:Nat) (l:List Int) (x:Nat):List Int:=(l.take x).map (nt n)++l.drop x
def fl (a:Int):Int:=if a<0 then 0 else -1
def G7 (n c:Nat) (d:Dfa):Dfa:=⟨d.start,d.accept.map fl++[0],d.next.map (λr=>r.map (nt n))++[List.replicate c (n:Int)]⟩
theorem P8 (n:Nat) (l:List Int) (x:Nat):(Mg n l x).length=l.length:=by simp[Mg];omega
theorem SY (n:Nat) (l:List Int):Mg n l 0=l:=by simp[Mg]
theorem Ua (n:Nat) (l:List Int):Mg n l l.length=l.map (nt n):=by simp[Mg]
theorem UZ {n:Nat} {l:List Int} {x:Nat} {t:Int} (h:l[x]?=some t):(Mg n l x)[x]?=some t:=by
 have hx:=AI h;rw[Mg,List.getElem?_append_right (by simp;omega)];simp only[List.length_map,List.length_take,List.getElem?_drop];rw[show x+(x - min x l.length)=x by omega,h]
theorem Ls {n:Nat} {l:List Int} {x:Nat} {t:Int} (h:l[x]?=some t):Mg n l x=(l.take x).map (nt n)++t::l.drop (x+1):=by
 have a:=AI h;have:l[x]=t:=by rw[List.getElem?_eq_getElem a] at h;simpa using h
 rw[Mg,List.drop_eq_getElem_cons a,this]
theorem OH {n:Nat} {l:List Int} {x:Nat} {t:Int} (h:l[x]?=some t):Mg n l (x+1)=(l.take x).map (nt n)++nt n t::l.drop (x+1):=by
 rw[Mg,List.take_add_one,h];simp
theorem SZ {n:Nat} {l:List Int} {x:Nat} {t:Int} (h:l[x]?=some t) (a:¬t<0):Mg n l x=Mg n l (x+1):=by
 rw[Ls h,OH h,nt,if_neg a]
theorem UY {n:Nat} {l:List Int} {x:Nat} {t:Int} (h:l[x]?=some t) (a:t<0):(Mg n l x).set x (n:Int)=Mg n l (x+1):=by
 have hx:=AI h;rw[Ls h,OH h,nt,if_pos a,List.set_append_right _ _ (by simp;omega)];simp only[List.length_map,List.length_take];rw[show x - min x l.length=0 by omega];rfl
theorem Vx {n:Nat} {t:Int} (h : -1<=t∧t<n):0<=nt n t∧nt n t<(n+1:Nat):=by
 unfold nt;split<;>omega
theorem Ww {n c:Nat} {d:Dfa} (h:OkD n c d):OkD (n+1) c (G7 n c d) where
 nl:=by simp[G7,h.nl]
 al:=by simp[G7,h.al]
 st:=by have:=h.st;show 0<=d.start∧d.start<((n+1:Nat):Int);omega
 acc:=λx b=>by
  simp only[G7,List.mem_append,List.mem_map,List.mem_singleton] at b;rcases b with ⟨a,_,rfl⟩|rfl
  .unfold fl;split<;>omega
  .decide
 row:=λr e=>by
  simp only[G7,List.mem_append,List.mem_map,List.mem_singleton] at e;rcases e with ⟨q,i,rfl⟩|rfl
  .have f:=h.row q i;refine ⟨by simpa using f.1,λx b=>?_⟩;obtain ⟨t,g,rfl⟩:=List.mem_map.1 b;have:=Vx (f.2 t g);omega
  .refine ⟨qP,λx b=>?_⟩;rw[List.eq_of_mem_replicate b];omega
theorem UB {n c:Nat} {d:Dfa} (h:OkD n c d) {s:Int} {x:Nat} (hs : -1<=s∧s<n) (hx:x<c):BN (G7 n c d) (nt n s) x=nt n (BN d s x):=by
 have ab:=h.nl;rcases Int.lt_or_le s 0 with h1|h1
 ·rw[En h1,show nt n s=((n:Nat):Int) by unfold nt;rw[if_pos h1]];rw[FG (r:=List.replicate c (n:Int)) (t:=(n:Int)) (by simp[G7,ab]) (by simp[hx])];rfl
 ·obtain ⟨sN,rfl⟩:=Int.eq_ofNat_of_zero_le h1;rw[show nt n ((sN:Nat):Int)=((sN:Nat):Int) by unfold nt;rw[if_neg qO]];obtain ⟨row,aa⟩:=AL (l:=d.next) (i:=sN) qO;have hrl:=(h.row row (List.mem_of_getElem? aa)).1;obtain ⟨t,ht⟩:=AL (l:=row) (i:=x) qO;rw[FG aa ht,FG (r:=row.map (nt n)) (t:=nt n t)]
  ·simp only[G7];rw[List.getElem?_append_left (by simp;omega),List.getElem?_map,aa];rfl
  ·rw[List.getElem?_map,ht];rfl
theorem U7 {n c:Nat} {d:Dfa} (h:OkD n c d) {s:Int} (hs : -1<=s∧s<n):EX (G7 n c d) (nt n s)=fl (EX d s):=by
 have aa:=h.al;rcases Int.lt_or_le s 0 with h1|h1
 ·rw[show nt n s=((n:Nat):Int) by unfold nt;rw[if_pos h1],show EX d s = -1 by unfold EX;rw[if_pos h1]];rw[EW (t:=0) (by simp[G7,aa])];rfl
 ·obtain ⟨sN,rfl⟩:=Int.eq_ofNat_of_zero_le h1;rw[show nt n ((sN:Nat):Int)=((sN:Nat):Int) by unfold nt;rw[if_neg qO]];obtain ⟨a,ha⟩:=AL (l:=d.accept) (i:=sN) qO;rw[EW ha,EW (t:=fl a)];simp only[G7];rw[List.getElem?_append_left (by simp;omega),List.getElem?_map,ha];rfl
theorem QY {n c:Nat} {d:Dfa} (h:OkD n c d):∀{w:List Nat} {s:Int},E3 c w->-1<=s∧s<n->beh (G7 n c d) (nt n s) w=fl (beh d s w)
 | [],s,_,hs=>U7 h hs
 | x::w,s,hw,hs=>by
  simp only[beh];rw[UB h hs hw.head];exact QY h hw.tail h.to
theorem Ti {n c:Nat} {d:Dfa} (h:OkD n c d) {w:List Nat} (a:E3 c w):beh (G7 n c d) (G7 n c d).start w=fl (beh d d.start w):=by
 have hst:=h.st;have:=QY h (s:=d.start) a qO
 rwa [show nt n d.start=d.start by unfold nt;rw[if_neg qO]] at this
theorem Sa {n c:Nat} {d:Dfa}:∀x∈(G7 n c d).accept,x<2147483648:=λx b=>by
 simp only[G7,List.mem_append,List.mem_map,List.mem_singleton] at b;rcases b with ⟨a,_,rfl⟩|rfl
 .unfold fl;split<;>omega
 .decide
theorem Db.congr {c:Nat} {f g:List Nat->Int} {C:Dfa} (h:Db c f C) (e:∀w,E3 c w->f w=g w):Db c g C:=by
 obtain ⟨m,i,d,b,j⟩:=h;exact ⟨m,i,λw a=>(d w a).trans (e w a),b,j⟩
--END
def Xm (l:List Int) (hs:Nat) (r:Value) (w:World):Prop:=∃b rest k,r=.slice (some ⟨b,0,none⟩) l.length k∧hs<=b∧Az w b (l.map (Value.int .i64)++rest).toArray DP∧l.length+rest.length=k∧k<=9223372036854775807
theorem TU (w0:World) (v:Value) (l:List Int) (h:CF w0 v l) (hl:l.length≤2000000) (h1:0<l.length) :
  CJ prog 83 #[v] w0 fun r w=>Xm l w0.heap.size r w∧Ao w0 w:=by
 obtain ⟨a,c,rfl⟩:=BL.form h;simp only[List.length_map] at h⊢;obtain ⟨base,ad⟩:∃base,base=w0.heap.size:=⟨_,rfl⟩;obtain ⟨b,o,rfl,ae⟩:=BF h h1;refine qR func83 rfl ntmps83 rfl (fun E=>(Y (qA (.slice none 0 0) rfl (AA (AE (Y (qM (.slice (some ⟨b,o,none⟩) l.length c) rfl (B_ (v:=(.bool ((some (⟨b,o,none⟩:Addr)).isNone))) rfl rfl qD (NX underlying22 rfl rfl) (AA ?_)))))))));have ah:((some (⟨b,o,none⟩:Addr)).isNone)=false:=rfl;refine AW (Aw ah) (AK (AB (Y (IT qD underlying22 Ab ?_))));intro bq wq Nq;have Fq:=Nq.ge E;replace E:=E.ext Nq.ext;have Bq:=Nq.blk;refine qM (.slice (some ⟨b,o,none⟩) l.length c) rfl ?_;have aa:=Hc (base:=base) (size:=1) Bq qO;have af:base≤wq.heap.size:=by have:=Nq.ext.size;omega
 refine BT (base:=base) (n:=0) (m:=l.length) (xs:=[]) (news:=l.map (Value.int .i64)) (size:=1) (bytes:=8) (v:=(.slice (some ⟨bq,0,none⟩) 0 0)) qD underlying22 Ab GO CW rfl qD rfl aa rfl qP (fun i u hu=>by rw[List.getElem?_map,Option.map_eq_some_iff] at hu;obtain ⟨x,hx,rfl⟩:=hu;exact Nq.ext.cell (ae i x hx)) qS (by unfold maxLen;omega) qO (af) ?_;intro v9 w29 ac ag Dv9;replace E:=E.step ag (fun x hx h=>absurd (aa.lt x h).1 qO);obtain ⟨la,lc,rfl⟩:=A9 ac;refine qA (.slice la (0+l.length) lc) rfl (AA (AS (AV results83 (v:=(.slice la (0+l.length) lc)) rfl ?_)));simp only[Nat.zero_add,List.nil_append] at ac;simp only[Nat.zero_add];rcases ac.2 with ⟨_,h2⟩|⟨g,cap,ab,h1,h2,h3,h4,h5,h6,h7⟩
 ·omega
 ·simp only[Value.slice.injEq] at h1;obtain ⟨rfl,_,rfl⟩:=h1;have e9:(l.map (Value.int .i64)++ab.toList.drop (l.length*1)).toArray=ab:=by rw[←h7,List.take_append_drop]
  refine ⟨⟨g,ab.toList.drop (l.length*1),lc,rfl,qO,by rw[e9];exact h3,?_,h5⟩,E⟩;have e8:=congrArg Array.size e9;simp only[List.size_toArray,List.length_append,List.length_map] at e8;omega
theorem US {w:World} {b base k:Nat} {l:List Int} {rest:List Value} (h:Az w b (l.map (Value.int .i64)++rest).toArray DP) (hb:base<=b) (hk:l.length+rest.length=k) (a:k<=9223372036854775807):w.ownsRow base DP 1 (.slice (some ⟨b,0,none⟩) l.length k) l.length (l.map (Value.int .i64)):=
 ⟨qP,.inr ⟨b,k,_,O,hb,h,qO,a,by simp;omega,by simp[List.take_append_of_le_length]⟩⟩
end Go.Proofs
namespace Go.Proofs
open Go Go.Eng Go.Sort
set_option maxRecDepth 100000
theorem R7 (a:World) (b d n hs:Nat) (y:Int) (T:TypeId) (j:Az a b #[.int .i64 y] T) (l:1<=n) (h:n<=60000) (hhs:hs<=a.heap.size) :
 CJ prog 163 #[.slice (some ⟨b,0,none⟩) 1 d,.int .i64 ((n:Nat):Int)] a λr w=>Cd hs DP 1 n ((List.replicate n y).map (Value.int .i64)) (.slice none 0 0) hs r w∧Ao a w:=by
 refine (HC a b d n y T j l h).mono ?_;rintro r w ⟨⟨g,rfl,hg,f⟩,e⟩;have c:w.ownsRow hs DP 1 (.slice (some ⟨g,0,none⟩) n n) n ((List.replicate n y).map (Value.int .i64)):=GZ f qO qP;exact ⟨⟨⟨_,_,O⟩,c,λk i=>.inr (c.lt k i).1⟩,e⟩
theorem RA (y:Int) (a:World):CJ prog 161 #[.bool (decide (y<0))] a λr w=>r=.int .i64 (fl y)∧Ao a w:=by
 refine (HJ (decide (y<0)) a).mono ?_;rintro r w ⟨rfl,e⟩;exact ⟨by unfold fl;simp only[decide_eq_true_eq],e⟩
theorem Tn {c1 c2 i base e size n hs:Nat} {M1 M2:Nat->Prop} {xs:List Value} {ws:List Nat} (g:∀y,M1 y->y<hs) (b:∀y,M2 y->y<hs):A8 (two c1 c2 M1 M2) i ws (λ_=>Cd base e size n xs (.slice none 0 0) hs):=by
 rintro p _ _ σ v w w' x ⟨f,d,a⟩;refine ⟨f,Ax d x λk c h=>?_,a⟩;have h6:hs<=k:=(a k c).elim (λh=>by cases h) id;rcases E5 h with h|h
 .have:=g k h.2;omega
 .have:=b k h.2;omega
theorem Si {c1 c2 i e hs t:Nat} {M1 M2:Nat->Prop} {ws:List Nat} (g:∀y,M1 y->y<hs) (a:∀y,M2 y->y<hs):A8 (two c1 c2 M1 M2) i ws (λs=>C0 e #[s t] hs):=by
 rintro p _ _ σ v w w' x ⟨b,f,d,c⟩;exact ⟨b,f,x.keep (λh=>by rcases E5 h with h|h;have:=g b h.2;omega;have:=a b h.2;omega) d,c⟩
theorem Tl {c1 c2 base e size n hs t:Nat} {M1 M2:Nat->Prop} {xs:List Value} {a:Value} {ws:List Nat} (h:∀k,(a.ownBlock=some k∨hs<=k)->¬M2 k):A8 (two c1 c2 M1 M2) c1 ws (λs v w=>Cd base e size n (xs++[s t]) a hs v w∧∀b,(s t).ownBlock=some b->v.ownBlock≠some b):=by
 rintro p l _ σ v w w' x ⟨⟨i,f,d⟩,g⟩;rcases Js x with c|c|c
 .exact absurd c.1 l
 .exact ⟨⟨i,Ax f c.2 (λk j=>h k (d k j)),d⟩,g⟩
 .exact ⟨⟨i,Aj f c,d⟩,g⟩
theorem Tm {c1 c2 base e size n hs:Nat} {M1 M2:Nat->Prop} {xs:List Value} {c:Value} {ws:List Nat} (f:ws.contains c1=true):A8 (two c1 c2 M1 M2) c2 ws (λ_=>Cd base e size n xs c hs):=by
 rintro p h b σ v w w' x ⟨i,d,g⟩;rcases Js x with a|a|a
 .rw[a.1,f] at b;cases b
 .exact absurd a.1 h
 .exact ⟨i,Aj d a,g⟩
theorem LSt.intss {w:World} {base:Nat} {N:Value} {vs:List Value} {rows:List (List Int)} (h:LSt Co DP 1 w base N vs (rows.map Gv)):EY w N rows:=by
 have a:vs.length=rows.length:=by simpa using h.len
 refine ⟨vs,?_,a,λi u l d a=>?_⟩
 .have b:=h.o;rw[show vs=(vs.map λx=>[x]).flatten by simp[List.flatten_eq_flatMap,List.flatMap_map]] at b;exact DY b (by intro r c;simp only[List.mem_map] at c;obtain ⟨x,_,rfl⟩:=c;rfl) (by simp[a]) qD
 .exact FM (h.inn i u (Gv l) d (by rw[List.getElem?_map,a];rfl)) O
theorem OutSt.last {w w':World} {base l:Nat} {E N N' u:Value} {vs:List Value} {acc row:List Int} {rows:List (List Int)} (h:OutSt w base E N vs acc rows) (m:l=w.heap.size) (hb:base<=l) (C:Chg (λb=>N.ownBlock=some b∨E.ownBlock=some b) w w')
 (s:w'.ownsRow base Co 1 N' (rows.length+1) (vs++[u])) (q:w'.ownsRow l DP 1 u row.length (row.map (Value.int .i64))) (x:∀k,N'.ownBlock=some k->N.ownBlock=some k∨l<=k) (t:∀b,u.ownBlock=some b->N'.ownBlock≠some b) :
 LSt Co DP 1 w' base N' (vs++[u]) ((rows++[row]).map Gv):=by
 have o:vs.length=rows.length:=by simpa using h.n.len
 have f:∀(i:Nat) v,(vs++[u])[i]?=some v->vs[i]?=some v∨(i=vs.length∧v=u):=λi v d=>by
  rcases Nat.lt_or_ge i vs.length with a|a
  .left;rwa [List.getElem?_append_left a] at d
  .right;rw[List.getElem?_append_right a] at d;have j:=AI d;simp at j;rw[show i - vs.length=0 by omega] at d;simp at d;exact ⟨qO,d.symm⟩
 refine ⟨by simpa using s,by simp[o],λi v p d g=>?_,λi v b d c e=>?_⟩
 .rw[List.map_append] at g;rcases f i v d with a|⟨a,rfl⟩
  .rw[List.getElem?_append_left (by have:=AI a;simp;omega)] at g;exact Ax (h.n.inn i v p a g) C λb c r=>r.elim (λm=>h.n.apo i v b a c m) (λm=>h.ei i v b a c m)
  .rw[a,o,List.getElem?_append_right qP,List.length_map,Nat.sub_self] at g;simp[Gv] at g;subst g;exact Eo q hb
 .rcases f i v d with a|⟨_,rfl⟩
  .rcases x b e with j|j
   .exact h.n.apo i v b a c j
   .have:=(h.lt (.inr (.inr ⟨i,v,a,c⟩))).2;omega
  .exact t b c e
theorem PY {w:World} {base:Nat} {d:Dfa} {E N:Value} {vs:List Value} (f:∃a c,E=.slice a d.accept.length c) (e:∃a c,N=.slice a d.next.length c) (b:w.ownsRow base DP 1 E d.accept.length (d.accept.map (Value.int .i64))) (h:LSt Co DP 1 w base N vs (d.next.map Gv)):B' w d [.int .i64 d.start,E,N]:=by
 obtain ⟨i,k,rfl⟩:=f;obtain ⟨g,j,rfl⟩:=e;exact ⟨i,k,g,j,O,FM b O,h.intss⟩
def VF (c:Nat) (f:List Nat->Int) (n m:Nat) (r:Value) (w:World):Prop:=∃C ca cc ma mc,Db c f C∧C.next.length<=n∧(∀x∈C.accept,x<2147483648)∧r=.agg #[.int .i64 C.start,.slice ca C.accept.length cc,.slice ma C.next.length mc]∧DV m w C [.int .i64 C.start,.slice ca C.accept.length cc,.slice ma C.next.length mc]
theorem HM (a:World) (n c:Nat) (d:Dfa) (b:List Value) (ok:OkD n c d) (h:B' a d b) (k:n<=20000∧1<=c∧c<=16) (f:∀x∈d.accept,x<2147483648) :
 CJ prog 162 #[.agg b.toArray] a λr w=>VF c (beh d d.start) n a.heap.size r w∧Ao a w:=by
 refine (U4 a n c d b ok h k f).mono ?_;rintro r w ⟨⟨C,cv,l,q,m,rfl,g⟩,e⟩;have p:=g.at';obtain ⟨j,i,s,o,rfl,_,_⟩:=p;exact ⟨⟨C,j,i,s,o,l,q,m,O,g⟩,e⟩
theorem Ut (w0:World) (n c:Nat) (d:Dfa) (dv:List Value) (ok:OkD n c d) (h:B' w0 d dv) (hn:1≤n∧n≤19999∧1≤c∧c≤16) :
  CJ prog 168 #[.agg dv.toArray] w0 fun r w=>VF c (fun w=>fl (beh d d.start w)) (n+1) w0.heap.size r w∧Ao w0 w:=by
 obtain ⟨aa,ac,na,nc,rfl,bf,be⟩:=h;have b5:=ok.nl;have b6:=ok.al;have hst:=ok.st;rw[b6,b5];rw[b6] at bf;rw[b5] at be;obtain ⟨nb,no,rfl,cu⟩:=Ca (n:=n) be qO;obtain ⟨ab,ao,rfl,ci⟩:=BF (n:=n) bf qO;have au:∀(s:Nat),s<n→∃row ra rc,d.next[s]?=some row∧row.length=c∧w0.cell? ⟨nb,no+s,none⟩=some (.slice ra row.length rc)∧CF w0 (.slice ra row.length rc) row:=fun s hs=>by
  obtain ⟨row,av⟩:=AL (l:=d.next) (i:=s) qO;have co:=(ok.row row (List.mem_of_getElem? av)).1;obtain ⟨ra,rc,h1,h2⟩:=cu s row av;exact ⟨row,ra,rc,av,co,h1,h2⟩
 have hab:ab<w0.heap.size:=by
  obtain ⟨x,hx⟩:=AL (l:=d.accept) (i:=0) qO;exact World.block_lt_of_cell? w0 _ (ci 0 x hx)
 have hnb:nb<w0.heap.size:=by
  obtain ⟨row,ra,rc,_,_,h1,_⟩:=au 0 qO;exact World.block_lt_of_cell? w0 _ h1
 refine qR func168 rfl ntmps168 rfl (fun E=>(Y (BM (v:=(.agg #[(I6 d.start),(.slice (some ⟨ab,ao,none⟩) n ac),(.slice (some ⟨nb,no,none⟩) n nc)])) (c:=#[(I6 d.start),(.slice (some ⟨ab,ao,none⟩) n ac),(.slice (some ⟨nb,no,none⟩) n nc)]) qD rfl rfl ?_)));intro bd wd Nd;have Fd:=Nd.ge E;replace E:=E.ext Nd.ext;have Bd:=Nd.blk;refine BO (c:=#[(I6 0),(.slice none 0 0),(.slice none 0 0)]) qD CU rfl ?_;intro bo wo No;have Fo:=No.ge E;have Oo_bd:=No.lt Bd;replace Bd:=No.keep Bd;replace E:=E.ext No.ext;have Bo:=No.blk;refine AA (Y (qF bd 0 2 rfl underlying52 rfl CB rfl (qV (AD (v:=(.slice (some ⟨nb,no,none⟩) n nc)) rfl B0 (Bd.cell rfl)) (qV (AH (ad:=some ⟨nb,no,none⟩) (n:=n) (cap:=nc) underlying50 rfl) (qA (I6 (n:Int)) rfl (AA (Y (qF bd 0 0 rfl underlying52 rfl Ab rfl (qV (AD (v:=(I6 d.start)) rfl Aa (Bd.cell rfl)) (qV (BU (ps:=[(0,(I6 d.start))]) (v:=(.agg #[(I6 d.start),(.slice none 0 0),(.slice none 0 0)])) rfl qK) (Au (v:=(.agg #[(I6 d.start),(.slice none 0 0),(.slice none 0 0)])) (c:=#[(I6 d.start),(.slice none 0 0),(.slice none 0 0)]) (n:=3) qD CU rfl Ap rfl rfl rfl qS ?_)))))))))));intro bx wx Nx;have Fx:=Nx.ge E;have Ox_bd:=Nx.lt Bd;have Ox_bo:=Nx.lt Bo;replace Bd:=Nx.keep Bd;replace Bo:=Nx.keep Bo;replace E:=E.ext Nx.ext;have Bx:=Nx.blk;refine AA (AE (Y (qF bd 0 2 rfl underlying52 rfl CB rfl (qV (AD (v:=(.slice (some ⟨nb,no,none⟩) n nc)) rfl B0 (Bd.cell rfl)) (qV (AH (ad:=some ⟨nb,no,none⟩) (n:=n) (cap:=nc) underlying50 rfl) (qM (I6 0) rfl (AA (AM ?_))))))));have cy:=Bd.lt;have c2:=Bo.lt;obtain ⟨n1,dm⟩:∃n1,n1=wx.heap.size:=⟨_,rfl⟩;have ef:bx<n1:=by have:=Bx.lt;omega
 refine Am (fun nn_ σ W1=>∃(i:Nat) (am:List (List Int)) (an:List Int) (vs:List Value) (ea ak:Option Addr) (ec aj:Nat),(∃jj_,σ=BQ jj_ [(1,(P6 bd 0)),(2,(P6 bo 0)),(3,(I6 (n:Int))),(4,(P6 bx 0)),(17,(.slice (some ⟨nb,no,none⟩) n nc)),(18,(I6 (n:Int))),(19,(I6 (i:Int)))])∧Chg AZ w0 W1∧Az W1 bd #[(I6 d.start),(.slice (some ⟨ab,ao,none⟩) n ac),(.slice (some ⟨nb,no,none⟩) n nc)] 52∧Az W1 bo #[(I6 0),(.slice none 0 0),(.slice none 0 0)] 52∧Az W1 bx (#[Value.int .i64 d.start,.slice ea i ec,.slice ak i aj]) 52∧(i≤n)∧(am=(d.next.take i).map (fun r=>r.map (nt n)))∧(an=(d.accept.take i).map fl)∧(OutSt W1 n1 (.slice ea i ec) (.slice ak i aj) vs an am)∧(n1≤W1.heap.size)∧nn_=n - i) (n:=n - 0) ?_ ?_
 ·exact ⟨0,[],[],[],none,none,0,0,Af.out ⟨rfl,rfl,rfl,rfl,rfl,rfl,rfl,trivial⟩,E,Bd,Bo,Bx,Nat.zero_le _,rfl,rfl,OutSt.start _ _,qO,rfl⟩
 ·clear E Bd Bo Bx;rintro _ _ W1 ⟨i,am,an,vs,ea,ak,ec,aj,⟨j1,rfl⟩,E,Bd,Bo,Bx,hi,aq,ap,hO,ax,rfl⟩;refine Y (qV (Av (k:=.i64) (a:=(i:Int)) (b:=(n:Int)) rfl rfl) (AA (AE (qC rfl (fun d5=>?_) (fun d5=>?_)))))
  ·obtain ⟨row,ra,rc,av,co,bb,cw⟩:=au i qO;obtain ⟨z0,hz0⟩:∃z0,z0=(W1).heap.size:=⟨_,rfl⟩;have bk:∀b,Ek (.slice ea i ec) (.slice ak i aj) vs b→b<z0:=fun b hb=>by have:=(hO.lt hb).2;omega
   have hnz:n1≤z0:=qO
   refine AK (AB (AE (AM (Y (qM (I6 (i:Int)) rfl (qV (AC (b:=nb) (o:=no) (len:=n) (cap:=nc) (i:=i) (o':=no+i) rfl rfl rfl underlying50 BG qO qO) (qV (AD (v:=(.slice ra row.length rc)) rfl BX (E.cell (fun f=>f) bb)) (qA (I6 (i:Int)) rfl (qA (.slice ra row.length rc) rfl (AA (Y (qM (.slice ra row.length rc) rfl (qE rfl (AT (vs:=[(.slice ra row.length rc)]) func83 kQ kQ rfl) (TU _ _ row (cw.ext E) qO qO) ?_)))))))))))));rintro _ w9 ⟨⟨bq,bi,k9,rfl,hq,hQ,ct,d0⟩,X9⟩;replace Bd:=X9.keep Bd;replace Bo:=X9.keep Bo;replace Bx:=X9.keep Bx;replace hO:=hO.ext X9;replace ax:=Nat.le_trans ax X9.size;replace E:=E.ext X9;have hqz:z0≤bq:=qO
   rw[show row.map (Value.int .i64)=(Mg n row 0).map (Value.int .i64) by rw[SY]] at hQ;refine qA (.slice (some ⟨bq,0,none⟩) row.length k9) rfl (AA (AE (Y (qM (.slice (some ⟨bq,0,none⟩) row.length k9) rfl (qV (AH (ad:=some ⟨bq,0,none⟩) (n:=row.length) (cap:=k9) underlying22 rfl) (qM (I6 0) rfl (AA (AM (Am (fun nn_ σ W3=>∃(x:Nat),(∃jj_,σ=BQ jj_ [(1,(P6 bd 0)),(2,(P6 bo 0)),(3,(I6 (n:Int))),(4,(P6 bx 0)),(5,(I6 (i:Int))),(7,(.slice (some ⟨bq,0,none⟩) row.length k9)),(17,(.slice (some ⟨nb,no,none⟩) n nc)),(18,(I6 (n:Int))),(19,(I6 (i:Int))),(26,(.slice (some ⟨bq,0,none⟩) row.length k9)),(27,(I6 (row.length:Int))),(28,(I6 (x:Int)))])∧Chg AZ w0 W3∧Az W3 bd #[(I6 d.start),(.slice (some ⟨ab,ao,none⟩) n ac),(.slice (some ⟨nb,no,none⟩) n nc)] 52∧Az W3 bo #[(I6 0),(.slice none 0 0),(.slice none 0 0)] 52∧Az W3 bx (#[Value.int .i64 d.start,.slice ea i ec,.slice ak i aj]) 52∧Az W3 bq (((Mg n row x).map (Value.int .i64)++bi).toArray) 3∧(x≤c)∧(OutSt W3 n1 (.slice ea i ec) (.slice ak i aj) vs an am)∧(n1≤W3.heap.size)∧nn_=c - x) (n:=c - 0) ?_ ?_)))))))))
   ·exact ⟨0,Af.out ⟨rfl,rfl,rfl,rfl,rfl,rfl,rfl,rfl,rfl,rfl,rfl,rfl,trivial⟩,E,Bd,Bo,Bx,hQ,Nat.zero_le _,hO,ax,rfl⟩
   ·clear E Bd Bo Bx hQ;rintro _ _ W3 ⟨x,⟨j3,rfl⟩,E,Bd,Bo,Bx,hQ,hx,hO,ax,rfl⟩;refine Y (qV (Av (k:=.i64) (a:=(x:Int)) (b:=(row.length:Int)) rfl rfl) (AA (AE (qC rfl (fun b3=>?_) (fun b3=>?_)))))
    ·obtain ⟨t,ht⟩:=AL (l:=row) (i:=x) qO;refine AK (AB (AE (AM (Y (qM (I6 (x:Int)) rfl (qV (AC (b:=bq) (o:=0) (len:=row.length) (cap:=k9) (i:=x) (o':=0+x) rfl rfl rfl underlying22 Ab qO qO) (qV (AD (v:=(I6 t)) rfl Aa (by rw[Nat.zero_add];exact OT hQ (UZ ht))) (qA (I6 (x:Int)) rfl (qA (I6 t) rfl (AA (Y (qM (I6 t) rfl (qV (Av (k:=.i64) (a:=t) (b:=0) rfl rfl) (AA (qC rfl (fun a2=>?_) (fun a2=>?_))))))))))))))))
     ·refine AG (qM (.slice (some ⟨bq,0,none⟩) row.length k9) rfl (qM (I6 (x:Int)) rfl (qM (I6 (n:Int)) rfl (qV (AC (b:=bq) (o:=0) (len:=row.length) (cap:=k9) (i:=x) (o':=0+x) rfl rfl rfl underlying22 Ab qO qO) (BB (b:=bq) (o:=0+x) (c':=((Mg n row (x+1)).map (Value.int .i64)++bi).toArray) (v:=(I6 (n:Int))) rfl rfl rfl Ab hQ (by simp[P8];omega) (by rw[Nat.zero_add,Sn (by rw[P8];omega),UY ht a2]) ?_)))));intro w6 S6;replace hO:=hO.chg S6.chg fun b hb h=>by have:=bk b hb;have h':b=bq:=h;omega
      replace ax:=Nat.le_trans ax S6.chg.size;replace Bd:=S6.keep qO Bd;replace Bo:=S6.keep qO Bo;replace Bx:=S6.keep qO Bx;replace E:=S6.step E qQ;replace hQ:=S6.blk;refine AA (AP (AB (AG (qV (Aq (k:=.i64) (a:=(x:Int)) (b:=1) (c:=(x:Int)+1) rfl rfl (A2 qO)) (qM (I6 ((x:Int)+1)) rfl (AA (AB ?_)))))));exact ⟨c - (x+1),qO,x+1,Af.out ⟨rfl,rfl,rfl,rfl,rfl,rfl,rfl,rfl,rfl,rfl,rfl,rfl,trivial⟩,E,Bd,Bo,Bx,hQ,qO,hO,ax,rfl⟩
     ·rw[SZ ht a2] at hQ;refine AK (AP (AB (AG (qV (Aq (k:=.i64) (a:=(x:Int)) (b:=1) (c:=(x:Int)+1) rfl rfl (A2 qO)) (qM (I6 ((x:Int)+1)) rfl (AA (AB ?_)))))));exact ⟨c - (x+1),qO,x+1,Af.out ⟨rfl,rfl,rfl,rfl,rfl,rfl,rfl,rfl,rfl,rfl,rfl,rfl,trivial⟩,E,Bd,Bo,Bx,hQ,qO,hO,ax,rfl⟩
    ·have cr:x=row.length:=qO
     rw[cr,Ua] at hQ;have b8:=US (base:=bq) hQ (Nat.le_refl _) (by rw[List.length_map];exact ct) d0;rw[List.length_map] at b8;obtain ⟨n4,bs⟩:∃n4,n4=(W3).heap.size:=⟨_,rfl⟩;have bn:am.length=i:=by rw[aq,List.length_map,List.length_take];omega
     have ar:an.length=i:=by rw[ap,List.length_map,List.length_take];omega
     have ah:(W3).ownsRow n1 DP 1 (.slice ea i ec) i (an.map (Value.int .i64)):=by have h9:=hO.e;rwa [ar] at h9
     have ai:(W3).ownsRow n1 Co 1 (.slice ak i aj) i vs:=hO.n.on (by rw[List.length_map];omega);have bv:=IK ok (show i<n by omega);obtain ⟨yv,eg⟩:∃y,y=EX d ((i:Nat):Int):=⟨_,rfl⟩;rw[←eg] at bv;refine Ak (AR (AR (Ae (AB ?_))));obtain ⟨c6,ag⟩:∃Fs:List C1,Fs=[(fun _ v _=>v=(P6 bx 2)),(fun _ v _=>v=(.slice ak i aj)),(fun _ v _=>v=(.slice (some ⟨bq,0,none⟩) row.length k9)),(fun _=>C0 Co #[.slice (some ⟨bq,0,none⟩) row.length k9] n4),(fun _=>Cd n1 Co 1 (i+1) (vs++[Value.slice (some ⟨bq,0,none⟩) row.length k9]) (.slice ak i aj) n4),(fun _ v _=>v=(P6 bx 1)),(fun _ v _=>v=(.slice ea i ec)),(fun _ v _=>v=(P6 bd 1)),(fun _ v _=>v=(.slice (some ⟨ab,ao,none⟩) n ac)),(fun _ v _=>v=(I6 (i:Int))),(fun _ v _=>v=(.pointer (some ⟨ab,ao+i,none⟩))),(fun _ v _=>v=(I6 yv)),(fun _ v _=>v=(.bool (decide (yv<0)))),(fun _ v _=>v=(I6 (fl yv))),(fun _=>C0 DP #[.int .i64 (fl yv)] n4),(fun s v w=>Cd n1 DP 1 (i+1) (an.map (Value.int .i64)++[Value.int .i64 (fl yv)]) (.slice ea i ec) n4 v w∧∀b,(s 44).ownBlock=some b→v.ownBlock≠some b),(fun _ v _=>v=(P6 bx 2))]:=⟨_,rfl⟩;refine Hq (two 4 15 (fun b=>(Value.slice ak i aj).ownBlock=some b) (fun b=>(Value.slice ea i ec).ownBlock=some b)) 17 [40,41,42,43,44,45,46,47,48,49,50,51,52,53,54,55,56] [[],[0],[],[2],[1,3],[],[5],[],[7],[],[8,9],[10],[11],[4,12],[13],[6,13,14],[0,1,2,3,4,5,6]] [[],[0],[],[2],[1,0,3,2],[],[5],[],[7],[],[8,7,9],[10,8,7,9],[11,10,8,7,9],[4,1,0,3,2,12,11,10,8,7,9],[13,4,1,0,3,2,12,11,10,8,7,9],[6,5,13,4,1,0,3,2,12,11,10,8,7,9,14],[0,1,2,3,4,5,6]] c6 ag qK mixed qK qK qK ?_ ?_
     ·intro wd X0;refine DagStepsX.cons (A8.eq) (fun _ _ _ _ _ h=>h) (fun s' w' X U H=>?_) ?_
      ·exact AY (AN (b:=bx) (o:=0) (o':=2) (U 4 rfl) underlying52 rfl CB rfl) (Chg.refl _ _) rfl
      refine DagStepsX.cons (A8.eq) (fun _ _ _ _ _ h=>h) (fun s' w' X U H=>?_) ?_
      ·have dp:=H 0 rfl 40 _ rfl (by rw[ag];rfl);exact AY (AD (v:=(.slice ak i aj)) dp B0 ((Chg.keep X (fun h=>(fun h=>h.elim (fun h=>by have:=(ai.lt _ h).1;omega) (fun h=>by have:=(ah.lt _ h).1;omega)) (C5.or h)) (X0.keep Bx)).cell rfl)) (Chg.refl _ _) rfl
      refine DagStepsX.cons (A8.eq) (fun _ _ _ _ _ h=>h) (fun s' w' X U H=>?_) ?_
      ·exact AY (Ah (v:=(.slice (some ⟨bq,0,none⟩) row.length k9)) (U 7 rfl)) (Chg.refl _ _) rfl
      refine DagStepsX.cons (C6 (fun y h=>by have:=(ai.lt y h).2;omega) (fun y h=>by have:=(ah.lt y h).2;omega)) (F_.const) (fun s' w' X U H=>?_) ?_
      ·have c0:=H 2 rfl 42 _ rfl (by rw[ag];rfl);exact Cq (hs:=n4) underlying50 BG EG c0 qD qD qK (by have:=X0.size;have:=X.size;omega)
      refine DagStepsX.cons (HQ (fun k hk hm=>hk.elim (fun h=>hO.en k hm h) (fun h=>by have:=(ah.lt k hm).2;omega))) (F_.const) (fun s' w' X U H=>?_) ?_
      ·have d4:=H 1 rfl 41 _ rfl (by rw[ag];rfl);obtain ⟨b43,dy,dr,g43⟩:=(show ((fun _=>C0 Co #[.slice (some ⟨bq,0,none⟩) row.length k9] n4):C1) s' (s' 43) w' from H 3 rfl 43 ((fun _=>C0 Co #[.slice (some ⟨bq,0,none⟩) row.length k9] n4)) rfl (by rw[ag];rfl));exact CL (hs:=n4) underlying50 BG K6 EG rfl qD d4 (Aj (Aj ai X0) (X.mono (fun y _ h=>C5.none rfl rfl h))) dy rfl (dr.cells rfl) qS (by unfold maxLen;omega) qO (by have:=X0.size;have:=X.size;omega) (fun y h=>h) (by have:=X0.size;have:=X.size;omega)
      refine DagStepsX.cons (A8.eq) (fun _ _ _ _ _ h=>h) (fun s' w' X U H=>?_) ?_
      ·exact AY (AN (b:=bx) (o:=0) (o':=1) (U 4 rfl) underlying52 rfl BG rfl) (Chg.refl _ _) rfl
      refine DagStepsX.cons (A8.eq) (fun _ _ _ _ _ h=>h) (fun s' w' X U H=>?_) ?_
      ·have dj:=H 5 rfl 45 _ rfl (by rw[ag];rfl);exact AY (AD (v:=(.slice ea i ec)) dj BX ((Chg.keep X (fun h=>(fun h=>h.elim (fun h=>by have:=(ai.lt _ h).1;omega) (fun h=>by have:=(ah.lt _ h).1;omega)) (C5.or h)) (X0.keep Bx)).cell rfl)) (Chg.refl _ _) rfl
      refine DagStepsX.cons (A8.eq) (fun _ _ _ _ _ h=>h) (fun s' w' X U H=>?_) ?_
      ·exact AY (AN (b:=bd) (o:=0) (o':=1) (U 1 rfl) underlying52 rfl BG rfl) (Chg.refl _ _) rfl
      refine DagStepsX.cons (A8.eq) (fun _ _ _ _ _ h=>h) (fun s' w' X U H=>?_) ?_
      ·have ed:=H 7 rfl 47 _ rfl (by rw[ag];rfl);exact AY (AD (v:=(.slice (some ⟨ab,ao,none⟩) n ac)) ed BX ((Chg.keep X (fun h=>(fun h=>h.elim (fun h=>by have:=(ai.lt _ h).1;omega) (fun h=>by have:=(ah.lt _ h).1;omega)) (C5.or h)) (X0.keep Bd)).cell rfl)) (Chg.refl _ _) rfl
      refine DagStepsX.cons (A8.eq) (fun _ _ _ _ _ h=>h) (fun s' w' X U H=>?_) ?_
      ·exact AY (Ah (v:=(I6 (i:Int))) (U 5 rfl)) (Chg.refl _ _) rfl
      refine DagStepsX.cons (A8.eq) (fun _ _ _ _ _ h=>h) (fun s' w' X U H=>?_) ?_
      ·have dn:=H 8 rfl 48 _ rfl (by rw[ag];rfl);have dd:=H 9 rfl 49 _ rfl (by rw[ag];rfl);exact AY (AC (b:=ab) (o:=ao) (len:=n) (cap:=ac) (i:=i) (o':=ao+i) dn dd rfl underlying22 Ab qO qO) (Chg.refl _ _) rfl
      refine DagStepsX.cons (A8.eq) (fun _ _ _ _ _ h=>h) (fun s' w' X U H=>?_) ?_
      ·have c3:=H 10 rfl 50 _ rfl (by rw[ag];rfl);exact AY (AD (v:=(I6 yv)) c3 Aa (Chg.cell X (fun h=>(C5.or h).elim (fun h=>by have:=(ai.lt ab h).1;omega) (fun h=>by have:=(ah.lt ab h).1;omega)) (X0.cell (E.cell (fun f=>f) (ci i _ bv))))) (Chg.refl _ _) rfl
      refine DagStepsX.cons (A8.eq) (fun _ _ _ _ _ h=>h) (fun s' w' X U H=>?_) ?_
      ·have dl:=H 11 rfl 51 _ rfl (by rw[ag];rfl);exact AY (Av dl rfl) (Chg.refl _ _) rfl
      refine DagStepsX.cons (A8.eq) (fun _ _ _ _ _ h=>h) (fun s' w' X U H=>?_) ?_
      ·have c5:=H 12 rfl 52 _ rfl (by rw[ag];rfl);exact Dv (AT (vs:=[(.bool (decide (yv<0)))]) func161 kQ kQ (LL c5)) (RA yv _)
      refine DagStepsX.cons (C6 (fun y h=>by have:=(ai.lt y h).2;omega) (fun y h=>by have:=(ah.lt y h).2;omega)) (F_.const) (fun s' w' X U H=>?_) ?_
      ·have c4:=H 13 rfl 53 _ rfl (by rw[ag];rfl);exact Cq (hs:=n4) underlying22 Ab CW c4 qD qD qK (by have:=X0.size;have:=X.size;omega)
      refine DagStepsX.cons (HP rfl) (fun s1 s2 h v w h2=>⟨h2.1,by have:=h 4 44 rfl rfl;rw[this];exact h2.2⟩) (fun s' w' X U H=>?_) ?_
      ·have ee:=H 6 rfl 46 _ rfl (by rw[ag];rfl);obtain ⟨b54,db,du,g54⟩:=(show ((fun _=>C0 DP #[.int .i64 (fl yv)] n4):C1) s' (s' 54) w' from H 14 rfl 54 ((fun _=>C0 DP #[.int .i64 (fl yv)] n4)) rfl (by rw[ag];rfl));exact Hp (H 4 rfl 44 _ rfl (by rw[ag];rfl)) (CL (hs:=w'.heap.size) underlying22 Ab GO CW rfl qD ee (Ax (Aj ah X0) (X.mono (fun y _ h=>C5.fst rfl h)) (fun k hk hm=>hO.en k hk hm)) db rfl (du.cells rfl) qS (by unfold maxLen;omega) qO (by have:=X0.size;have:=X.size;omega) (fun y h=>h) (Nat.le_refl _)) (by have:=X0.size;have:=X.size;omega) (fun k h1 h2=>h1.elim (fun h=>hO.en k h2 h) (fun h=>by have:=(ah.lt k h2).2;omega))
      refine DagStepsX.cons (A8.eq) (fun _ _ _ _ _ h=>h) (fun s' w' X U H=>?_) ?_
      ·exact AY (AN (b:=bx) (o:=0) (o':=2) (U 4 rfl) underlying52 rfl CB rfl) (Chg.refl _ _) rfl
      exact DagStepsX.nil
     ·intro s' wd7 w7 X0 X7 U H;replace X7:=X7.mono (M':=fun y=>(fun b=>(Value.slice ak i aj).ownBlock=some b) y∨(fun b=>(Value.slice ea i ec).ownBlock=some b) y) (fun y _ h=>by obtain ⟨j,h⟩:=h;rcases E5 h with h|h;exact .inl h.2;exact .inr h.2);obtain ⟨⟨a8,a7,cm⟩,cq,cg⟩:=(show ((fun _=>Cd n1 Co 1 (i+1) (vs++[Value.slice (some ⟨bq,0,none⟩) row.length k9]) (.slice ak i aj) n4):C1) s' (s' 44) w7 from H 4 44 ((fun _=>Cd n1 Co 1 (i+1) (vs++[Value.slice (some ⟨bq,0,none⟩) row.length k9]) (.slice ak i aj) n4)) rfl (by rw[ag];rfl));obtain ⟨⟨⟨bg,bh,ch⟩,ck,b4⟩,b0⟩:=(show ((fun s v w=>Cd n1 DP 1 (i+1) (an.map (Value.int .i64)++[Value.int .i64 (fl yv)]) (.slice ea i ec) n4 v w∧∀b,(s 44).ownBlock=some b→v.ownBlock≠some b):C1) s' (s' 55) w7 from H 15 55 ((fun s v w=>Cd n1 DP 1 (i+1) (an.map (Value.int .i64)++[Value.int .i64 (fl yv)]) (.slice ea i ec) n4 v w∧∀b,(s 44).ownBlock=some b→v.ownBlock≠some b)) rfl (by rw[ag];rfl));have d8:s' 56=(.pointer (some ⟨bx,2,none⟩)):=H 16 56 ((fun _ v _=>v=(.pointer (some ⟨bx,2,none⟩)))) rfl (by rw[ag];rfl);obtain ⟨j7,rfl⟩:=Af.out (σ:=s') (l:=[(1,(.pointer (some ⟨bd,0,none⟩))),(2,(.pointer (some ⟨bo,0,none⟩))),(3,(.int .i64 ((n:Nat):Int))),(4,(.pointer (some ⟨bx,0,none⟩))),(17,(.slice (some ⟨nb,no,none⟩) n nc)),(18,(.int .i64 ((n:Nat):Int))),(19,(.int .i64 ((i:Nat):Int))),(44,(.slice a8 (i+1) a7)),(55,(.slice bg (i+1) bh)),(56,(.pointer (some ⟨bx,2,none⟩)))]) ⟨U 1 rfl,U 2 rfl,U 3 rfl,U 4 rfl,U 17 rfl,U 18 rfl,U 19 rfl,cm,ch,d8,trivial⟩;clear U H;replace Bd:=Chg.keep X7 (fun h=>h.elim (fun h=>by have:=(ai.lt _ h).1;omega) (fun h=>by have:=(ah.lt _ h).1;omega)) (X0.keep Bd);replace Bo:=Chg.keep X7 (fun h=>h.elim (fun h=>by have:=(ai.lt _ h).1;omega) (fun h=>by have:=(ah.lt _ h).1;omega)) (X0.keep Bo);replace Bx:=Chg.keep X7 (fun h=>h.elim (fun h=>by have:=(ai.lt _ h).1;omega) (fun h=>by have:=(ah.lt _ h).1;omega)) (X0.keep Bx);replace hQ:=Chg.keep X7 (fun h=>h.elim (fun h=>by have:=bk _ (.inr (.inl h));omega) (fun h=>by have:=bk _ (.inl h);omega)) (X0.keep hQ);have bp:=Chg.trans (Ao.chg X0) X7;replace E:=(E.ext X0).step X7 (fun y hy h=>h.elim (fun h=>by have:=(ai.lt y h).1;omega) (fun h=>by have:=(ah.lt y h).1;omega));rw[cm] at cq cg b0;rw[ch] at ck b4 b0;have a5:=hO.push (y:=fl yv) (row:=row.map (nt n)) (N':=.slice a8 (i+1) a7) (E':=.slice bg (i+1) bh) b8 (by rw[List.length_map]) qO (fun b hb=>by have:=bk b hb;omega) bp (by rw[bn];exact cq) (fun k hk=>by rw[←bs];exact cg k hk) (by rw[ar,List.map_append];exact ck) (fun k hk=>by rw[←bs];exact b4 k hk) b0;have aw:=Nat.le_trans ax bp.size;refine BB (b:=bx) (o:=2) (c':=#[(I6 d.start),(.slice ea i ec),(.slice a8 (i+1) a7)]) (v:=(.slice a8 (i+1) a7)) rfl rfl rfl CB Bx qP rfl ?_;intro w8 S8;replace a5:=a5.chg S8.chg fun b hb h=>by have:=(a5.lt hb).1;have h':b=bx:=h;omega
      replace aw:=Nat.le_trans aw S8.chg.size;replace Bd:=S8.keep qO Bd;replace Bo:=S8.keep qO Bo;replace hQ:=S8.keep qO hQ;replace E:=S8.step E qQ;replace Bx:=S8.blk;refine qF bx 0 1 rfl underlying52 rfl BG rfl (BB (b:=bx) (o:=1) (c':=#[(I6 d.start),(.slice bg (i+1) bh),(.slice a8 (i+1) a7)]) (v:=(.slice bg (i+1) bh)) rfl rfl rfl BG Bx qP rfl ?_);intro w9 S9;replace a5:=a5.chg S9.chg fun b hb h=>by have:=(a5.lt hb).1;have h':b=bx:=h;omega
      replace aw:=Nat.le_trans aw S9.chg.size;replace Bd:=S9.keep qO Bd;replace Bo:=S9.keep qO Bo;replace hQ:=S9.keep qO hQ;replace E:=S9.step E qQ;replace Bx:=S9.blk;refine AA (AP (AB (AG (qV (Aq (k:=.i64) (a:=(i:Int)) (b:=1) (c:=(i:Int)+1) rfl rfl (A2 qO)) (qM (I6 ((i:Int)+1)) rfl (AA (AB ?_)))))));exact ⟨n - (i+1),qO,i+1,am++[row.map (nt n)],an++[fl yv],vs++[.slice (some ⟨bq,0,none⟩) row.length k9],bg,a8,bh,a7,Af.out ⟨rfl,rfl,rfl,rfl,rfl,rfl,rfl,trivial⟩,E,Bd,Bo,Bx,qO,(by rw[Ed av,List.map_append,aq];rfl),(by rw[Ed bv,List.map_append,ap];rfl),a5,aw,rfl⟩
  ·have cl:i=n:=qO
   obtain ⟨af,bt,b2,cp,bw,a6,di⟩:=au 0 qO;obtain ⟨n4,bs⟩:∃n4,n4=(W1).heap.size:=⟨_,rfl⟩;have bn:am.length=n:=by rw[aq,List.length_map,List.length_take];omega
   have ar:an.length=n:=by rw[ap,List.length_map,List.length_take];omega
   rw[cl] at hO Bx;have ah:(W1).ownsRow n1 DP 1 (.slice ea n ec) n (an.map (Value.int .i64)):=by have h9:=hO.e;rwa [ar] at h9
   have ai:(W1).ownsRow n1 Co 1 (.slice ak n aj) n vs:=hO.n.on (by rw[List.length_map];omega);refine Ak (AR (AR (Ae (AB (AE ?_)))));obtain ⟨bz,ae⟩:∃Fs:List C1,Fs=[(fun _ v _=>v=(P6 bx 2)),(fun _ v _=>v=(.slice ak n aj)),(fun _ v _=>v=(I6 (n:Int))),(fun _=>C0 DP #[.int .i64 (n:Int)] n4),(fun _ v _=>v=(P6 bd 2)),(fun _ v _=>v=(.slice (some ⟨nb,no,none⟩) n nc)),(fun _ v _=>v=(.pointer (some ⟨nb,no+0,none⟩))),(fun _ v _=>v=(.slice bt af.length b2)),(fun _ v _=>v=(I6 (af.length:Int))),(fun _=>Cd n4 DP 1 af.length ((List.replicate af.length (n:Int)).map (Value.int .i64)) (.slice none 0 0) n4),(fun s v w=>C0 Co #[s 68] n4 v w),(fun s v w=>Cd n1 Co 1 (n+1) (vs++[s 68]) (.slice ak n aj) n4 v w∧∀b,(s 68).ownBlock=some b→v.ownBlock≠some b),(fun _ v _=>v=(P6 bx 1)),(fun _ v _=>v=(.slice ea n ec)),(fun _=>C0 DP #[.int .i64 0] n4),(fun _=>Cd n1 DP 1 (n+1) (an.map (Value.int .i64)++[Value.int .i64 0]) (.slice ea n ec) n4),(fun _ v _=>v=(P6 bx 2))]:=⟨_,rfl⟩;refine Hq (two 11 15 (fun b=>(Value.slice ak n aj).ownBlock=some b) (fun b=>(Value.slice ea n ec).ownBlock=some b)) 17 [59,60,61,62,63,64,65,66,67,68,69,70,71,72,73,74,75] [[],[0],[],[2],[],[4],[5],[6],[7],[3,8],[9],[1,9,10],[],[12],[],[11,13,14],[0,1,2,3,4,5,6,7,8,9,10,11,12,13]] [[],[0],[],[2],[],[4],[5,4],[6,5,4],[7,6,5,4],[3,2,8,7,6,5,4],[9,3,2,8,7,6,5,4],[1,0,9,3,2,8,7,6,5,4,10],[],[12],[],[11,1,0,9,3,2,8,7,6,5,4,10,13,12,14],[0,1,2,3,4,5,6,7,8,9,10,11,12,13]] bz ae qK mixed qK qK qK ?_ ?_
   ·intro wd X0;refine DagStepsX.cons (A8.eq) (fun _ _ _ _ _ h=>h) (fun s' w' X U H=>?_) ?_
    ·exact AY (AN (b:=bx) (o:=0) (o':=2) (U 4 rfl) underlying52 rfl CB rfl) (Chg.refl _ _) rfl
    refine DagStepsX.cons (A8.eq) (fun _ _ _ _ _ h=>h) (fun s' w' X U H=>?_) ?_
    ·have dh:=H 0 rfl 59 _ rfl (by rw[ae];rfl);exact AY (AD (v:=(.slice ak n aj)) dh B0 ((Chg.keep X (fun h=>(fun h=>h.elim (fun h=>by have:=(ai.lt _ h).1;omega) (fun h=>by have:=(ah.lt _ h).1;omega)) (C5.or h)) (X0.keep Bx)).cell rfl)) (Chg.refl _ _) rfl
    refine DagStepsX.cons (A8.eq) (fun _ _ _ _ _ h=>h) (fun s' w' X U H=>?_) ?_
    ·exact AY (Ah (v:=(I6 (n:Int))) (U 3 rfl)) (Chg.refl _ _) rfl
    refine DagStepsX.cons (C6 (fun y h=>by have:=(ai.lt y h).2;omega) (fun y h=>by have:=(ah.lt y h).2;omega)) (F_.const) (fun s' w' X U H=>?_) ?_
    ·have d9:=H 2 rfl 61 _ rfl (by rw[ae];rfl);exact Cq (hs:=n4) underlying22 Ab CW d9 qD qD qK (by have:=X0.size;have:=X.size;omega)
    refine DagStepsX.cons (A8.eq) (fun _ _ _ _ _ h=>h) (fun s' w' X U H=>?_) ?_
    ·exact AY (AN (b:=bd) (o:=0) (o':=2) (U 1 rfl) underlying52 rfl CB rfl) (Chg.refl _ _) rfl
    refine DagStepsX.cons (A8.eq) (fun _ _ _ _ _ h=>h) (fun s' w' X U H=>?_) ?_
    ·have cv:=H 4 rfl 63 _ rfl (by rw[ae];rfl);exact AY (AD (v:=(.slice (some ⟨nb,no,none⟩) n nc)) cv B0 ((Chg.keep X (fun h=>(fun h=>h.elim (fun h=>by have:=(ai.lt _ h).1;omega) (fun h=>by have:=(ah.lt _ h).1;omega)) (C5.or h)) (X0.keep Bd)).cell rfl)) (Chg.refl _ _) rfl
    refine DagStepsX.cons (A8.eq) (fun _ _ _ _ _ h=>h) (fun s' w' X U H=>?_) ?_
    ·have da:=H 5 rfl 64 _ rfl (by rw[ae];rfl);exact AY (AC (b:=nb) (o:=no) (len:=n) (cap:=nc) (i:=0) (o':=no+0) da rfl rfl underlying50 BG qO qO) (Chg.refl _ _) rfl
    refine DagStepsX.cons (A8.eq) (fun _ _ _ _ _ h=>h) (fun s' w' X U H=>?_) ?_
    ·have dx:=H 6 rfl 65 _ rfl (by rw[ae];rfl);exact AY (AD (v:=(.slice bt af.length b2)) dx BX (Chg.cell X (fun h=>(C5.or h).elim (fun h=>by have:=(ai.lt nb h).1;omega) (fun h=>by have:=(ah.lt nb h).1;omega)) (X0.cell (E.cell (fun f=>f) a6)))) (Chg.refl _ _) rfl
    refine DagStepsX.cons (A8.eq) (fun _ _ _ _ _ h=>h) (fun s' w' X U H=>?_) ?_
    ·have df:=H 7 rfl 66 _ rfl (by rw[ae];rfl);exact AY (AH (ad:=bt) (n:=af.length) (cap:=b2) underlying22 df) (Chg.refl _ _) rfl
    refine DagStepsX.cons (Tn (fun y h=>by have:=(ai.lt y h).2;omega) (fun y h=>by have:=(ah.lt y h).2;omega)) (F_.const) (fun s' w' X U H=>?_) ?_
    ·obtain ⟨cd,cs,d6,g62⟩:=(show ((fun _=>C0 DP #[.int .i64 (n:Int)] n4):C1) s' (s' 62) w' from H 3 rfl 62 ((fun _=>C0 DP #[.int .i64 (n:Int)] n4)) rfl (by rw[ae];rfl));have ds:=H 8 rfl 67 _ rfl (by rw[ae];rfl);exact Dv (AT (vs:=[(.slice (some ⟨cd,0,none⟩) 1 1),(I6 (af.length:Int))]) func163 kQ kQ (JD cs ds)) (R7 _ cd 1 af.length n4 (n:Int) _ d6 qO qO (by have:=X0.size;have:=X.size;omega))
    refine DagStepsX.cons (Si (fun y h=>by have:=(ai.lt y h).2;omega) (fun y h=>by have:=(ah.lt y h).2;omega)) (fun s1 s2 h v w h2=>by have:=h 9 68 rfl rfl;rw[this];exact h2) (fun s' w' X U H=>?_) ?_
    ·obtain ⟨⟨d1,dw,bu⟩,cn,c9⟩:=(show ((fun _=>Cd n4 DP 1 af.length ((List.replicate af.length (n:Int)).map (Value.int .i64)) (.slice none 0 0) n4):C1) s' (s' 68) w' from H 9 rfl 68 ((fun _=>Cd n4 DP 1 af.length ((List.replicate af.length (n:Int)).map (Value.int .i64)) (.slice none 0 0) n4)) rfl (by rw[ae];rfl));exact Cq (hs:=n4) underlying50 BG EG bu qD qD (by rw[bu];kernel_rfl) (by have:=X0.size;have:=X.size;omega)
    refine DagStepsX.cons (Tl (fun k hk hm=>hk.elim (fun h=>hO.en k hm h) (fun h=>by have:=(ah.lt k hm).2;omega))) (fun s1 s2 h v w h2=>by have:=h 9 68 rfl rfl;rw[this];exact h2) (fun s' w' X U H=>?_) ?_
    ·have dt:=H 1 rfl 60 _ rfl (by rw[ae];rfl);obtain ⟨b69,dg,dk,g69⟩:=(show ((fun s v w=>C0 Co #[s 68] n4 v w):C1) s' (s' 69) w' from H 10 rfl 69 ((fun s v w=>C0 Co #[s 68] n4 v w)) rfl (by rw[ae];rfl));exact Hp (H 9 rfl 68 _ rfl (by rw[ae];rfl)) (CL (hs:=w'.heap.size) underlying50 BG K6 EG rfl qD dt (Aj (Aj ai X0) (X.mono (fun y _ h=>C5.none rfl rfl h))) dg rfl (dk.cells rfl) (by have h9:Cd n4 DP 1 af.length ((List.replicate af.length (n:Int)).map (Value.int .i64)) (.slice none 0 0) n4 (s' 68) w':=H 9 rfl 68 _ rfl (by rw[ae];rfl);obtain ⟨⟨_,_,e9⟩,_⟩:=h9;intro u hu;rw[List.mem_singleton] at hu;rw[hu,e9];rfl) (by unfold maxLen;omega) qO (by have:=X0.size;have:=X.size;omega) (fun y h=>h) (Nat.le_refl _)) (by have:=X0.size;have:=X.size;omega) (fun k h1 h2=>h1.elim (fun h=>by cases h) (fun h=>by have:=(ai.lt k h2).2;omega))
    refine DagStepsX.cons (A8.eq) (fun _ _ _ _ _ h=>h) (fun s' w' X U H=>?_) ?_
    ·exact AY (AN (b:=bx) (o:=0) (o':=1) (U 4 rfl) underlying52 rfl BG rfl) (Chg.refl _ _) rfl
    refine DagStepsX.cons (A8.eq) (fun _ _ _ _ _ h=>h) (fun s' w' X U H=>?_) ?_
    ·have c7:=H 12 rfl 71 _ rfl (by rw[ae];rfl);exact AY (AD (v:=(.slice ea n ec)) c7 BX ((Chg.keep X (fun h=>(fun h=>h.elim (fun h=>by have:=(ai.lt _ h).1;omega) (fun h=>by have:=(ah.lt _ h).1;omega)) (C5.or h)) (X0.keep Bx)).cell rfl)) (Chg.refl _ _) rfl
    refine DagStepsX.cons (C6 (fun y h=>by have:=(ai.lt y h).2;omega) (fun y h=>by have:=(ah.lt y h).2;omega)) (F_.const) (fun s' w' X U H=>?_) ?_
    ·exact Cq (hs:=n4) underlying22 Ab CW rfl qD qD qK (by have:=X0.size;have:=X.size;omega)
    refine DagStepsX.cons (Tm rfl) (F_.const) (fun s' w' X U H=>?_) ?_
    ·have dc:=H 13 rfl 72 _ rfl (by rw[ae];rfl);obtain ⟨b73,c8,eb,g73⟩:=(show ((fun _=>C0 DP #[.int .i64 0] n4):C1) s' (s' 73) w' from H 14 rfl 73 ((fun _=>C0 DP #[.int .i64 0] n4)) rfl (by rw[ae];rfl));exact CL (hs:=n4) underlying22 Ab GO CW rfl qD dc (Ax (Aj ah X0) (X.mono (fun y _ h=>C5.fst rfl h)) (fun k hk hm=>hO.en k hk hm)) c8 rfl (eb.cells rfl) qS (by unfold maxLen;omega) qO (by have:=X0.size;have:=X.size;omega) (fun y h=>h) (by have:=X0.size;have:=X.size;omega)
    refine DagStepsX.cons (A8.eq) (fun _ _ _ _ _ h=>h) (fun s' w' X U H=>?_) ?_
    ·exact AY (AN (b:=bx) (o:=0) (o':=2) (U 4 rfl) underlying52 rfl CB rfl) (Chg.refl _ _) rfl
    exact DagStepsX.nil
   ·intro s' d3 bj X0 a4 U H;replace a4:=a4.mono (M':=fun y=>(fun b=>(Value.slice ak n aj).ownBlock=some b) y∨(fun b=>(Value.slice ea n ec).ownBlock=some b) y) (fun y _ h=>by obtain ⟨j,h⟩:=h;rcases E5 h with h|h;exact .inl h.2;exact .inr h.2);obtain ⟨⟨d1,dw,bu⟩,cn,c9⟩:=(show ((fun _=>Cd n4 DP 1 af.length ((List.replicate af.length (n:Int)).map (Value.int .i64)) (.slice none 0 0) n4):C1) s' (s' 68) bj from H 9 68 ((fun _=>Cd n4 DP 1 af.length ((List.replicate af.length (n:Int)).map (Value.int .i64)) (.slice none 0 0) n4)) rfl (by rw[ae];rfl));obtain ⟨⟨⟨ay,a1,cb⟩,b7,b9⟩,cf⟩:=(show ((fun s v w=>Cd n1 Co 1 (n+1) (vs++[s 68]) (.slice ak n aj) n4 v w∧∀b,(s 68).ownBlock=some b→v.ownBlock≠some b):C1) s' (s' 70) bj from H 11 70 ((fun s v w=>Cd n1 Co 1 (n+1) (vs++[s 68]) (.slice ak n aj) n4 v w∧∀b,(s 68).ownBlock=some b→v.ownBlock≠some b)) rfl (by rw[ae];rfl));obtain ⟨⟨az,a0,ce⟩,cj,cx⟩:=(show ((fun _=>Cd n1 DP 1 (n+1) (an.map (Value.int .i64)++[Value.int .i64 0]) (.slice ea n ec) n4):C1) s' (s' 74) bj from H 15 74 ((fun _=>Cd n1 DP 1 (n+1) (an.map (Value.int .i64)++[Value.int .i64 0]) (.slice ea n ec) n4)) rfl (by rw[ae];rfl));have d7:s' 75=(.pointer (some ⟨bx,2,none⟩)):=H 16 75 ((fun _ v _=>v=(.pointer (some ⟨bx,2,none⟩)))) rfl (by rw[ae];rfl);obtain ⟨j10,rfl⟩:=Af.out (σ:=s') (l:=[(2,(.pointer (some ⟨bo,0,none⟩))),(4,(.pointer (some ⟨bx,0,none⟩))),(70,(.slice ay (n+1) a1)),(74,(.slice az (n+1) a0)),(75,(.pointer (some ⟨bx,2,none⟩)))]) ⟨U 2 rfl,U 4 rfl,cb,ce,d7,trivial⟩;clear U H;replace Bd:=Chg.keep a4 (fun h=>h.elim (fun h=>by have:=(ai.lt _ h).1;omega) (fun h=>by have:=(ah.lt _ h).1;omega)) (X0.keep Bd);replace Bo:=Chg.keep a4 (fun h=>h.elim (fun h=>by have:=(ai.lt _ h).1;omega) (fun h=>by have:=(ah.lt _ h).1;omega)) (X0.keep Bo);replace Bx:=Chg.keep a4 (fun h=>h.elim (fun h=>by have:=(ai.lt _ h).1;omega) (fun h=>by have:=(ah.lt _ h).1;omega)) (X0.keep Bx);have bp:=Chg.trans (Ao.chg X0) a4;replace E:=(E.ext X0).step a4 (fun y hy h=>h.elim (fun h=>by have:=(ai.lt y h).1;omega) (fun h=>by have:=(ah.lt y h).1;omega));rw[cb] at b7 b9 cf;rw[ce] at cj cx;have hL:=hO.last (row:=List.replicate af.length (n:Int)) bs qO bp (by rw[bn];exact b7) (by rw[List.length_replicate];exact cn) b9 cf;have a3:(bj).ownsRow n1 DP 1 (.slice az (n+1) a0) (n+1) ((an++[0]).map (Value.int .i64)):=by rw[List.map_append];exact cj
    have c1:(⟨d.start,an++[0],am++[List.replicate af.length (n:Int)]⟩:Dfa)=G7 n c d:=by rw[aq,ap,cl,bw,List.take_of_length_le qO,List.take_of_length_le qO];rfl
    refine BB (b:=bx) (o:=2) (c':=#[(I6 d.start),(.slice ea n ec),(.slice ay (n+1) a1)]) (v:=(.slice ay (n+1) a1)) rfl rfl rfl CB Bx qP rfl ?_;intro w11 a9;replace hL:=hL.chg a9.chg fun b hb _ h=>by have h':b=bx:=h;omega
    replace a3:=Ax a3 a9.chg fun b hb h=>by have:=(a3.lt b hb).1;have h':b=bx:=h;omega
    replace Bd:=a9.keep qO Bd;replace Bo:=a9.keep qO Bo;replace E:=a9.step E qQ;replace Bx:=a9.blk;refine qF bx 0 1 rfl underlying52 rfl BG rfl (BB (b:=bx) (o:=1) (c':=#[(I6 d.start),(.slice az (n+1) a0),(.slice ay (n+1) a1)]) (v:=(.slice az (n+1) a0)) rfl rfl rfl BG Bx qP rfl ?_);intro dz ba;replace hL:=hL.chg ba.chg fun b hb _ h=>by have h':b=bx:=h;omega
    replace a3:=Ax a3 ba.chg fun b hb h=>by have:=(a3.lt b hb).1;have h':b=bx:=h;omega
    replace Bd:=ba.keep qO Bd;replace Bo:=ba.keep qO Bo;replace E:=ba.step E qQ;replace Bx:=ba.blk;refine AA (AB (Y (qV (AU (vs:=[(I6 d.start),(.slice az (n+1) a0),(.slice ay (n+1) a1)]) rfl BC Ap rfl (Bx.cells rfl)) ?_)));obtain ⟨n9,cz⟩:∃n9,n9=(dz).heap.size:=⟨_,rfl⟩;have b1:w0.heap.size≤n9∧bo<n9:=⟨by have:=E.size;omega,by have:=Bo.lt;omega⟩;refine qE rfl (AT (vs:=[(.agg #[(I6 d.start),(.slice az (n+1) a0),(.slice ay (n+1) a1)])]) func162 kQ kQ rfl) (HM _ (n+1) c (G7 n c d) [.int .i64 d.start,.slice az (n+1) a0,.slice ay (n+1) a1] (Ww ok) (by rw[←c1];exact PY ⟨az,a0,by simp[ar]⟩ ⟨ay,a1,by simp[bn]⟩ (by simpa[ar] using a3) hL) qO Sa) ?_;rintro _ w99 ⟨⟨C,ca,cc,ma,mc,hC,dq,de,rfl,bm⟩,br⟩;replace Bd:=br.keep Bd;replace Bo:=br.keep Bo;replace Bx:=br.keep Bx;replace E:=E.ext br;rw[←cz] at bm;refine Al (b:=bo) (o:=0) (c':=#[(I6 C.start),(.slice ca C.accept.length cc),(.slice ma C.next.length mc)]) rfl rfl qS Ap rfl Bo qL rfl ?_;intro w13 bc;replace bm:=bm.chg bc.chg fun b h=>by have h':b=bo:=h;omega
    replace Bd:=bc.keep qO Bd;replace Bx:=bc.keep qO Bx;replace E:=bc.step E qQ;replace Bo:=bc.blk;refine AA (AS (Cp results168 (vs:=[(.int .i64 C.start),(.slice ca C.accept.length cc),(.slice ma C.next.length mc)]) (b:=bo) rfl BC Ap rfl (Bo.cells rfl) ?_));exact ⟨⟨C,ca,cc,ma,mc,hC.congr (fun w hw=>Ti ok hw),dq,de,rfl,bm.low b1.1⟩,E⟩
end Go.Proofs
namespace Go.Proofs
open Go Go.Eng
--BEGIN
def XI (c:Nat):Nat->(List Nat->Int)->Int
  | 0,f=>if 0<=f [] then 1 else 0
  | k+1,f=>((List.range c).map λx=>XI c k λw=>f (x::w)).sum
end Go.Proofs
namespace Go.Proofs
open Go Go.Eng Go.Sort
set_option maxRecDepth 100000
def wt (c:Nat) (d:Dfa) (j:Nat) (i:Nat):Int:=XI c j (beh d ((i:Nat):Int))
end Go.Proofs
namespace Go.Proofs
open Go Go.Eng Go.Sort
--BEGIN
section
variable {α : Type}
def FH (stp:α->Nat->Option α):α->List Nat->Option α
  | a,[]=>some a
  | a,x::w=>(stp a x).bind λb=>FH stp b w
theorem HZ (stp:α->Nat->Option α) (x:Nat):∀(w:List Nat) (a:α),FH stp a (w++[x])=(FH stp a w).bind λb=>stp b x
 | [],a=>by simp only[List.nil_append,FH,Option.bind_some];cases stp a x<;>rfl
 | y::w,a=>by
  simp only[List.cons_append,FH];cases h:stp a y with
  | none=>rfl
  | some b=>simp only[Option.bind_some];exact HZ stp x w b
theorem E3.snoc {c x:Nat} {w:List Nat} (h:E3 c w) (b:x<c):E3 c (w++[x]):=λy d=>by
 rcases List.mem_append.1 d with a|a
 .exact h y a
 .rw[List.mem_singleton] at a;rw[a];exact b
variable {c : Nat} {stp : α → Nat → Option α} {a0 : α} {work : List α} {ws : List (List Nat)} {ps : List (Nat × Nat)} {i x : Nat}
end
end Go.Proofs
namespace Go.Eng
open Go
def HF (p:Int×Int):Value:=.agg #[.int .i64 p.1,.int .i64 p.2]
end Go.Eng
namespace Go.Proofs
open Go Go.Eng Go.Sort
set_option maxRecDepth 100000
end Go.Proofs
namespace Go.Eng
open Go
def G1 (S:Nat->Prop) (w:World) (k:Nat) (v:Value) (rows:List (List Value)):Prop:=
 ∃a cap,v=.slice a rows.length cap∧rows.length<=9223372036854775807∧rows.length<=cap∧(rows=[]∨∃b o,S b∧a=some ⟨b,o,none⟩∧∀i r,rows[i]?=some r->A' w b (o+i*k) r)
theorem G1.at {S:Nat->Prop} {w:World} {k:Nat} {v:Value} {rows:List (List Value)} (h:G1 S w k v rows):BL w k v rows:=by
 obtain ⟨a,cap,f,d,c,i⟩:=h;refine ⟨a,cap,f,d,c,?_⟩;rcases i with h|⟨b,o,_,g,e⟩
 .exact .inl h
 .exact .inr ⟨b,o,g,e⟩
theorem G1.chg {S M:Nat->Prop} {w w':World} {k:Nat} {v:Value} {rows:List (List Value)} (h:G1 S w k v rows) (c:Chg M w w') (j:∀b,S b->¬M b):G1 S w' k v rows:=by
 obtain ⟨a,cap,n,d,l,g⟩:=h;refine ⟨a,cap,n,d,l,?_⟩;rcases g with h|⟨b,o,hb,f,m⟩
 .exact .inl h
 .exact .inr ⟨b,o,hb,f,λi r e=>(m i r e).chg c (j b hb)⟩
theorem G1.nil (S:Nat->Prop) (w:World) (k:Nat) (a:Option Addr) (cap:Nat):G1 S w k (.slice a 0 cap) []:=⟨a,cap,O,qP,qP,.inl O⟩
theorem G1.mk {S:Nat->Prop} {w:World} {k:Nat} {b o n c:Nat} {rows:List (List Value)} (h:BL w k (.slice (some ⟨b,o,none⟩) n c) rows) (hs:S b):G1 S w k (.slice (some ⟨b,o,none⟩) n c) rows:=by
 obtain ⟨a,cap,e,f,i,g⟩:=h;refine ⟨a,cap,e,f,i,?_⟩;rcases g with h|⟨b',o',d,j⟩
 .exact .inl h
 .simp only[Value.slice.injEq] at e;have:b'=b:=by rw[<-e.1] at d;simp at d;exact d.1.symm
  exact .inr ⟨b',o',this▸hs,d,j⟩
mutual
def Pk (S:Nat->Prop) (w:World):Re->List Value->Prop
  | .mk k set args mn mx ng,vs=>∃sa sc aa ac,vs=[.int .i64 k,.slice sa set.length sc,.slice aa args.length ac,.int .i64 mn,.int .i64 mx,.bool ng]∧G1 S w 2 (.slice sa set.length sc) (set.map BP)∧(args.length<=ac∧ac<=9223372036854775807)∧
      (args=[]∨∃b o,S b∧aa=some ⟨b,o,none⟩∧Tw S w b o args)
def Tw (S:Nat->Prop) (w:World) (b:Nat):Nat->List Re->Prop
  | _,[]=>True
  | o,t::ts=>(∃vs,A' w b o vs∧Pk S w t vs)∧Tw S w b (o+6) ts
end
theorem Pk.of {S:Nat->Prop} {w:World} {k:Int} {set:List (Int×Int)} {args:List Re} {mn mx:Int} {f:Bool} {c e:Option Addr} {d a:Nat} (hs:G1 S w 2 (.slice c set.length d) (set.map BP)) (h:(args.length<=a∧a<=9223372036854775807)) (g:args=[]∨∃b o,S b∧e=some ⟨b,o,none⟩∧Tw S w b o args) :
 Pk S w (.mk k set args mn mx f) [.int .i64 k,.slice c set.length d,.slice e args.length a,.int .i64 mn,.int .i64 mx,.bool f]:=by
 simp only[Pk];exact ⟨c,d,e,a,O,hs,h,g⟩
end Go.Eng
namespace Go.Proofs
open Go Go.Eng Go.Sort
set_option maxRecDepth 100000
def Kw:Dfa:=⟨0,[0,-1],[[1],[0]]⟩
theorem Sz:OkD 2 1 Kw:=⟨O,O,qD,qD,qD⟩
end Go.Proofs
namespace Go.Eng
open Go
theorem HV {M:Nat->Prop} {P:Program} {N:Nat} {σ:CN} {w:World} {dst:Option Tmp} {z:Operand} {args:List Operand} {tys:Array TypeId} {ty:TypeId} {pos:String} {af:Array Edge} {g:Option (Nat×Bool)} {fv:Value} {vs:List Value} {R:El}
 (d:ev σ z=fv) (c:args.map (ev σ)=vs) (h:CV P fv vs.toArray w λv w'=>R v w'∧Chg M w w'):Cs M P N ⟨dst,.call ⟨.value z,args.toArray,tys⟩,ty,pos,af,g⟩ R σ w:=by
 obtain ⟨f,fn,first,cap,rfl,e,a,hb,b⟩:=h;exact Dv (D_ d e a hb c O) b
theorem QB {P:Program} {kt:TypeId} {κ:Type} [DecidableEq κ] {ek:κ->Value} (d:(match P.underlying kt with|some (.array _ _)|some (.struct _)=>true|_=>false)=true)
 (f:∀(b:Bool) (w:World) (k:κ),(Instr.checkKey b 10000 kt (ek k)).run P w=.ok () w) (l:∀(w:World) (a b:κ),(Op.equal kt (ek a) (ek b)).run P w=.ok (decide (a=b)) w) (c:∀k,Instr.sameBits 10000 (ek k) (ek k)=true):KeyOk P kt ek where
 check:=f
 same:=c
 find:=λν w k es eV L n=>by
  have j:∀(L:List MapEntry) (es:List (κ×ν)) (i:Nat),L.map (λe=>(e.key,e.val))=es.map (λp=>(ek p.1,eV p.2))->(Instr.findAsking kt (ek k) L i).run P w=.ok (G6 eV es k i) w:=by
   intro L
   induction L with
   | nil=>
    intro es i h;cases es with
    | nil=>rfl
    | cons _ _=>simp at h
   | cons e L ih=>
    intro es i h;cases es with
    | nil=>simp at h
    | cons p es=>
     simp only[List.map_cons,List.cons.injEq,Prod.mk.injEq] at h;obtain ⟨⟨q,m⟩,o⟩:=h;unfold Instr.findAsking G6;simp only[Sem.run_bind,q,l,Result.andThen_ok];by_cases g:p.1=k
     .rw[if_pos g,g];simp[m]
     .rw[if_neg g,show decide (k=p.1)=false by simpa using λh=>g h.symm];exact ih es (i+1) o
  rw[run_findKey_eq w d];exact j L es 0 n
theorem WD {P:Program} {t e:TypeId} {i:TypeInfo} (r:P.underlying t=some (.array 2 e)) (p:P.underlying e=some (.int .i64)) (hi:P.info? e=some i) (q:P.cellsOf e=1) (w:World) (a b:Int×Int):(Op.equal t (HF a) (HF b)).run P w=.ok (decide (a=b)) w:=by
 have n:P.plainKey e=true:=by simp[Program.plainKey,p]
 have h:∀(d:Nat) (x y:Int),(Op.equalIn (d+1) e (.int .i64 x) (.int .i64 y)).run P w=.ok (x == y) w:=λd x y=>by
  simp[Op.equalIn,run_underlying p]
 have f:∀x y:Int,(Op.equalIn 9999 e (.int .i64 x) (.int .i64 y)).run P w=.ok (x == y) w:=h 9998;show (Op.equalIn (9999+1) t (.agg #[.int .i64 a.1,.int .i64 a.2]) (.agg #[.int .i64 b.1,.int .i64 b.2])).run P w=_;rw[run_equalIn_array w 9999 _ _ r hi,q,show List.range 2=[0,1] from rfl];obtain ⟨k,m⟩:=a;obtain ⟨l,o⟩:=b;have s:∀(x y:Int),(part e #[.int .i64 x,.int .i64 y] 0).run P w=.ok (.int .i64 x) w:=λx y=>run_part_plain w n O;have j:∀(x y:Int),(part e #[.int .i64 x,.int .i64 y] 1).run P w=.ok (.int .i64 y) w:=λx y=>run_part_plain w n O;simp only[Op.eqItems,Sem.run_bind,Nat.zero_mul,Nat.one_mul,s,j,Result.andThen_ok,f,Prod.mk.injEq];by_cases c:k=l
 .by_cases g:m=o
  .simp[c,g,j,f]
  .simp[c,g,j,f,show (m == o)=false by simpa using g]
 .simp[c,show (k == l)=false by simpa using c]
theorem Qn (k:Int×Int):Instr.sameBits 10000 (HF k) (HF k)=true:=by
 show Instr.sameBits (9999+1) (.agg _) (.agg _)=true;simp[Instr.sameBits]
end Go.Eng
namespace Go.Proofs
open Go Go.Eng Go.Sort
set_option maxRecDepth 100000
--BEGIN
section
variable {α : Type}
def BD:List α->Nat->List (α×Int)
  | [],_=>[]
  | m::ks,n=>(m,((n:Nat):Int))::BD ks (n+1)
theorem Kd:∀(a:List α) (m:α) (n:Nat),BD (a++[m]) n=BD a n++[(m,(((n+a.length:Nat):Nat):Int))]
 | [],m,n=>rfl
 | x::a,m,n=>by
  show (x,_)::BD (a++[m]) (n+1)=(x,_)::(BD a (n+1)++_);rw[Kd a m (n+1),List.length_cons,show n+1+a.length=n+(a.length+1) by omega]
theorem L0:∀{a:List α} {n:Nat} {q:α×Int},q∈BD a n->∃(j:Nat) (m:α),a[j]?=some m∧q=(m,(((n+j:Nat):Nat):Int))
 | [],_,_,h=>by cases h
 | x::a,n,q,h=>by
  rcases List.mem_cons.1 h with h|h
  .exact ⟨0,x,O,h⟩
  .obtain ⟨j,m,c,b⟩:=L0 h;exact ⟨j+1,m,c,by rw[b];congr 2;omega⟩
theorem L1:∀{a:List α} {n:Nat} {m:α},m∈a->m∈(BD a n).map (·.1)
 | x::a,n,m,h=>by
  rcases List.mem_cons.1 h with rfl|h
  .exact List.mem_cons_self
  .exact List.mem_cons_of_mem _ (L1 (n:=n+1) h)
variable [DecidableEq α]
theorem JJ {b:List α} {m:α} {v:Int} (h:A_ (BD b 0) m=some v):∃j:Nat,v=((j:Nat):Int)∧b[j]?=some m:=by
 obtain ⟨j,m',c,a⟩:=L0 (Ep h);simp only[Prod.mk.injEq,Nat.zero_add] at a;exact ⟨j,a.2,by rw[c,a.1]⟩
theorem IC {a:List α} {m:α} (h:A_ (BD a 0) m=none):m∉a∧DA (BD a 0) m ((a.length:Nat):Int)=BD (a++[m]) 0:=by
 refine ⟨λb=>?_,?_⟩
 .have:=DN.2 (L1 (n:=0) b);rw[h] at this;cases this
 .rw[EJ _ h,Kd,Nat.zero_add]
end
section
variable {α : Type}
def GT (stp:α->Nat->Option α) (keys:List α) (k:α) (x:Nat) (y:Int):Prop:=match stp k x with|none=>y = -1|some b=>∃j:Nat,y=((j:Nat):Int)∧keys[j]?=some b
theorem GT.mono {stp:α->Nat->Option α} {keys:List α} {k:α} {x:Nat} {y:Int} (h:GT stp keys k x y) (u:List α):GT stp (keys++u) k x y:=by
 unfold GT at h⊢;cases hs:stp k x with
 | none=>rw[hs] at h;exact h
 | some b=>rw[hs] at h;obtain ⟨j,c,a⟩:=h;exact ⟨j,c,by rw[List.getElem?_append_left (AI a)];exact a⟩
structure ExpP (c:Nat) (stp:α->Nat->Option α) (a0:α) (keys:List α) (rows:List (List Int)) (row:List Int):Prop where
 k0:keys[0]?=some a0
 nd:keys.Nodup
 rch:∀k∈keys,∃w,E3 c w∧FH stp a0 w=some k
 len:∀r∈rows,r.length=c
 ent:∀(i x:Nat) r y k,rows[i]?=some r->r[x]?=some y->keys[i]?=some k->GT stp keys k x y
 cur:∀(x:Nat) y k,row[x]?=some y->keys[rows.length]?=some k->GT stp keys k x y
variable {c : Nat} {stp : α → Nat → Option α} {a0 : α} {keys : List α} {rows : List (List Int)} {row : List Int}
theorem ExpP.start (c:Nat) (stp:α->Nat->Option α) (a0:α):ExpP c stp a0 [a0] [] []:=by
 refine ⟨O,qP,λk a=>?_,λr h=>(by cases h),λi x r y k h=>by simp at h,λx y k h=>by simp at h⟩;rw[List.mem_singleton] at a;subst a;exact ⟨[],E3.nil c,O⟩
theorem ExpP.add {k:α} {y:Int} (h:ExpP c stp a0 keys rows row) (g:keys[rows.length]?=some k) (e:GT stp keys k row.length y):ExpP c stp a0 keys rows (row++[y]):=by
 refine {h with cur:=λx z q f a=>?_};rcases Ce f with b|⟨b,d⟩
 .exact h.cur x z q b a
 .rw[g] at a;cases a;rw[b,d];exact e
theorem ExpP.new {k b:α} (h:ExpP c stp a0 keys rows row) (f:keys[rows.length]?=some k) (o:row.length<c) (hs:stp k row.length=some b) (hb:b∉keys):ExpP c stp a0 (keys++[b]) rows (row++[((keys.length:Nat):Int)]):=by
 have l:=AI f;have n:GT stp (keys++[b]) k row.length ((keys.length:Nat):Int):=by
  unfold GT;rw[hs];exact ⟨keys.length,O,qP⟩
 refine ⟨by rw[List.getElem?_append_left (AI h.k0)];exact h.k0,?_,λq d=>?_,h.len,λi x r y q m v d=>?_,λx z q u d=>?_⟩
 .rw[List.nodup_append];refine ⟨h.nd,qP,λp t q d=>?_⟩;rw[List.mem_singleton] at d;subst d;exact λe=>hb (e▸t)
 .rcases List.mem_append.1 d with a|a
  .exact h.rch q a
  .rw[List.mem_singleton] at a;subst a;obtain ⟨w,g,s⟩:=h.rch k (List.mem_of_getElem? f);exact ⟨w++[row.length],g.snoc o,by rw[HZ,s];exact hs⟩
 .rcases Ce d with a|⟨a,_⟩
  .exact (h.ent i x r y q m v a).mono _
  .have:=AI m;omega
 .have j:q=k:=by
   rw[List.getElem?_append_left l,f] at d;exact (Option.some.inj d).symm
  subst j;rcases Ce u with a|⟨a,g⟩
  .exact (h.cur x z q a f).mono _
  .rw[a,g];exact n
theorem ExpP.rowed (h:ExpP c stp a0 keys rows row) (j:row.length=c):ExpP c stp a0 keys (rows++[row]) []:=by
 refine ⟨h.k0,h.nd,h.rch,λr f=>?_,λi x r y s a e b=>?_,λx y s a=>by simp at a⟩
 .rcases List.mem_append.1 f with a|a
  .exact h.len r a
  .rw[List.mem_singleton] at a;rw[a];exact j
 .rcases Ce a with d|⟨d,g⟩
  .exact h.ent i x r y s d e b
  .subst g;rw[d] at b;exact h.cur x y s e b
def GA (c:Nat) (stp:α->Nat->Option α) (a0:α) (m:Nat):Prop:=∀l:List α,l.Nodup->(∀k∈l,∃w,E3 c w∧FH stp a0 w=some k)->l.length<=m
theorem JB {β:Type}:∀{l m:List β},l.Nodup->(∀x∈l,x∈m)->l.length<=m.length
 | [],_,_,_=>Nat.zero_le _
 | x::l,m,hd,h=>by
  have a:=List.nodup_cons.1 hd;obtain ⟨s,t,rfl⟩:=List.append_of_mem (h x List.mem_cons_self);have:=JB (l:=l) (m:=s++t) a.2 λy c=>by
   have e:=h y (List.mem_cons_of_mem _ c);rcases List.mem_append.1 e with b|b
   .exact List.mem_append_left _ b
   .rcases List.mem_cons.1 b with rfl|d
    .exact absurd c a.1
    .exact List.mem_append_right _ d
  simp only[List.length_append,List.length_cons] at this⊢;omega
theorem ExpP.closed (h:ExpP c stp a0 keys rows []) (g:rows.length=keys.length):∀(w:List Nat) (k q:α),E3 c w->k∈keys->FH stp k w=some q->q∈keys
 | [],k,q,_,hk,hr=>by simp only[FH,Option.some.injEq] at hr;exact hr▸hk
 | x::w,k,q,hw,hk,hr=>by
  simp only[FH] at hr;obtain ⟨i,hi⟩:=List.getElem?_of_mem hk;obtain ⟨r,a⟩:=AL (l:=rows) (i:=i) (by have:=AI hi;omega);obtain ⟨y,f⟩:=AL (l:=r) (i:=x) (by have:=h.len r (List.mem_of_getElem? a);have:=hw.head;omega);have d:=h.ent i x r y k a f hi;unfold GT at d;cases hs:stp k x with
  | none=>rw[hs] at hr;cases hr
  | some b=>
   rw[hs] at d hr;obtain ⟨j,_,e⟩:=d;simp only[Option.bind_some] at hr;exact h.closed g w b q hw.tail (List.mem_of_getElem? e) hr
theorem ExpP.all (h:ExpP c stp a0 keys rows []) (f:rows.length=keys.length):GA c stp a0 keys.length:=λl hd b=>JB hd λk d=>by
 obtain ⟨w,a,e⟩:=b k d;exact h.closed f w a0 k a (List.mem_of_getElem? h.k0) e
theorem GA.mono {m m':Nat} (h:GA c stp a0 m) (a:m<=m'):GA c stp a0 m':=λl hd b=>Nat.le_trans (h l hd b) a
def K8 (stp:α->Nat->Option α) (acc:α->Int) (k:α) (w:List Nat):Int:=match FH stp k w with|some b=>acc b|none=>-1
theorem ExpP.done {acc:α->Int} (h:ExpP c stp a0 keys rows []) (s:rows.length=keys.length) (q:∀k∈keys,-1<=acc k):OkD keys.length c ⟨0,keys.map acc,rows⟩∧∀w,E3 c w->beh ⟨0,keys.map acc,rows⟩ 0 w=K8 stp acc a0 w:=by
 have hk0:=AI h.k0;have ok:OkD keys.length c ⟨0,keys.map acc,rows⟩:=⟨s,qP,⟨Int.le_refl _,by show (0:Int)<_;omega⟩,λx p=>by
  obtain ⟨k,f,rfl⟩:=List.mem_map.1 p;exact q k f,λr e=>by
  have e:r∈rows:=e;refine ⟨h.len r e,λy m=>?_⟩;obtain ⟨i,hi⟩:=List.getElem?_of_mem e;obtain ⟨x,p⟩:=List.getElem?_of_mem m;obtain ⟨k,f⟩:=AL (l:=keys) (i:=i) (by have:=AI hi;omega);have a:=h.ent i x r y k hi p f;unfold GT at a;cases hs:stp k x with
  | none=>rw[hs] at a;simp only at a;omega
  | some b=>rw[hs] at a;obtain ⟨j,h1,n⟩:=a;have:=AI n;omega⟩
 refine ⟨ok,?_⟩;have o:∀(w:List Nat) (i:Nat) (k:α),E3 c w->keys[i]?=some k->beh ⟨0,keys.map acc,rows⟩ ((i:Nat):Int) w=K8 stp acc k w:=by
  intro w
  induction w with
  | nil=>
   intro i k _ f;simp only[beh,K8,FH];exact EW (by simp[f])
  | cons x w ih=>
   intro i k g f;obtain ⟨r,e⟩:=AL (l:=rows) (i:=i) (by have:=AI f;omega);obtain ⟨y,m⟩:=AL (l:=r) (i:=x) (by have:=h.len r (List.mem_of_getElem? e);have:=g.head;omega);have a:=h.ent i x r y k e m f;simp only[beh,K8,FH];rw[FG (d:=⟨0,keys.map acc,rows⟩) e m];unfold GT at a;cases hs:stp k x with
   | none=>rw[hs] at a;simp only at a;simp only[Option.bind_none];exact Dy qO
   | some b=>
    rw[hs] at a;obtain ⟨j,rfl,n⟩:=a;simp only[Option.bind_some];exact ih j b g.tail n
 intro w g;exact o w 0 a0 g h.k0
end
--END
end Go.Proofs
