/- Contracts and plain lemmas, part 2. -/
import Derived.Test.YtgmbafkdgmkfoaaGreatDoorZk1
open Go.Proofs.Tryz
set_option maxHeartbeats 16000000
namespace Go.Eng
open Go
def BY (S:Nat->Prop) (w:World) (k:Nat) (v:Value) (rows:List (List Value)):Prop:=
 ∃a cap,v=.slice a rows.length cap∧rows.length<=9223372036854775807∧rows.length<=cap∧(rows=[]∨∃b o,S b∧a=some ⟨b,o,none⟩∧∀i r,rows[i]?=some r->BA w b (o+i*k) r)
theorem BY.at {S:Nat->Prop} {w:World} {k:Nat} {v:Value} {rows:List (List Value)} (h:BY S w k v rows):BR w k v rows:=by
 obtain ⟨a,cap,c,d,f,g⟩:=h;refine ⟨a,cap,c,d,f,?_⟩;rcases g with h|⟨b,o,_,e,i⟩
 .exact .inl h
 .exact .inr ⟨b,o,e,i⟩
theorem BY.of {w:World} {k:Nat} {v:Value} {rows:List (List Value)} (h:BR w k v rows):BY (λ_=>True) w k v rows:=by
 obtain ⟨a,cap,c,d,f,g⟩:=h;refine ⟨a,cap,c,d,f,?_⟩;rcases g with h|⟨b,o,e,i⟩
 .exact .inl h
 .exact .inr ⟨b,o,trivial,e,i⟩
theorem BY.chg {S M:Nat->Prop} {w w':World} {k:Nat} {v:Value} {rows:List (List Value)} (h:BY S w k v rows) (c:Chg M w w') (n:∀b,S b->¬M b):BY S w' k v rows:=by
 obtain ⟨a,cap,l,m,f,g⟩:=h;refine ⟨a,cap,l,m,f,?_⟩;rcases g with h|⟨b,o,hb,e,j⟩
 .exact .inl h
 .exact .inr ⟨b,o,hb,e,λi r d=>(j i r d).chg c (n b hb)⟩
theorem BY.mono {S S':Nat->Prop} {w:World} {k:Nat} {v:Value} {rows:List (List Value)} (h:BY S w k v rows) (i:∀b,S b->S' b):BY S' w k v rows:=by
 obtain ⟨a,cap,f,g,e,d⟩:=h;refine ⟨a,cap,f,g,e,?_⟩;rcases d with h|⟨b,o,hb,c⟩
 .exact .inl h
 .exact .inr ⟨b,o,i b hb,c⟩
theorem BY.nil (S:Nat->Prop) (w:World) (k:Nat) (a:Option Addr) (cap:Nat):BY S w k (.slice a 0 cap) []:=⟨a,cap,O,qP,qP,.inl O⟩
theorem BY.mk {S:Nat->Prop} {w:World} {k:Nat} {b o n c:Nat} {rows:List (List Value)} (h:BR w k (.slice (some ⟨b,o,none⟩) n c) rows) (l:S b):BY S w k (.slice (some ⟨b,o,none⟩) n c) rows:=by
 obtain ⟨a,cap,e,j,f,g⟩:=h;refine ⟨a,cap,e,j,f,?_⟩;rcases g with h|⟨b',o',d,i⟩
 .exact .inl h
 .simp only[Value.slice.injEq] at e;have:b'=b:=by rw[<-e.1] at d;simp at d;exact d.1.symm
  exact .inr ⟨b',o',this▸l,d,i⟩
mutual
def AS (S:Nat->Prop) (w:World):Re->List Value->Prop
  | .mk k set args mn mx ng,vs=>∃sa sc aa ac,vs=[.int .i64 k,.slice sa set.length sc,.slice aa args.length ac,.int .i64 mn,.int .i64 mx,.bool ng]∧BY S w 2 (.slice sa set.length sc) (set.map BK)∧(args.length<=ac∧ac<=9223372036854775807)∧
      (args=[]∨∃b o,S b∧aa=some ⟨b,o,none⟩∧A5 S w b o args)
def A5 (S:Nat->Prop) (w:World) (b:Nat):Nat->List Re->Prop
  | _,[]=>True
  | o,t::ts=>(∃vs,BA w b o vs∧AS S w t vs)∧A5 S w b (o+6) ts
end
mutual
theorem AS.at {S:Nat->Prop} {w:World}:∀(t:Re) {vs:List Value},AS S w t vs->A4 w t vs
 | .mk k set args mn mx ng,vs,h=>by
  simp only[AS] at h;simp only[A4];obtain ⟨sa,sc,aa,ac,a,g,e,c⟩:=h;refine ⟨sa,sc,aa,ac,a,g.at,e,?_⟩;rcases c with h|⟨b,o,_,d,f⟩
  .exact .inl h
  .exact .inr ⟨b,o,d,A5.at args f⟩
theorem A5.at {S:Nat->Prop} {w:World} {b:Nat}:∀(a:List Re) {o:Nat},A5 S w b o a->CB w b o a
 | [],_,_=>by simp only[CB]
 | t::a,o,h=>by
  simp only[A5] at h;simp only[CB];obtain ⟨⟨vs,c,d⟩,e⟩:=h;exact ⟨⟨vs,c,AS.at t d⟩,A5.at a e⟩
end
mutual
theorem AS.chg {S M:Nat->Prop} {w w':World} (c:Chg M w w') (a:∀b,S b->¬M b):∀(t:Re) {vs:List Value},AS S w t vs->AS S w' t vs
 | .mk k set args mn mx ng,vs,h=>by
  simp only[AS] at h⊢;obtain ⟨sa,sc,aa,ac,d,j,g,e⟩:=h;refine ⟨sa,sc,aa,ac,d,j.chg c a,g,?_⟩;rcases e with h|⟨b,o,hb,f,i⟩
  .exact .inl h
  .exact .inr ⟨b,o,hb,f,A5.chg c a args hb i⟩
theorem A5.chg {S M:Nat->Prop} {w w':World} (c:Chg M w w') (d:∀b,S b->¬M b) {b:Nat}:∀(a:List Re) {o:Nat},S b->A5 S w b o a->A5 S w' b o a
 | [],_,_,_=>by simp only[A5]
 | t::a,o,hb,h=>by
  simp only[A5] at h⊢;obtain ⟨⟨vs,e,f⟩,g⟩:=h;exact ⟨⟨vs,e.chg c (d b hb),AS.chg c d t f⟩,A5.chg c d a hb g⟩
end
mutual
theorem AS.mono {S S':Nat->Prop} {w:World} (a:∀b,S b->S' b):∀(t:Re) {vs:List Value},AS S w t vs->AS S' w t vs
 | .mk k set args mn mx ng,vs,h=>by
  simp only[AS] at h⊢;obtain ⟨sa,sc,aa,ac,d,c,g,e⟩:=h;refine ⟨sa,sc,aa,ac,d,c.mono a,g,?_⟩;rcases e with h|⟨b,o,hb,f,i⟩
  .exact .inl h
  .exact .inr ⟨b,o,a b hb,f,A5.mono a args i⟩
theorem A5.mono {S S':Nat->Prop} {w:World} (c:∀b,S b->S' b) {b:Nat}:∀(a:List Re) {o:Nat},A5 S w b o a->A5 S' w b o a
 | [],_,_=>by simp only[A5]
 | t::a,o,h=>by
  simp only[A5] at h⊢;obtain ⟨⟨vs,d,e⟩,f⟩:=h;exact ⟨⟨vs,d,AS.mono c t e⟩,A5.mono c a f⟩
end
theorem AS.ext {S:Nat->Prop} {w w':World} (e:Ae w w') (t:Re) {vs:List Value} (h:AS S w t vs):AS S w' t vs:=AS.chg e (λ_ _ f=>f) t h
theorem AS.form {S:Nat->Prop} {w:World} {t:Re} {vs:List Value} (h:AS S w t vs):∃sa sc aa ac,vs=[.int .i64 t.kind,.slice sa t.set.length sc,.slice aa t.args.length ac,.int .i64 t.mn,.int .i64 t.mx,.bool t.neg]∧BY S w 2 (.slice sa t.set.length sc) (t.set.map BK)∧(t.args.length<=ac∧ac<=9223372036854775807)∧
 (t.args=[]∨∃b o,S b∧aa=some ⟨b,o,none⟩∧A5 S w b o t.args):=by
 cases t;simp only[AS] at h;exact h
theorem AS.of {S:Nat->Prop} {w:World} {k:Int} {set:List (Int×Int)} {args:List Re} {mn mx:Int} {ng:Bool} {sa aa:Option Addr} {sc ac:Nat} (d:BY S w 2 (.slice sa set.length sc) (set.map BK)) (c:(args.length<=ac∧ac<=9223372036854775807)) (a:args=[]∨∃b o,S b∧aa=some ⟨b,o,none⟩∧A5 S w b o args) :
 AS S w (.mk k set args mn mx ng) [.int .i64 k,.slice sa set.length sc,.slice aa args.length ac,.int .i64 mn,.int .i64 mx,.bool ng]:=by
 simp only[AS];exact ⟨sa,sc,aa,ac,O,d,c,a⟩
theorem A5.one {S:Nat->Prop} {w:World} {b o:Nat} {t:Re} {vs:List Value} (a:BA w b o vs) (h:AS S w t vs):A5 S w b o [t]:=by
 simp only[A5];exact ⟨⟨vs,a,h⟩,trivial⟩
theorem A5.two {S:Nat->Prop} {w:World} {b o:Nat} {t u:Re} {vs us:List Value} (c:BA w b o vs) (h:AS S w t vs) (a:BA w b (o+6) us) (d:AS S w u us):A5 S w b o [t,u]:=by
 simp only[A5];exact ⟨⟨vs,c,h⟩,⟨us,a,d⟩,trivial⟩
theorem A5.get {S:Nat->Prop} {w:World} {b:Nat}:∀{a:List Re} {o i:Nat} {t:Re},A5 S w b o a->a[i]?=some t->∃vs,BA w b (o+i*6) vs∧AS S w t vs
 | [],_,_,_,_,h=>by simp at h
 | x::a,o,0,t,h,hi=>by
  simp only[A5] at h;simp at hi;subst hi;simpa using h.1
 | x::a,o,i+1,t,h,hi=>by
  simp only[A5] at h;have:=A5.get h.2 (i:=i) (by simpa using hi)
  rwa [show o+(i+1)*6=o+6+i*6 from qO]
theorem AS.len {S:Nat->Prop} {w:World} {t:Re} {vs:List Value} (h:AS S w t vs):vs.length=6:=(AS.at t h).len
theorem AS.of_at {w:World}:∀(t:Re) {vs:List Value},A4 w t vs->AS (λb=>b<w.heap.size) w t vs:=by
 intro t;have l:∀n,(∀t:Re,t.size<=n->∀vs,A4 w t vs->AS (λb=>b<w.heap.size) w t vs):=by
  intro n
  induction n with
  | zero=>intro t ht;have:=t.size_pos;omega
  | succ n ih=>
   intro t hn vs h;obtain ⟨sa,sc,aa,ac,rfl,x,u,q⟩:=h.form;have hsz:=t.size_eq;cases t with
   | mk k set args mn mx ng=>
   simp only[Re.kind,Re.set,Re.args,Re.mn,Re.mx,Re.neg] at *;refine AS.of ?_ u ?_
   .obtain ⟨a,cap,m,i,d,f⟩:=x;refine ⟨a,cap,m,i,d,?_⟩;rcases f with h|⟨b,o,e,p⟩
    .exact .inl h
    .cases set with
     | nil=>exact .inl O
     | cons s r=>
      have:=p 0 (BK s) O 0 _ O;exact .inr ⟨b,o,World.block_lt_of_cell? w _ this,e,p⟩
   .rcases q with h|⟨b,o,m,i⟩
    .exact .inl h
    .have g:∀(c:List Re) (o:Nat),Re.sizes c<=n->CB w b o c->A5 (λb=>b<w.heap.size) w b o c:=by
      intro c
      induction c with
      | nil=>intro _ _ _;simp only[A5]
      | cons t c j=>
       intro o v h;simp only[Re.sizes] at v;simp only[CB] at h;simp only[A5];obtain ⟨⟨vs,d,f⟩,e⟩:=h;exact ⟨⟨vs,d,ih t qO vs f⟩,j _ qO e⟩
     cases args with
     | nil=>exact .inl O
     | cons t c=>
      have d:=i;simp only[CB] at d;obtain ⟨⟨vs,f,e⟩,_⟩:=d;obtain ⟨_,_,_,_,rfl,_⟩:=e.form;have:=f 0 _ O;exact .inr ⟨b,o,World.block_lt_of_cell? w _ this,m,g _ o qO i⟩
 exact fun {vs} h=>l t.size t (Nat.le_refl _) vs h
end Go.Eng
namespace Go.Proofs
open Go Go.Eng
set_option maxRecDepth 100000
abbrev TS:Nat:=98
def GV (wb w:World) (bs:Nat) (l:List Int):Prop:=∃a c,BH w bs #[.slice a l.length c] TS∧BZ wb (.slice a l.length c) l
theorem GV.ext {d w w':World} {b:Nat} {l:List Int} (h:GV d w b l) (e:Ae w w'):GV d w' b l:=let ⟨a,c,h1,h2⟩:=h;⟨a,c,e.keep h1,h2⟩
theorem GV.lt {b w:World} {a:Nat} {l:List Int} (h:GV b w a l):a<w.heap.size:=let ⟨_,_,h1,_⟩:=h;h1.lt
theorem G7 (m g:World) (d:Nat) (l:List Int) (n:Int) (hn:0<n) (B:n<=2000) (y:Ae m g) (hb:m.heap.size<=d) (u:GV m g d l) :
 Bi prog 97 #[.pointer (some ⟨d,0,none⟩),.int .i64 n] g λv w=>∃x z,v=.int .i64 x∧0<=x∧x<n∧GV m w d z∧Chg (λx=>x=d) g w:=by
 obtain ⟨a,c,f,h⟩:=u;have hcap:=BR.cap h;have hlen:l.length<=9223372036854775807:=by simpa using BR.le h
 refine EY func97 O ntmps97 (Qo O) ?_;have E:Chg (λx=>x=d) g g:=Chg.refl _ _;refine AA (qA _ O (AB (AG (AA (qM _ O (qV (Ag O) (qF d 0 0 O underlying98 O KS O (qV (AL O K1 (f.cell O)) (qV (Aa underlying46 O) (qV (Aj O O) (AB (qC O (λC=>?_) (λC=>?_)))))))))))))
 .refine AA (qA _ O (AB (AJ (AP (AV results97 (v:=(.int .i64 0)) O ?_)))));exact ⟨0,l,O,Int.le_refl _,hn,⟨a,c,f,h⟩,E⟩
 .obtain ⟨x,A⟩:=AX (l:=l) (i:=0) qO;obtain ⟨b,o,rfl,s⟩:=DE h qO;refine AO (AC (AA (qM _ O (qV (Ag O) (qF d 0 0 O underlying98 O KS O (qV (AL O K1 (f.cell O)) (qV (AN (b:=b) (o:=o) (len:=l.length) (cap:=c) (i:=0) (o':=o+0) O O O underlying46 Ay qO qO) (qV (AL O Al ((y.cell (s 0 x A)))) (qA _ O (AB (AA (qM (P6 d 0) O (qM (P6 d 0) O (qV (Ag (a:=⟨d,0,none⟩) O) (qF d 0 0 O underlying98 O KS O (qV (AL (v:=(.slice (some ⟨b,o,none⟩) l.length c)) O K1 (f.cell O)) ?_))))))))))))))));obtain ⟨p,k⟩:∃a':Option Addr,(if c=1 then (some ⟨b,o,none⟩) else Option.map (λq:Addr=>q.add (1*1)) (some ⟨b,o,none⟩))=a':=⟨_,O⟩;refine qV (GA (a:=(some ⟨b,o,none⟩)) (len:=l.length) (cap:=c) (lo:=1) (l:=1) (n':=(l.length - 1)) (c':=(c - 1)) underlying46 Ay O O qO qO k qO qO) (qV (Ag O) (qF d 0 0 O underlying98 O KS O (Bb (b:=d) (o:=0) (c':=#[(.slice p (l.length - 1) (c - 1))]) (v:=(.slice p (l.length - 1) (c - 1))) O O O KS f qP O ?_)));intro w2 t;replace E:=t.step E qQ;replace f:=t.blk;refine AB (AA (qM _ O (qM _ O (qE O (AI func21 kQ kQ O) (J_ x n hn B _) ?_))));rintro _ _ ⟨rfl,rfl⟩;have e:=BR.cut (lo:=1) (hi:=l.length) h qO (Nat.le_refl _) k O O;have r:((l.map GJ).drop 1).take (l.length - 1)=(l.drop 1).map GJ:=by rw[List.take_of_length_le qP,List.map_drop]
  rw[r] at e;have j:(l.drop 1).length=l.length - 1:=qP
  refine qA _ O (AB (AJ (AV results97 (v:=(.int .i64 (x % n))) O ?_)));exact ⟨x % n,l.drop 1,O,Int.emod_nonneg x qO,Int.emod_lt_of_pos x hn,⟨p,c - 1,by rw[j];exact f,by rw[j];exact e⟩,E⟩
end Go.Proofs
namespace Go.Proofs
open Go Go.Eng
set_option maxRecDepth 100000
theorem WX (w0:World) (lo hi:Int):Bi prog 96 #[.int .i64 lo,.int .i64 hi] w0 fun v w=>∃b,v=.slice (some ⟨b,0,none⟩) 1 1∧BD w v [(lo,hi)]∧w0.heap.size≤b∧Ae w0 w:=by
 refine qR func96 rfl ntmps96 rfl (fun E=>(AA (qA _ rfl (AB (AA (qM _ rfl (qM _ rfl (qV (BJ (ps:=[(0,(I6 lo)),(1,(I6 hi))]) (v:=(.agg #[(I6 lo),(I6 hi)])) rfl qK) (A3 (ps:=[(0,(.agg #[(I6 lo),(I6 hi)]))]) (c:=#[(I6 lo),(I6 hi)]) qD rfl underlying22 BU Ed qD qD qK ?_)))))))));intro b1 w1 N1;have F1:=N1.ge E;replace E:=E.ext N1.ext;have B1:=N1.blk;refine qA _ rfl (AB (AJ (AV results96 (v:=(.slice (some ⟨b1,0,none⟩) 1 1)) rfl ?_)));exact ⟨b1,rfl,IF [(lo,hi)] B1 qP qP,qO,E⟩
def VO (r:Int):Re:=.mk 2 [(r,r)] [] 0 0 false
theorem Xd (w0:World) (r:Int):Bi prog 58 #[.int .i64 r] w0 fun v w=>∃b,v=.agg #[.int .i64 2,.slice (some ⟨b,0,none⟩) 1 1,.slice none 0 0,.int .i64 0,.int .i64 0,.bool false]∧BD w (.slice (some ⟨b,0,none⟩) 1 1) [(r,r)]∧Ae w0 w:=by
 refine qR func58 rfl ntmps58 rfl (fun E=>(AA (Bg (c:=#[(I6 0),(.slice none 0 0),(.slice none 0 0),(I6 0),(I6 0),(.bool false)]) qD A9 rfl ?_)));intro b1 w1 N1;have F1:=N1.ge E;replace E:=E.ext N1.ext;have B1:=N1.blk;refine AB (AA (qM _ rfl (qM _ rfl (qE rfl (AI func96 kQ kQ rfl) (WX _ r r) ?_))));rintro _ w9 ⟨b,rfl,ab,hb,X9⟩;replace B1:=X9.keep B1;replace E:=E.ext X9;have aa:b≠b1:=by have:=N1.size;have:=N1.eq;omega
 refine qV (BJ (ps:=[(0,(I6 2)),(1,(.slice (some ⟨b,0,none⟩) 1 1))]) (v:=(.agg #[(I6 2),(.slice (some ⟨b,0,none⟩) 1 1),(.slice none 0 0),(I6 0),(I6 0),(.bool false)])) rfl qK) (Ab (b:=b1) (o:=0) (c':=#[(I6 2),(.slice (some ⟨b,0,none⟩) 1 1),(.slice none 0 0),(I6 0),(I6 0),(.bool false)]) rfl rfl qS AH rfl B1 qL rfl ?_);intro w2 S2;replace E:=S2.step E qQ;replace B1:=S2.blk;refine AB (AJ (A1 results58 (vs:=[(.int .i64 2),(.slice (some ⟨b,0,none⟩) 1 1),(.slice none 0 0),(.int .i64 0),(.int .i64 0),(.bool false)]) (b:=b1) rfl Ad AH rfl (B1.cells rfl) ?_));exact ⟨b,rfl,(BY.mk ab (S:=fun x=>x=b) rfl).chg S2.chg (fun x h=>qO) |>.at,E⟩
theorem PD:B' (VO 97) [98,97]=0:=qD
theorem PC:D_ (Ar [98,97] (VO 97)) (([98,97]:List Int).length+1)=[(1,2)]:=by decide +kernel
theorem Wn {w:World} {b:Nat} {r:Int} (h:BD w (.slice (some ⟨b,0,none⟩) 1 1) [(r,r)]):A4 w (VO r) [.int .i64 2,.slice (some ⟨b,0,none⟩) 1 1,.slice none 0 0,.int .i64 0,.int .i64 0,.bool false]:=
 A4.of (set:=[(r,r)]) (args:=[]) h qP (.inl O)
theorem Vz (k:World) (s:HI k):Bi prog 19 #[] k λv w=>v=.bool true∧Ae k w:=by
 refine qR func19 O ntmps19 O (λE=>(AA (qA _ O (AB (AA (qE O (AI func58 kQ kQ O) (Xd _ 97) ?_))))));rintro _ w9 ⟨b,rfl,g,u⟩;replace E:=E.ext u;refine A3 (ps:=[(0,(I6 98)),(1,(I6 97))]) (c:=#[(I6 98),(I6 97)]) qD O underlying46 Ay Iw qD qD qK ?_;intro b1 q e;replace E:=E.ext e.ext;have h:=e.blk;refine qE O (AI func57 kQ kQ O) ((VL _ (VO 97) _ _ [98,97] (Wn (g.ext e.ext)) (FZ [98,97] h qP qP) (s.ext E)).mono (R':=λv w=>∃a c,v=.tuple #[.slice a 1 c,.int .i64 0]∧NS w (.slice a 1 c) [(1,2)]∧Ae q w) (by rintro v w ⟨a,c,m,p,r⟩;rw[PD,if_pos O,PC] at m p;exact ⟨a,c,m,p,r⟩)) ?_;rintro _ w19 ⟨la,x,rfl,j,d⟩;replace h:=d.keep h;replace E:=E.ext d;obtain ⟨t,n,rfl,l⟩:=OK j qD;refine qM _ O (qV (A2 O O) (qV (A2 O O) (qA _ O (qA _ O (AB (AA (qM _ O (qV (Aj O O) (qM _ O (AF O O qD O (qM _ O (AF O O qD O (qV (Aa underlying91 O) (AF O O qD O (qV (Aj O O) ?_)))))))))))))));refine qV (Aq O O) (qM _ O (AF O O qD O (qM _ O (AF O O qD O (qV (AN (b:=t) (o:=n) (len:=1) (cap:=x) (i:=0) (o':=n+0*2) O O O underlying91 QU qO qO) (AF O O qD O (qV (AK O Xv QU O (l 0 (1,2) O)) (AF O O qD O (qV (BJ (ps:=[(0,(I6 1)),(1,(I6 2))]) (v:=(.agg #[(I6 1),(I6 2)])) O qK) (AF O O qD O (Bn (v:=(.bool true)) O O qD ((Ra (a:=1) (b:=2) (c:=1) (f:=2) underlying94 underlying3 Ay Al Vl O O).trans O) (qV (Aq O O) (qA _ O (AB (AJ ?_)))))))))))))));refine AV results19 (v:=(.bool true)) O ?_;exact ⟨O,E⟩
end Go.Proofs
namespace Go.Proofs
open Go Go.Eng
set_option maxRecDepth 100000
mutual
def Di (p:Re->Prop):Re->Prop
  | .mk k set args mn mx ng=>p (.mk k set args mn mx ng)∧Cl p args
def Cl (p:Re->Prop):List Re->Prop
  | []=>True
  | t::ts=>Di p t∧Cl p ts
end
def H1 (kinds:Int) (t:Re):Prop:=CH t=0∧t.kind<=kinds∧(t.kind=2->∃lo hi,t.set=[(lo,hi)]∧97<=lo∧lo<=hi∧hi<=100)
mutual
theorem NF {a:Int}:∀(t:Re),Di (H1 a) t->CY t
 | .mk k set args mn mx ng,h=>by simp only[Di] at h;simp only[CY];exact ⟨h.1.1,Qx args h.2⟩
theorem Qx {a:Int}:∀(b:List Re),Cl (H1 a) b->DB b
 | [],_=>by simp only[DB]
 | t::b,h=>by simp only[Cl] at h;simp only[DB];exact ⟨NF t h.1,Qx b h.2⟩
end
theorem GV.put {f w w':World} {d b:Nat} {l:List Int} {c:Array Value} {t:TypeId} (h:GV f w d l) (s:Put w w' b c t) (e:d≠b):GV f w' d l:=
 let ⟨a,c,h1,h2⟩:=h;⟨a,c,s.keep e h1,h2⟩
theorem MA {k:Int} (h:k=0∨k=1):CH (.mk k [] [] 0 0 false)=0:=by
 rcases h with rfl|rfl<;>decide
theorem Ta {lo hi:Int} (a:0<=lo) (c:lo<=hi) (b:hi<=1114111):CH (.mk 2 [(lo,hi)] [] 0 0 false)=0:=by
 simp[CH,EM,J5,BT,EV,Fd,Re.kind,Re.set,Re.args,Re.mn,Re.mx,Re.neg,a,c,b]
theorem IM {k:Int} (h:k=3∨k=4∨k=7) (t u:Re):CH (.mk k [] [t,u] 0 0 false)=0:=by
 rcases h with rfl|rfl|rfl<;>simp[CH,EM,J5,Re.kind,Re.set,Re.args,Re.mn,Re.mx,Re.neg]
theorem Tb {mn mx:Int} (h0:0<=mn) (h1:mn<=mx) (h2:mx<=8) (t:Re):CH (.mk 6 [] [t] mn mx false)=0:=by
 simp[CH,EM,J5,Re.kind,Re.set,Re.args,Re.mn,Re.mx,Re.neg];omega
theorem Pm {mn:Int} (h0:0<=mn) (h1:mn<=9) (t:Re):CH (.mk 9 [] [t] mn 0 false)=0:=by
 simp[CH,EM,J5,Re.kind,Re.set,Re.args,Re.mn,Re.mx,Re.neg];omega
theorem Rd (ng:Bool) (t:Re):CH (.mk 10 [] [t] 0 0 ng)=0:=by
 simp[CH,EM,J5,Re.kind,Re.set,Re.args,Re.mn,Re.mx,Re.neg]
theorem Tc {k:Int} (h:k=5∨k=8) (t:Re):CH (.mk k [] [t] 0 0 false)=0:=by
 rcases h with rfl|rfl<;>simp[CH,EM,J5,Re.kind,Re.set,Re.args,Re.mn,Re.mx,Re.neg]
theorem Gm {a k mn mx:Int} {ng:Bool} {b:List Re} (c:k<=a) (d:k≠2) (hn:CH (.mk k [] b mn mx ng)=0) (e:Cl (H1 a) b):Di (H1 a) (.mk k [] b mn mx ng):=by
 simp only[Di];exact ⟨⟨hn,c,λh=>absurd h d⟩,e⟩
theorem Qw {d:Nat} (h:1<=d):2 ^ (d - 1+1)=2 ^ d:=by rw[Nat.sub_add_cancel h]
theorem Hc {d:Nat} (h:1<=d) {t:Re} (a:t.size+1<=2 ^ (d - 1+1)) {k mn mx:Int} {set:List (Int×Int)} {ng:Bool}:(Re.mk k set [t] mn mx ng).size+1<=2 ^ (d+1):=by
 rw[Qw h] at a;simp only[Re.size,Re.sizes,Nat.pow_succ];have:=t.size_pos;omega
theorem JK {d:Nat} (h:1<=d) {t u:Re} (a:t.size+1<=2 ^ (d - 1+1)) (b:u.size+1<=2 ^ (d - 1+1)) {k mn mx:Int} {set:List (Int×Int)} {ng:Bool}:(Re.mk k set [t,u] mn mx ng).size+1<=2 ^ (d+1):=by
 rw[Qw h] at a b;simp only[Re.size,Re.sizes,Nat.pow_succ];omega
theorem Xk (wb:World) (bs:Nat) (kinds:Int) (hk:kinds=8∨kinds=10) (hb:wb.heap.size≤bs):∀(d:Nat),d≤4→∀(w0:World) (l:List Int),Ae wb w0→GV wb w0 bs l→
    Bi prog 59 #[.pointer (some ⟨bs,0,none⟩),.int .i64 ((d:Nat):Int),.int .i64 kinds] w0 fun v w=>∃t vs l',v=.agg vs.toArray∧Di (H1 kinds) t∧t.size+1≤2 ^ (d+1)∧AS (fun b=>w0.heap.size≤b) w t vs∧GV wb w bs l'∧Chg (fun x=>x=bs) w0 w:=by
  intro d
  induction d using Nat.strongRecOn with
  | _ d ih=>
  intro hd4 w0 l hE hS;have bf:=hS.lt;have ah:∀{w:World},Chg (fun x=>x=bs) w0 w→Ae wb w:=fun c=>Chg.step hE c fun x hx hm=>by have aj:x=bs:=hm;omega
  refine EY func59 rfl ntmps59 (Qo rfl) ?_;have E:Chg (fun x=>x=bs) w0 w0:=Chg.refl _ _;refine AA (Bg (c:=#[(I6 0),(.slice none 0 0),(.slice none 0 0),(I6 0),(I6 0),(.bool false)]) qD A9 rfl ?_);intro b1 w1 N1;have F1:=N1.ge E;replace hS:=hS.ext N1.ext;replace E:=E.ext N1.ext;have B1:=N1.blk;refine AB (AA (qM _ rfl (qM _ rfl (qV (Ax rfl rfl (A8 qO)) ?_))));have aa:b1≠bs:=qO
  refine qE rfl (AI func97 kQ kQ rfl) (G7 wb _ bs _ _ qO qO (ah E) hb hS) ?_;rintro _ w2 ⟨k0,l1,rfl,hk0,hk1,hS,C2⟩;replace B1:=C2.keep (aa) B1;replace E:=E.trans C2;refine qA _ rfl (AB (JV (fun σ W2=>∃(k:Int) (l1:List Int),(∃jj_,σ=Bj jj_ [(0,(P6 bs 0)),(1,(I6 (d:Int))),(2,(I6 kinds)),(6,(P6 b1 0)),(7,(I6 k))])∧Chg (fun x=>x=bs) w0 W2∧BH W2 b1 #[(I6 0),(.slice none 0 0),(.slice none 0 0),(I6 0),(I6 0),(.bool false)] 25∧(GV wb W2 bs l1)∧(0≤k∧k≤kinds∧(d=0→k<3))) ?_ ?_))
  · skip
    refine AA (qM _ rfl (qV (Aj rfl rfl) (AB (qC rfl (fun hd=>?_) (fun hd=>?_)))))
    · refine AR (qM _ rfl (qE rfl (AI func97 kQ kQ rfl) (G7 wb _ bs _ _ qO qO (ah E) hb hS) ?_));rintro _ w3 ⟨k2,l2,rfl,hk2,hk3,hS,C3⟩;replace B1:=C3.keep (aa) B1;replace E:=E.trans C3;refine qA _ rfl (AB (AC ?_));exact ⟨k2,l2,Am.out ⟨rfl,rfl,rfl,rfl,rfl,trivial⟩,E,B1,hS,qO⟩
    · refine AO (AC ?_);exact ⟨k0,l1,Am.out ⟨rfl,rfl,rfl,rfl,rfl,trivial⟩,E,B1,hS,qO⟩
  · clear E B1;rintro _ W2 ⟨k,l1,⟨j2,rfl⟩,E,B1,hS,av⟩;refine AG (AA (qM _ rfl (AB (AU (AG (AA (qV (Aj rfl rfl) (qA _ rfl (AB (qC rfl (fun h0=>?_) (fun h0=>?_)))))))))))
    · have bd:=decide_eq_true h0;refine AO (AC (Az (BC bd) (AA (qM _ rfl (qV (BJ (ps:=[(0,(I6 k))]) (v:=(.agg #[(I6 k),(.slice none 0 0),(.slice none 0 0),(I6 0),(I6 0),(.bool false)])) rfl qK) (Ab (b:=b1) (o:=0) (c':=#[(I6 k),(.slice none 0 0),(.slice none 0 0),(I6 0),(I6 0),(.bool false)]) rfl rfl qS AH rfl B1 qL rfl ?_))))));intro w5 S5;replace hS:=hS.put S5 (Ne.symm aa);replace E:=S5.step E qQ;replace B1:=S5.blk;refine AB (AJ (Ac (AP (A1 results59 (vs:=[(.int .i64 k),(.slice none 0 0),(.slice none 0 0),(.int .i64 0),(.int .i64 0),(.bool false)]) (b:=b1) rfl Ad AH rfl (B1.cells rfl) ?_))));exact ⟨.mk k [] [] 0 0 false,_,l1,rfl,Gm av.2.1 qO (MA qO) (by simp only[Cl]),by simp only[Re.size,Re.sizes];have:=Nat.two_pow_pos d;rw[Nat.pow_succ];omega,AS.of (set:=[]) (BY.nil _ _ _ _ _) qP (.inl rfl),hS,E⟩
    · have bd:=decide_eq_false h0;refine AR (qV (Aj rfl rfl) (qA _ rfl (AB (AC (qC rfl (fun h1=>?_) (fun h1=>?_))))))
      · refine AA (qM _ rfl (qV (BJ (ps:=[(0,(I6 k))]) (v:=(.agg #[(I6 k),(.slice none 0 0),(.slice none 0 0),(I6 0),(I6 0),(.bool false)])) rfl qK) (Ab (b:=b1) (o:=0) (c':=#[(I6 k),(.slice none 0 0),(.slice none 0 0),(I6 0),(I6 0),(.bool false)]) rfl rfl qS AH rfl B1 qL rfl ?_)));intro w7 S7;replace hS:=hS.put S7 (Ne.symm aa);replace E:=S7.step E qQ;replace B1:=S7.blk;refine AB (AJ (Ac (AP (A1 results59 (vs:=[(.int .i64 k),(.slice none 0 0),(.slice none 0 0),(.int .i64 0),(.int .i64 0),(.bool false)]) (b:=b1) rfl Ad AH rfl (B1.cells rfl) ?_))));exact ⟨.mk k [] [] 0 0 false,_,l1,rfl,Gm av.2.1 qO (MA qO) (by simp only[Cl]),by simp only[Re.size,Re.sizes];have:=Nat.two_pow_pos d;rw[Nat.pow_succ];omega,AS.of (set:=[]) (BY.nil _ _ _ _ _) qP (.inl rfl),hS,E⟩
      · refine AA (qV (Aj rfl rfl) (qA _ rfl (AB (qC rfl (fun h2=>?_) (fun h2=>?_)))))
        · refine AA (qM _ rfl (qE rfl (AI func97 kQ kQ rfl) (G7 wb _ bs _ _ qO qO (ah E) hb hS) ?_));rintro _ w5 ⟨x,l2,rfl,a8,a7,hS,C5⟩;replace B1:=C5.keep (aa) B1;replace E:=E.trans C5;refine qV (Ax rfl rfl (A8 qO)) (qA _ rfl (AB (AA (qM _ rfl (qM _ rfl (qM _ rfl (qM _ rfl (qE rfl (AI func97 kQ kQ rfl) (G7 wb _ bs _ _ qO qO (ah E) hb hS) ?_))))))));rintro _ w6 ⟨y,l3,rfl,bg,bh,hS,C6⟩;replace B1:=C6.keep (aa) B1;replace E:=E.trans C6;refine qV (Ax rfl rfl (A8 qO)) (qV (BJ (ps:=[(0,(I6 (97+x))),(1,(I6 ((97+x)+y)))]) (v:=(.agg #[(I6 (97+x)),(I6 ((97+x)+y))])) rfl qK) (A3 (ps:=[(0,(.agg #[(I6 (97+x)),(I6 ((97+x)+y))]))]) (c:=#[(I6 (97+x)),(I6 ((97+x)+y))]) qD rfl underlying22 BU Ed qD qD qK ?_));intro bq wq Nq;have Fq:=Nq.ge E;have Oq_b1:=Nq.lt B1;replace B1:=Nq.keep B1;replace hS:=hS.ext Nq.ext;replace E:=E.ext Nq.ext;have Bq:=Nq.blk;refine qV (BJ (ps:=[(0,(I6 k)),(1,(.slice (some ⟨bq,0,none⟩) 1 1))]) (v:=(.agg #[(I6 k),(.slice (some ⟨bq,0,none⟩) 1 1),(.slice none 0 0),(I6 0),(I6 0),(.bool false)])) rfl qK) (Ab (b:=b1) (o:=0) (c':=#[(I6 k),(.slice (some ⟨bq,0,none⟩) 1 1),(.slice none 0 0),(I6 0),(I6 0),(.bool false)]) rfl rfl qS AH rfl B1 qL rfl ?_);intro w9 S9;replace hS:=hS.put S9 (Ne.symm aa);replace Bq:=S9.keep qO Bq;replace E:=S9.step E qQ;replace B1:=S9.blk;refine AB (AJ (Ac (AP (A1 results59 (vs:=[(.int .i64 k),(.slice (some ⟨bq,0,none⟩) 1 1),(.slice none 0 0),(.int .i64 0),(.int .i64 0),(.bool false)]) (b:=b1) rfl Ad AH rfl (B1.cells rfl) ?_))));exact ⟨.mk k [(97+x,97+x+y)] [] 0 0 false,_,l3,rfl,by subst h2;simp only[Di,Cl];exact ⟨⟨Ta qO qO qO,av.2.1,fun _=>⟨_,_,rfl,qO,qO,qO⟩⟩,trivial⟩,by simp only[Re.size,Re.sizes];have:=Nat.two_pow_pos d;rw[Nat.pow_succ];omega,AS.of (set:=[(97+x,97+x+y)]) (BY.mk (IF [(97+x,97+x+y)] Bq qP qP) qO) qP (.inl rfl),hS,E⟩
        · refine AG (AA (qV (Aj rfl rfl) (qA _ rfl (AB (qC rfl (fun h3=>?_) (fun h3=>?_))))))
          · have bc:=decide_eq_true h3;have al:1≤d:=qO
            have ak:=B1.lt;have az:=E.size;refine AO (AC (Az (BC bc) (AA (qM _ rfl (qM _ rfl (qM _ rfl (qV (DI (c:=((d - 1:Nat):Int)) rfl rfl (by rw[A8 qO];omega)) (qM _ rfl (qE rfl (AI func59 kQ kQ rfl) (ih (d - 1) qO qO _ _ (ah E) hS) ?_)))))))));rintro _ w5 ⟨t1,au,l5,rfl,am,ai,ab,hS,C5⟩;replace B1:=C5.keep (aa) B1;replace E:=E.trans C5;obtain ⟨af,ac,ae,ag,rfl,_,_,_⟩:=ab.form;have a2:=B1.lt;have ba:=E.size;refine qM _ rfl (qM _ rfl (qV (DI (c:=((d - 1:Nat):Int)) rfl rfl (by rw[A8 qO];omega)) (qM _ rfl (qE rfl (AI func59 kQ kQ rfl) (ih (d - 1) qO qO _ _ (ah E) hS) ?_))));rintro _ w6 ⟨t2,be,l6,rfl,a6,a3,ad,hS,C6⟩;replace B1:=C6.keep (aa) B1;replace E:=E.trans C6;obtain ⟨ap,ar,ao,aq,rfl,_,_,_⟩:=ad.form;replace ab:=AS.chg C6 (fun x hx hm=>by have an:=hx;have aj:x=bs:=hm;have:=E.size;omega) t1 ab;refine A3 (ps:=[(0,(.agg (R6 t1 af ac ae ag))),(1,(.agg (R6 t2 ap ar ao aq)))]) (c:=#[(I6 t1.kind),(.slice af t1.set.length ac),(.slice ae t1.args.length ag),(I6 t1.mn),(I6 t1.mx),(.bool t1.neg),(I6 t2.kind),(.slice ap t2.set.length ar),(.slice ao t2.args.length aq),(I6 t2.mn),(I6 t2.mx),(.bool t2.neg)]) qD rfl underlying23 AH A9 qD qD qK ?_;intro bq wq Nq;have Fq:=Nq.ge E;have Oq_b1:=Nq.lt B1;replace B1:=Nq.keep B1;replace hS:=hS.ext Nq.ext;replace ab:=AS.ext Nq.ext t1 ab;replace ad:=AS.ext Nq.ext t2 ad;replace E:=E.ext Nq.ext;have Bq:=Nq.blk;refine qV (BJ (ps:=[(0,(I6 k)),(2,(.slice (some ⟨bq,0,none⟩) 2 2))]) (v:=(.agg #[(I6 k),(.slice none 0 0),(.slice (some ⟨bq,0,none⟩) 2 2),(I6 0),(I6 0),(.bool false)])) rfl qK) (Ab (b:=b1) (o:=0) (c':=#[(I6 k),(.slice none 0 0),(.slice (some ⟨bq,0,none⟩) 2 2),(I6 0),(I6 0),(.bool false)]) rfl rfl qS AH rfl B1 qL rfl ?_);intro w11 aw;replace hS:=hS.put aw (Ne.symm aa);replace ab:=AS.chg aw.chg (fun x hx hm=>by have an:=hx;have aj:x=b1:=hm;omega) t1 ab;replace ad:=AS.chg aw.chg (fun x hx hm=>by have an:=hx;have aj:x=b1:=hm;omega) t2 ad;replace Bq:=aw.keep qO Bq;replace E:=aw.step E qQ;replace B1:=aw.blk;refine AB (AJ (Ac (AP (A1 results59 (vs:=[(.int .i64 k),(.slice none 0 0),(.slice (some ⟨bq,0,none⟩) 2 2),(.int .i64 0),(.int .i64 0),(.bool false)]) (b:=b1) rfl Ad AH rfl (B1.cells rfl) ?_))));exact ⟨.mk k [] [t1,t2] 0 0 false,_,l6,rfl,Gm av.2.1 qO (IM qO t1 t2) (by simp only[Cl];exact ⟨am,a6,trivial⟩),JK al ai a3,AS.of (set:=[]) (BY.nil _ _ _ _ _) qP (.inr ⟨bq,0,qO,rfl,A5.two (Bq.cells rfl) (AS.mono (fun b (h:_≤b)=>qO) t1 ab) (Bq.cells rfl) (AS.mono (fun b (h:_≤b)=>qO) t2 ad)⟩),hS,E⟩
          · have bc:=decide_eq_false h3;refine AA (qV (Aj rfl rfl) (qA _ rfl (AB (qC rfl (fun h4=>?_) (fun h4=>?_)))))
            · have a9:=decide_eq_true h4;have al:1≤d:=qO
              have ak:=B1.lt;have az:=E.size;refine AO (AC (Az (BC a9) (AA (qM _ rfl (qM _ rfl (qM _ rfl (qV (DI (c:=((d - 1:Nat):Int)) rfl rfl (by rw[A8 qO];omega)) (qM _ rfl (qE rfl (AI func59 kQ kQ rfl) (ih (d - 1) qO qO _ _ (ah E) hS) ?_)))))))));rintro _ w5 ⟨t1,au,l5,rfl,am,ai,ab,hS,C5⟩;replace B1:=C5.keep (aa) B1;replace E:=E.trans C5;obtain ⟨af,ac,ae,ag,rfl,_,_,_⟩:=ab.form;have a2:=B1.lt;have ba:=E.size;refine qM _ rfl (qM _ rfl (qV (DI (c:=((d - 1:Nat):Int)) rfl rfl (by rw[A8 qO];omega)) (qM _ rfl (qE rfl (AI func59 kQ kQ rfl) (ih (d - 1) qO qO _ _ (ah E) hS) ?_))));rintro _ w6 ⟨t2,be,l6,rfl,a6,a3,ad,hS,C6⟩;replace B1:=C6.keep (aa) B1;replace E:=E.trans C6;obtain ⟨ap,ar,ao,aq,rfl,_,_,_⟩:=ad.form;replace ab:=AS.chg C6 (fun x hx hm=>by have an:=hx;have aj:x=bs:=hm;have:=E.size;omega) t1 ab;refine A3 (ps:=[(0,(.agg (R6 t1 af ac ae ag))),(1,(.agg (R6 t2 ap ar ao aq)))]) (c:=#[(I6 t1.kind),(.slice af t1.set.length ac),(.slice ae t1.args.length ag),(I6 t1.mn),(I6 t1.mx),(.bool t1.neg),(I6 t2.kind),(.slice ap t2.set.length ar),(.slice ao t2.args.length aq),(I6 t2.mn),(I6 t2.mx),(.bool t2.neg)]) qD rfl underlying23 AH A9 qD qD qK ?_;intro bq wq Nq;have Fq:=Nq.ge E;have Oq_b1:=Nq.lt B1;replace B1:=Nq.keep B1;replace hS:=hS.ext Nq.ext;replace ab:=AS.ext Nq.ext t1 ab;replace ad:=AS.ext Nq.ext t2 ad;replace E:=E.ext Nq.ext;have Bq:=Nq.blk;refine qV (BJ (ps:=[(0,(I6 k)),(2,(.slice (some ⟨bq,0,none⟩) 2 2))]) (v:=(.agg #[(I6 k),(.slice none 0 0),(.slice (some ⟨bq,0,none⟩) 2 2),(I6 0),(I6 0),(.bool false)])) rfl qK) (Ab (b:=b1) (o:=0) (c':=#[(I6 k),(.slice none 0 0),(.slice (some ⟨bq,0,none⟩) 2 2),(I6 0),(I6 0),(.bool false)]) rfl rfl qS AH rfl B1 qL rfl ?_);intro w13 ay;replace hS:=hS.put ay (Ne.symm aa);replace ab:=AS.chg ay.chg (fun x hx hm=>by have an:=hx;have aj:x=b1:=hm;omega) t1 ab;replace ad:=AS.chg ay.chg (fun x hx hm=>by have an:=hx;have aj:x=b1:=hm;omega) t2 ad;replace Bq:=ay.keep qO Bq;replace E:=ay.step E qQ;replace B1:=ay.blk;refine AB (AJ (Ac (AP (A1 results59 (vs:=[(.int .i64 k),(.slice none 0 0),(.slice (some ⟨bq,0,none⟩) 2 2),(.int .i64 0),(.int .i64 0),(.bool false)]) (b:=b1) rfl Ad AH rfl (B1.cells rfl) ?_))));exact ⟨.mk k [] [t1,t2] 0 0 false,_,l6,rfl,Gm av.2.1 qO (IM qO t1 t2) (by simp only[Cl];exact ⟨am,a6,trivial⟩),JK al ai a3,AS.of (set:=[]) (BY.nil _ _ _ _ _) qP (.inr ⟨bq,0,qO,rfl,A5.two (Bq.cells rfl) (AS.mono (fun b (h:_≤b)=>qO) t1 ab) (Bq.cells rfl) (AS.mono (fun b (h:_≤b)=>qO) t2 ad)⟩),hS,E⟩
            · have a9:=decide_eq_false h4;refine AR (qV (Aj rfl rfl) (qA _ rfl (AB (AC (qC rfl (fun h7=>?_) (fun h7=>?_))))))
              · have al:1≤d:=qO
                have ak:=B1.lt;have az:=E.size;refine AA (qM _ rfl (qM _ rfl (qM _ rfl (qV (DI (c:=((d - 1:Nat):Int)) rfl rfl (by rw[A8 qO];omega)) (qM _ rfl (qE rfl (AI func59 kQ kQ rfl) (ih (d - 1) qO qO _ _ (ah E) hS) ?_))))));rintro _ w5 ⟨t1,au,l5,rfl,am,ai,ab,hS,C5⟩;replace B1:=C5.keep (aa) B1;replace E:=E.trans C5;obtain ⟨af,ac,ae,ag,rfl,_,_,_⟩:=ab.form;have a2:=B1.lt;have ba:=E.size;refine qM _ rfl (qM _ rfl (qV (DI (c:=((d - 1:Nat):Int)) rfl rfl (by rw[A8 qO];omega)) (qM _ rfl (qE rfl (AI func59 kQ kQ rfl) (ih (d - 1) qO qO _ _ (ah E) hS) ?_))));rintro _ w6 ⟨t2,be,l6,rfl,a6,a3,ad,hS,C6⟩;replace B1:=C6.keep (aa) B1;replace E:=E.trans C6;obtain ⟨ap,ar,ao,aq,rfl,_,_,_⟩:=ad.form;replace ab:=AS.chg C6 (fun x hx hm=>by have an:=hx;have aj:x=bs:=hm;have:=E.size;omega) t1 ab;refine A3 (ps:=[(0,(.agg (R6 t1 af ac ae ag))),(1,(.agg (R6 t2 ap ar ao aq)))]) (c:=#[(I6 t1.kind),(.slice af t1.set.length ac),(.slice ae t1.args.length ag),(I6 t1.mn),(I6 t1.mx),(.bool t1.neg),(I6 t2.kind),(.slice ap t2.set.length ar),(.slice ao t2.args.length aq),(I6 t2.mn),(I6 t2.mx),(.bool t2.neg)]) qD rfl underlying23 AH A9 qD qD qK ?_;intro bq wq Nq;have Fq:=Nq.ge E;have Oq_b1:=Nq.lt B1;replace B1:=Nq.keep B1;replace hS:=hS.ext Nq.ext;replace ab:=AS.ext Nq.ext t1 ab;replace ad:=AS.ext Nq.ext t2 ad;replace E:=E.ext Nq.ext;have Bq:=Nq.blk;refine qV (BJ (ps:=[(0,(I6 k)),(2,(.slice (some ⟨bq,0,none⟩) 2 2))]) (v:=(.agg #[(I6 k),(.slice none 0 0),(.slice (some ⟨bq,0,none⟩) 2 2),(I6 0),(I6 0),(.bool false)])) rfl qK) (Ab (b:=b1) (o:=0) (c':=#[(I6 k),(.slice none 0 0),(.slice (some ⟨bq,0,none⟩) 2 2),(I6 0),(I6 0),(.bool false)]) rfl rfl qS AH rfl B1 qL rfl ?_);intro w15 ax;replace hS:=hS.put ax (Ne.symm aa);replace ab:=AS.chg ax.chg (fun x hx hm=>by have an:=hx;have aj:x=b1:=hm;omega) t1 ab;replace ad:=AS.chg ax.chg (fun x hx hm=>by have an:=hx;have aj:x=b1:=hm;omega) t2 ad;replace Bq:=ax.keep qO Bq;replace E:=ax.step E qQ;replace B1:=ax.blk;refine AB (AJ (Ac (AP (A1 results59 (vs:=[(.int .i64 k),(.slice none 0 0),(.slice (some ⟨bq,0,none⟩) 2 2),(.int .i64 0),(.int .i64 0),(.bool false)]) (b:=b1) rfl Ad AH rfl (B1.cells rfl) ?_))));exact ⟨.mk k [] [t1,t2] 0 0 false,_,l6,rfl,Gm av.2.1 qO (IM qO t1 t2) (by simp only[Cl];exact ⟨am,a6,trivial⟩),JK al ai a3,AS.of (set:=[]) (BY.nil _ _ _ _ _) qP (.inr ⟨bq,0,qO,rfl,A5.two (Bq.cells rfl) (AS.mono (fun b (h:_≤b)=>qO) t1 ab) (Bq.cells rfl) (AS.mono (fun b (h:_≤b)=>qO) t2 ad)⟩),hS,E⟩
              · refine AA (qV (Aj rfl rfl) (qA _ rfl (AB (qC rfl (fun h6=>?_) (fun h6=>?_)))))
                · refine AA (qM _ rfl (qE rfl (AI func97 kQ kQ rfl) (G7 wb _ bs _ _ qO qO (ah E) hb hS) ?_));rintro _ w3 ⟨x,l2,rfl,a8,a7,hS,C3⟩;replace B1:=C3.keep (aa) B1;replace E:=E.trans C3;refine qA _ rfl (AB (AA (qM _ rfl (qM _ rfl (qM _ rfl (qM _ rfl (qE rfl (AI func97 kQ kQ rfl) (G7 wb _ bs _ _ qO qO (ah E) hb hS) ?_)))))));rintro _ w4 ⟨y,l3,rfl,bg,bh,hS,C4⟩;replace B1:=C4.keep (aa) B1;replace E:=E.trans C4;refine qV (Ax rfl rfl (A8 qO)) (qM _ rfl (qM _ rfl ?_));have al:1≤d:=qO
                  have ak:=B1.lt;have az:=E.size;refine qV (DI (c:=((d - 1:Nat):Int)) rfl rfl (by rw[A8 qO];omega)) (qM _ rfl (qE rfl (AI func59 kQ kQ rfl) (ih (d - 1) qO qO _ _ (ah E) hS) ?_));rintro _ w5 ⟨t1,au,l5,rfl,am,ai,ab,hS,C5⟩;replace B1:=C5.keep (aa) B1;replace E:=E.trans C5;obtain ⟨af,ac,ae,ag,rfl,_,_,_⟩:=ab.form;refine A3 (ps:=[(0,(.agg (R6 t1 af ac ae ag)))]) (c:=(R6 t1 af ac ae ag)) qD rfl underlying23 AH A9 qD qD qK ?_;intro bq wq Nq;have Fq:=Nq.ge E;have Oq_b1:=Nq.lt B1;replace B1:=Nq.keep B1;replace hS:=hS.ext Nq.ext;replace ab:=AS.ext Nq.ext t1 ab;replace E:=E.ext Nq.ext;have Bq:=Nq.blk;refine qV (BJ (ps:=[(0,(I6 k)),(3,(I6 x)),(4,(I6 (x+y))),(2,(.slice (some ⟨bq,0,none⟩) 1 1))]) (v:=(.agg #[(I6 k),(.slice none 0 0),(.slice (some ⟨bq,0,none⟩) 1 1),(I6 x),(I6 (x+y)),(.bool false)])) rfl qK) (Ab (b:=b1) (o:=0) (c':=#[(I6 k),(.slice none 0 0),(.slice (some ⟨bq,0,none⟩) 1 1),(I6 x),(I6 (x+y)),(.bool false)]) rfl rfl qS AH rfl B1 qL rfl ?_);intro w17 a1;replace hS:=hS.put a1 (Ne.symm aa);replace ab:=AS.chg a1.chg (fun x hx hm=>by have an:=hx;have aj:x=b1:=hm;omega) t1 ab;replace Bq:=a1.keep qO Bq;replace E:=a1.step E qQ;replace B1:=a1.blk;refine AB (AJ (Ac (AP (A1 results59 (vs:=[(.int .i64 k),(.slice none 0 0),(.slice (some ⟨bq,0,none⟩) 1 1),(.int .i64 x),(.int .i64 (x+y)),(.bool false)]) (b:=b1) rfl Ad AH rfl (B1.cells rfl) ?_))));exact ⟨.mk k [] [t1] x (x+y) false,_,l5,rfl,Gm qO qO (by subst h6;exact Tb qO qO qO t1) (by simp only[Cl];exact ⟨am,trivial⟩),Hc al ai,AS.of (set:=[]) (BY.nil _ _ _ _ _) qP (.inr ⟨bq,0,qO,rfl,A5.one (Bq.cells rfl) (AS.mono (fun b (h:_≤b)=>qO) t1 ab)⟩),hS,E⟩
                · refine AA (qV (Aj rfl rfl) (qA _ rfl (AB (qC rfl (fun h9=>?_) (fun h9=>?_)))))
                  · refine AA (qM _ rfl (qM _ rfl (qE rfl (AI func97 kQ kQ rfl) (G7 wb _ bs _ _ qO qO (ah E) hb hS) ?_)));rintro _ w3 ⟨x,l2,rfl,a8,a7,hS,C3⟩;replace B1:=C3.keep (aa) B1;replace E:=E.trans C3;have al:1≤d:=qO
                    have ak:=B1.lt;have az:=E.size;refine qM _ rfl (qM _ rfl (qV (DI (c:=((d - 1:Nat):Int)) rfl rfl (by rw[A8 qO];omega)) (qM _ rfl (qE rfl (AI func59 kQ kQ rfl) (ih (d - 1) qO qO _ _ (ah E) hS) ?_))));rintro _ w5 ⟨t1,au,l5,rfl,am,ai,ab,hS,C5⟩;replace B1:=C5.keep (aa) B1;replace E:=E.trans C5;obtain ⟨af,ac,ae,ag,rfl,_,_,_⟩:=ab.form;refine A3 (ps:=[(0,(.agg (R6 t1 af ac ae ag)))]) (c:=(R6 t1 af ac ae ag)) qD rfl underlying23 AH A9 qD qD qK ?_;intro bq wq Nq;have Fq:=Nq.ge E;have Oq_b1:=Nq.lt B1;replace B1:=Nq.keep B1;replace hS:=hS.ext Nq.ext;replace ab:=AS.ext Nq.ext t1 ab;replace E:=E.ext Nq.ext;have Bq:=Nq.blk;refine qV (BJ (ps:=[(0,(I6 k)),(3,(I6 x)),(2,(.slice (some ⟨bq,0,none⟩) 1 1))]) (v:=(.agg #[(I6 k),(.slice none 0 0),(.slice (some ⟨bq,0,none⟩) 1 1),(I6 x),(I6 0),(.bool false)])) rfl qK) (Ab (b:=b1) (o:=0) (c':=#[(I6 k),(.slice none 0 0),(.slice (some ⟨bq,0,none⟩) 1 1),(I6 x),(I6 0),(.bool false)]) rfl rfl qS AH rfl B1 qL rfl ?_);intro w19 a0;replace hS:=hS.put a0 (Ne.symm aa);replace ab:=AS.chg a0.chg (fun x hx hm=>by have an:=hx;have aj:x=b1:=hm;omega) t1 ab;replace Bq:=a0.keep qO Bq;replace E:=a0.step E qQ;replace B1:=a0.blk;refine AB (AJ (Ac (AP (A1 results59 (vs:=[(.int .i64 k),(.slice none 0 0),(.slice (some ⟨bq,0,none⟩) 1 1),(.int .i64 x),(.int .i64 0),(.bool false)]) (b:=b1) rfl Ad AH rfl (B1.cells rfl) ?_))));exact ⟨.mk k [] [t1] x 0 false,_,l5,rfl,Gm qO qO (by subst h9;exact Pm qO qO t1) (by simp only[Cl];exact ⟨am,trivial⟩),Hc al ai,AS.of (set:=[]) (BY.nil _ _ _ _ _) qP (.inr ⟨bq,0,qO,rfl,A5.one (Bq.cells rfl) (AS.mono (fun b (h:_≤b)=>qO) t1 ab)⟩),hS,E⟩
                  · refine AA (qV (Aj rfl rfl) (qA _ rfl (AB (qC rfl (fun bb=>?_) (fun bb=>?_)))))
                    · refine AA (qM _ rfl (qM _ rfl (qE rfl (AI func97 kQ kQ rfl) (G7 wb _ bs _ _ qO qO (ah E) hb hS) ?_)));rintro _ w3 ⟨x,l2,rfl,a8,a7,hS,C3⟩;replace B1:=C3.keep (aa) B1;replace E:=E.trans C3;have al:1≤d:=qO
                      have ak:=B1.lt;have az:=E.size;refine qV (Aj rfl rfl) (qM _ rfl (qM _ rfl (qV (DI (c:=((d - 1:Nat):Int)) rfl rfl (by rw[A8 qO];omega)) (qM _ rfl (qE rfl (AI func59 kQ kQ rfl) (ih (d - 1) qO qO _ _ (ah E) hS) ?_)))));rintro _ w5 ⟨t1,au,l5,rfl,am,ai,ab,hS,C5⟩;replace B1:=C5.keep (aa) B1;replace E:=E.trans C5;obtain ⟨af,ac,ae,ag,rfl,_,_,_⟩:=ab.form;refine A3 (ps:=[(0,(.agg (R6 t1 af ac ae ag)))]) (c:=(R6 t1 af ac ae ag)) qD rfl underlying23 AH A9 qD qD qK ?_;intro bq wq Nq;have Fq:=Nq.ge E;have Oq_b1:=Nq.lt B1;replace B1:=Nq.keep B1;replace hS:=hS.ext Nq.ext;replace ab:=AS.ext Nq.ext t1 ab;replace E:=E.ext Nq.ext;have Bq:=Nq.blk;refine qV (BJ (ps:=[(0,(I6 k)),(5,(.bool (decide ((x:Int)=1)))),(2,(.slice (some ⟨bq,0,none⟩) 1 1))]) (v:=(.agg #[(I6 k),(.slice none 0 0),(.slice (some ⟨bq,0,none⟩) 1 1),(I6 0),(I6 0),(.bool (decide ((x:Int)=1)))])) rfl qK) (Ab (b:=b1) (o:=0) (c':=#[(I6 k),(.slice none 0 0),(.slice (some ⟨bq,0,none⟩) 1 1),(I6 0),(I6 0),(.bool (decide ((x:Int)=1)))]) rfl rfl qS AH rfl B1 qL rfl ?_);intro w21 a4;replace hS:=hS.put a4 (Ne.symm aa);replace ab:=AS.chg a4.chg (fun x hx hm=>by have an:=hx;have aj:x=b1:=hm;omega) t1 ab;replace Bq:=a4.keep qO Bq;replace E:=a4.step E qQ;replace B1:=a4.blk;refine AB (AJ (Ac (AP (A1 results59 (vs:=[(.int .i64 k),(.slice none 0 0),(.slice (some ⟨bq,0,none⟩) 1 1),(.int .i64 0),(.int .i64 0),(.bool (decide ((x:Int)=1)))]) (b:=b1) rfl Ad AH rfl (B1.cells rfl) ?_))));exact ⟨.mk k [] [t1] 0 0 (decide (x=1)),_,l5,rfl,Gm qO qO (by subst bb;exact Rd _ t1) (by simp only[Cl];exact ⟨am,trivial⟩),Hc al ai,AS.of (set:=[]) (BY.nil _ _ _ _ _) qP (.inr ⟨bq,0,qO,rfl,A5.one (Bq.cells rfl) (AS.mono (fun b (h:_≤b)=>qO) t1 ab)⟩),hS,E⟩
                    · have al:1≤d:=qO
                      have ak:=B1.lt;have az:=E.size;refine AO (AQ (AC (AA (qM _ rfl (qM _ rfl (qM _ rfl (qV (DI (c:=((d - 1:Nat):Int)) rfl rfl (by rw[A8 qO];omega)) (qM _ rfl (qE rfl (AI func59 kQ kQ rfl) (ih (d - 1) qO qO _ _ (ah E) hS) ?_)))))))));rintro _ w5 ⟨t1,au,l5,rfl,am,ai,ab,hS,C5⟩;replace B1:=C5.keep (aa) B1;replace E:=E.trans C5;obtain ⟨af,ac,ae,ag,rfl,_,_,_⟩:=ab.form;refine A3 (ps:=[(0,(.agg (R6 t1 af ac ae ag)))]) (c:=(R6 t1 af ac ae ag)) qD rfl underlying23 AH A9 qD qD qK ?_;intro bq wq Nq;have Fq:=Nq.ge E;have Oq_b1:=Nq.lt B1;replace B1:=Nq.keep B1;replace hS:=hS.ext Nq.ext;replace ab:=AS.ext Nq.ext t1 ab;replace E:=E.ext Nq.ext;have Bq:=Nq.blk;refine qV (BJ (ps:=[(0,(I6 k)),(2,(.slice (some ⟨bq,0,none⟩) 1 1))]) (v:=(.agg #[(I6 k),(.slice none 0 0),(.slice (some ⟨bq,0,none⟩) 1 1),(I6 0),(I6 0),(.bool false)])) rfl qK) (Ab (b:=b1) (o:=0) (c':=#[(I6 k),(.slice none 0 0),(.slice (some ⟨bq,0,none⟩) 1 1),(I6 0),(I6 0),(.bool false)]) rfl rfl qS AH rfl B1 qL rfl ?_);intro w22 a5;replace hS:=hS.put a5 (Ne.symm aa);replace ab:=AS.chg a5.chg (fun x hx hm=>by have an:=hx;have aj:x=b1:=hm;omega) t1 ab;replace Bq:=a5.keep qO Bq;replace E:=a5.step E qQ;replace B1:=a5.blk;refine AB (AJ (A1 results59 (vs:=[(.int .i64 k),(.slice none 0 0),(.slice (some ⟨bq,0,none⟩) 1 1),(.int .i64 0),(.int .i64 0),(.bool false)]) (b:=b1) rfl Ad AH rfl (B1.cells rfl) ?_));exact ⟨.mk k [] [t1] 0 0 false,_,l5,rfl,Gm qO qO (Tc qO t1) (by simp only[Cl];exact ⟨am,trivial⟩),Hc al ai,AS.of (set:=[]) (BY.nil _ _ _ _ _) qP (.inr ⟨bq,0,qO,rfl,A5.one (Bq.cells rfl) (AS.mono (fun b (h:_≤b)=>qO) t1 ab)⟩),hS,E⟩
end Go.Proofs
namespace Go.Proofs
open Go Go.Eng
def Wf (n:Nat) (R:Rl):Prop:=∀i j,R i j=true->i<=j∧j<=n
theorem NY (n:Nat):Wf n Gf:=λi j h=>by simp[Gf] at h
theorem JY (n:Nat):Wf n (J7 n):=λi j h=>by simp[J7] at h;omega
theorem ST {n:Nat} {A B:Rl} (a:Wf n A) (b:Wf n B):Wf n (LR A B):=λi j h=>by
 simp only[LR,Bool.or_eq_true] at h;rcases h with h|h;exact a i j h;exact b i j h
theorem WP {n:Nat} {A B:Rl} (a:Wf n A):Wf n (G0 A B):=λi j h=>by
 simp only[G0,Bool.and_eq_true] at h;exact a i j h.1
theorem IB {n:Nat} {A B:Rl} (a:Wf n A) (b:Wf n B):Wf n (Bw A B n):=λi k h=>by
 simp only[Bw,Bool.and_eq_true,List.any_eq_true] at h;obtain ⟨_,j,_,c,d⟩:=h;have:=a i j c;have:=b j k d;omega
theorem FT {n:Nat} {A:Rl} (a:Wf n A):∀m,Wf n (D7 n A m)
 | 0=>JY n
 | m+1=>ST (FT a m) (IB (FT a m) a)
theorem Mn {n:Nat} {A:Rl} (a:Wf n A):∀m,Wf n (I9 n A m)
 | 0=>JY n
 | m+1=>IB (Mn a m) a
theorem PO {n:Nat} {A:Rl} (a:Wf n A) (mn:Int):∀m,Wf n (I4 n A mn m)
 | 0=>NY n
 | m+1=>by
  simp only[I4];split
  .exact ST (PO a mn m) (Mn a m)
  .exact PO a mn m
theorem WO (n:Nat) (A:Rl):Wf n (IL n A):=λi j h=>by simp[IL] at h;omega
theorem Um (n:Nat) (A:Rl) (ng:Bool):Wf n (FJ n A ng):=λi j h=>by simp[FJ] at h;omega
theorem WN (text:List Int) (set:List (Int×Int)):Wf text.length (G3 text set):=λi j h=>by
 simp only[G3,Bool.and_eq_true,decide_eq_true_eq] at h;obtain ⟨a,rfl⟩:=h;cases hx:text[i]? with
 | none=>simp[hx] at a
 | some c=>have:=AM hx;omega
theorem Jz {n:Nat} {L:List Rl} (h:∀x∈L,Wf n x):Wf n (L.headD Gf):=by
 cases L with
 | nil=>exact NY n
 | cons x r=>exact h x qP
theorem FU {n:Nat}:∀(L:List Rl) (A:Rl),Wf n A->(∀x∈L,Wf n x)->Wf n (L.foldl (λa x=>Bw a x n) A)
 | [],_,h,_=>h
 | x::L,A,h,hl=>FU L _ (IB h (hl x qP)) λy b=>hl y (by simp[b])
theorem Lb {n:Nat}:∀(L:List Rl) (A:Rl),Wf n A->(∀x∈L,Wf n x)->Wf n (L.foldl LR A)
 | [],_,h,_=>h
 | x::L,A,h,hl=>Lb L _ (ST h (hl x qP)) λy a=>hl y (by simp[a])
theorem KD {n:Nat}:∀(L:List Rl) (A:Rl),Wf n A->Wf n (L.foldl G0 A)
 | [],_,h=>h
 | x::L,A,h=>KD L _ (WP h)
theorem Ul (text:List Int) (k:Int) (set:List (Int×Int)) (L:List Rl) (mn mx:Int) (ng:Bool) (h:∀x∈L,Wf text.length x):Wf text.length (Gz text k set L mn mx ng):=by
 unfold Gz
 repeat' split
 .exact JY _
 .exact WN _ _
 .exact FU _ _ (JY _) h
 .exact Lb _ _ (NY _) h
 .exact KD _ _ (Jz h)
 .exact WO _ _
 .exact FT (Jz h) _
 .exact PO (Jz h) _ _
 .exact Jz h
 .exact Um _ _ _
 .exact NY _
mutual
theorem E_ (text:List Int):∀(t:Re),Wf text.length (Ar text t)
 | .mk k set args mn mx ng=>by simp only[Ar];exact Ul _ _ _ _ _ _ _ (QO text args)
theorem QO (text:List Int):∀(a:List Re),∀x∈DC text a,Wf text.length x
 | [],_,h=>by simp[DC] at h
 | t::a,x,h=>by
  simp only[DC,List.mem_cons] at h;rcases h with rfl|h
  .exact E_ text t
  .exact QO text a x h
end
theorem Kb {A B:Rl} (h:∀i j,A i j=true↔B i j=true):A=B:=by
 funext i j;exact Bool.eq_iff_iff.2 (h i j)
theorem Cw {n:Nat} (hn:n<=24) {A B:Rl} (a:Wf n A) (i k:Nat):Bw A B n i k=true↔∃j,A i j=true∧B j k=true:=by
 simp only[Bw,Bool.and_eq_true,List.any_eq_true,List.mem_range,decide_eq_true_eq];constructor
 .rintro ⟨_,j,_,h⟩;exact ⟨j,h⟩
 .rintro ⟨j,b,c⟩;have:=a i j b;exact ⟨qO,j,qO,b,c⟩
theorem M3 (A B:Rl) (i j:Nat):LR A B i j=true↔A i j=true∨B i j=true:=by simp[LR]
theorem FM (n i j:Nat):J7 n i j=true↔i<=n∧j=i:=by simp[J7]
theorem J6 {n:Nat} (hn:n<=24) {A:Rl} (a:Wf n A):Bw (J7 n) A n=A:=Kb λi k=>by
 rw[Cw hn (JY n)];constructor
 .rintro ⟨j,b,c⟩;rw[FM] at b;obtain ⟨_,rfl⟩:=b;exact c
 .intro h;have:=a i k h;exact ⟨i,(FM n i i).2 ⟨qO,O⟩,h⟩
theorem GX {n:Nat} (hn:n<=24) {A B C:Rl} (a:Wf n A) (b:Wf n B):Bw A (Bw B C n) n=Bw (Bw A B n) C n:=Kb λi k=>by
 rw[Cw hn a,Cw hn (IB a b)];constructor
 .rintro ⟨j,c,d⟩;rw[Cw hn b] at d;obtain ⟨m,e,f⟩:=d;exact ⟨m,(Cw hn a i m).2 ⟨j,c,e⟩,f⟩
 .rintro ⟨j,c,d⟩;rw[Cw hn a] at c;obtain ⟨m,e,f⟩:=c;exact ⟨m,e,(Cw hn b m k).2 ⟨j,f,d⟩⟩
inductive St (n:Nat) (A:Rl) (i:Nat):Nat->Prop where
  | refl:i<=n->St n A i i
  | step {j k:Nat}:St n A i j->A j k=true->St n A i k
theorem Ln {n : Nat} {A : Rl} {m m' : Nat} (h : m ≤ m') {i j : Nat} (hs : D7 n A m i j = true) : D7 n A m' i j = true := by
  induction m' with
  | zero => obtain rfl : m = 0 := by omega
            exact hs
  | succ m' ih =>
    rcases Nat.lt_or_ge m (m' + 1) with h1 | h1
    · simp only [D7, M3]; exact .inl (ih (by omega))
    · obtain rfl : m = m' + 1 := by omega
      exact hs
theorem Hs {n:Nat} (hn:n<=24) {A:Rl} (a:Wf n A):∀{m i j:Nat},D7 n A m i j=true->St n A i j
 | 0,i,j,h=>by simp only[D7,FM] at h;obtain ⟨h,rfl⟩:=h;exact .refl h
 | m+1,i,j,h=>by
  simp only[D7,M3] at h;rcases h with h|h
  .exact Hs hn a h
  .rw[Cw hn (FT a m)] at h;obtain ⟨k,b,c⟩:=h;exact .step (Hs hn a b) c
theorem PT {n:Nat} (hn:n<=24) {A:Rl} (a:Wf n A) {i j:Nat} (h:St n A i j):D7 n A (j - i) i j=true:=by
 induction h with
 | refl h=>simp only[Nat.sub_self,D7,FM];exact ⟨h,trivial⟩
 | @step j k h1 h2 ih=>
  have h3:=a j k h2;have h4:=FT a _ _ _ ih;rcases Nat.lt_or_ge j k with h|h
  .refine Ln (m:=j - i+1) qO ?_;simp only[D7,M3];exact .inr ((Cw hn (FT a _) i k).2 ⟨j,ih,h2⟩)
  .obtain rfl:j=k:=qO
   exact ih
theorem IE {n:Nat} (hn:n<=24) {A:Rl} (a:Wf n A) (i j:Nat):D7 n A (n+1) i j=true↔St n A i j:=
 ⟨Hs hn a,λh=>by
  have b:=PT hn a h;have:=FT a _ _ _ b;exact Ln qO b⟩
theorem St.trans {n:Nat} {A:Rl} {i j k:Nat} (h:St n A i j) (a:St n A j k):St n A i k:=by
 induction a with
 | refl _=>exact h
 | step _ h2 ih=>exact .step ih h2
theorem St.one {n:Nat} {A:Rl} (a:Wf n A) {i j:Nat} (h:A i j=true):St n A i j:=.step (.refl (by have:=a i j h;omega)) h
abbrev O8 (s t:Re):Re:=.mk 3 [] [s,t] 0 0 false
abbrev BP:Re:=.mk 1 [] [] 0 0 false
abbrev BB:Re:=.mk 0 [] [] 0 0 false
section
variable (text : List Int)
theorem VE (hn:text.length<=24) (s t:Re):Ar text (O8 s t)=Bw (Ar text s) (Ar text t) text.length:=by
 simp only[Ar,DC,Gz,List.foldl];simp[J6 hn (E_ text s)]
end
theorem M4 {k:Int} (h:k=3∨k=4∨k=7) {s t:Re} (a:CY s) (b:CY t):CY (.mk k [] [s,t] 0 0 false):=by simp only[CY,DB];exact ⟨IM h s t,a,b,trivial⟩
def YL (text:List Int):Prop:=text.length<=24∧∀x∈text,CA x=true
theorem K_ {t:Re} {text:List Int} (c:CY t) (hs:t.size<=40) (h:YL text):B' t text=0:=by
 have a:Cj t 40=0:=(DF qD qD).2 ⟨c,qO⟩;unfold B';rw[if_neg (by simp[a]),if_neg (by have:=h.1;omega),if_neg];simp only[List.any_eq_true,Bool.not_eq_true',not_exists,not_and];intro x b;simp[h.2 x b]
def Sm (s t:Re) (text:List Int):Prop:=B' s text=0∧B' t text=0∧D_ (Ar text s) (text.length+1)=D_ (Ar text t) (text.length+1)
theorem XY {s t:Re} {text:List Int} (h:YL text) (a:CY s) (b:CY t) (d:s.size<=40) (hb:t.size<=40) (c:Ar text s=Ar text t):Sm s t text:=
 ⟨K_ a d h,K_ b hb h,by rw[c]⟩
section
variable {text : List Int} (h : YL text) {a b c : Re} (oa : CY a) (ob : CY b) (oc : CY c)
include h oa
theorem YI (ob:CY b) (oc:CY c) (hs:a.size+b.size+c.size<=18):Sm (O8 a (O8 b c)) (O8 (O8 a b) c) text:=
 XY h (M4 qP oa (M4 qP ob oc)) (M4 qP (M4 qP oa ob) oc) (by simp[Re.size,Re.sizes];omega) (by simp[Re.size,Re.sizes];omega)
  (by simp only[VE text h.1];exact GX h.1 (E_ text a) (E_ text b))
end
end Go.Proofs
namespace Go.Proofs
open Go Go.Eng
section
variable {n : Nat} (hn : n ≤ 24)
include hn
theorem R3 {A B:Rl} (a:Wf n A) (b:Wf n B):∀(L:List Rl),(∀x∈L,Wf n x)->L.foldl (λa x=>Bw a x n) (Bw A B n)=Bw A (L.foldl (λa x=>Bw a x n) B) n
 :=by
 intro L
 induction L generalizing B with
 | nil=>intro _;rfl
 | cons x L ih=>
  intro h;simp only[List.foldl_cons];rw[<-GX hn a b];exact ih (IB b (h x qP)) λy c=>h y (by simp[c])
theorem O7 {A:Rl} (a:Wf n A) (L:List Rl) (h:∀x∈L,Wf n x):(A::L).foldl (λa x=>Bw a x n) (J7 n)=Bw A (L.foldl (λa x=>Bw a x n) (J7 n)) n:=by
 rw[List.foldl_cons,J6 hn a];have b:=R3 hn a (JY n) L h;have c:Bw A (J7 n) n=A:=Kb λi k=>by
  rw[Cw hn a];constructor
  .rintro ⟨j,b,c⟩;rw[FM] at c;rw[c.2];exact b
  .intro h;exact ⟨k,h,by rw[FM];have:=a i k h;omega⟩
 rw[c] at b;exact b
theorem PR {A B:Rl} (a:Wf n A) (b:Wf n B) (i j:Nat):Bw A B n i j=true↔∃k,i<=k∧k<=j∧A i k=true∧B k j=true:=by
 rw[Cw hn a];constructor
 .rintro ⟨k,c,d⟩;have:=a i k c;have:=b k j d;exact ⟨k,qO,qO,c,d⟩
 .rintro ⟨k,_,_,c,d⟩;exact ⟨k,c,d⟩
omit hn in
theorem Sd {A:Rl} (a:Wf n A) {i j:Nat} (h:St n A i j):i=j∨∃k,i<k∧A i k=true∧St n A k j:=by
 induction h with
 | refl=>exact .inl O
 | @step j k hs hA ih=>
  have hw:=a _ _ hA;rcases ih with rfl|⟨m,b,d,e⟩
  .by_cases c:i=k
   .exact .inl c
   .exact .inr ⟨k,qO,hA,.refl qO⟩
  .exact .inr ⟨m,b,d,.step e hA⟩
theorem PU {A:Rl} (a:Wf n A) {i j:Nat} (hi:i<=n):D7 n A (n+1) i j=true↔i=j∨∃k,i+1<=k∧k<=j∧A i k=true∧D7 n A (n+1) k j=true:=by
 rw[IE hn a];constructor
 .intro h;rcases Sd a h with h|⟨k,h1,c,b⟩
  .exact .inl h
  .have:=FT a (n+1) k j ((IE hn a _ _).2 b);exact .inr ⟨k,qO,this.1,c,(IE hn a _ _).2 b⟩
 .rintro (rfl|⟨k,_,_,c,b⟩)
  .exact .refl hi
  .exact (St.one a c).trans ((IE hn a _ _).1 b)
theorem OH {A:Rl} (a:Wf n A):∀p,I9 n A (p+1)=Bw A (I9 n A p) n
 | 0=>by
  simp only[I9];rw[J6 hn a];exact Kb λi k=>by
   rw[Cw hn a];constructor
   .intro h;exact ⟨k,h,by rw[FM];have:=a i k h;omega⟩
   .rintro ⟨j,c,b⟩;rw[FM] at b;rw[b.2];exact c
 | p+1=>by
  have h:=OH a p;have b:Bw (I9 n A (p+1)) A n=Bw (Bw A (I9 n A p) n) A n:=by rw[h]
  have d:I9 n A (p+1+1)=Bw (I9 n A (p+1)) A n:=rfl;rw[d,b,<-GX hn a (Mn a p)];rfl
omit hn in
theorem Mw (A:Rl) (mn:Int) (i j:Nat):∀m,I4 n A mn m i j=true↔∃p,p<m∧mn<=(p:Int)∧I9 n A p i j=true
 | 0=>by simp[I4,Gf]
 | m+1=>by
  simp only[I4];by_cases h:mn<=(m:Int)
  .rw[if_pos h,M3,Mw A mn i j m];constructor
   .rintro (⟨p,c,b,a⟩|c)
    .exact ⟨p,qO,b,a⟩
    .exact ⟨m,qO,h,c⟩
   .rintro ⟨p,c,b,a⟩;by_cases d:p=m
    .subst d;exact .inr a
    .exact .inl ⟨p,qO,b,a⟩
  .rw[if_neg h,Mw A mn i j m];constructor
   .rintro ⟨p,c,b,a⟩;exact ⟨p,qO,b,a⟩
   .rintro ⟨p,c,b,a⟩;exact ⟨p,qO,b,a⟩
end
theorem Ky (i j:Nat):∀(L:List Rl) (A:Rl),L.foldl LR A i j=(A i j || L.any λR=>R i j)
 | [],A=>qP
 | x::L,A=>by rw[List.foldl_cons,Ky i j L];simp[LR,Bool.or_assoc]
theorem Jm (i j:Nat):∀(L:List Rl) (A:Rl),L.foldl G0 A i j=(A i j && L.all λR=>R i j)
 | [],A=>qP
 | x::L,A=>by rw[List.foldl_cons,Jm i j L];simp[G0,Bool.and_assoc]
theorem Wo {n:Nat} {A:Rl} {i j:Nat} (b:i<=j) (a:j<=n):IL n A i j = !A i j:=by
 have:i<=n:=qO
 simp[IL,b,a,this]
end Go.Proofs
namespace Go.Proofs
open Go Go.Eng
mutual
def Ci:Re->Re->Bool
  | .mk k s a m x g,.mk k' s' a' m' x' g'=>decide (k=k') && decide (s=s') && decide (m=m') && decide (x=x') && decide (g=g') && Er a a'
def Er:List Re->List Re->Bool
  | [],[]=>true
  | t::ts,u::us=>Ci t u && Er ts us
  | _,_=>false
end
mutual
theorem DY:∀(t u:Re),Ci t u=true↔t=u
 | .mk k s a m x g,.mk k' s' a' m' x' g'=>by
  simp only[Ci,Bool.and_eq_true,decide_eq_true_eq,FE a a',Re.mk.injEq];constructor
  .rintro ⟨⟨⟨⟨⟨b,c⟩,e⟩,f⟩,d⟩,h⟩;exact ⟨b,c,h,e,f,d⟩
  .rintro ⟨b,c,h,e,f,d⟩;exact ⟨⟨⟨⟨⟨b,c⟩,e⟩,f⟩,d⟩,h⟩
theorem FE:∀(a us:List Re),Er a us=true↔a=us
 | [],[]=>by simp[Er]
 | t::a,u::us=>by simp only[Er,Bool.and_eq_true,DY t u,FE a us,List.cons.injEq]
 | [],_::_=>by simp[Er]
 | _::_,[]=>by simp[Er]
end
def BI (k:Int) (l:List Re):List Re:=l.flatMap λx=>if x.kind=k then x.args else [x]
def H7 (text:List Int) (l:List Re):Rl:=(l.map (Ar text)).foldl (λa x=>Bw a x text.length) (J7 text.length)
theorem Hf {text:List Int} (hn:text.length<=24) (x:Re) (l:List Re):H7 text (x::l)=Bw (Ar text x) (H7 text l) text.length:=by
 unfold H7;rw[List.map_cons];refine O7 hn (E_ text x) _ ?_;intro R a;rw[List.mem_map] at a;obtain ⟨y,_,rfl⟩:=a;exact E_ text y
theorem QP {text:List Int} (l:List Re):Wf text.length (H7 text l):=by
 unfold H7;refine FU _ _ (JY _) ?_;intro R a;rw[List.mem_map] at a;obtain ⟨y,_,rfl⟩:=a;exact E_ text y
theorem Jp {text:List Int} (hn:text.length<=24):∀(a b:List Re),H7 text (a++b)=Bw (H7 text a) (H7 text b) text.length
 | [],b=>by
  have:H7 text []=J7 text.length:=rfl;rw[this,List.nil_append,J6 hn (QP b)]
 | x::a,b=>by
  rw[List.cons_append,Hf hn,Jp hn a b,Hf hn,GX hn (E_ text x) (QP a)]
theorem TE {text:List Int} {t:Re} (h:t.kind=3):Ar text t=H7 text t.args:=by
 rw[N_];simp[Gz,h,H7]
section
variable {text : List Int} (hn : text.length ≤ 24)
include hn
theorem Ua:∀(l:List Re),H7 text (BI 3 l)=H7 text l
 | []=>rfl
 | x::l=>by
  have ih:=Ua l;show H7 text ((if x.kind=3 then x.args else [x])++BI 3 l)=_;rw[Jp hn,ih,Hf hn];by_cases h:x.kind=3
  .rw[if_pos h,TE h]
  .rw[if_neg h,Hf hn];have b:H7 text []=J7 text.length:=rfl;have a:Bw (Ar text x) (J7 text.length) text.length=Ar text x:=Kb λi k=>by
    rw[Cw hn (E_ text x)];constructor
    .rintro ⟨j,b,a⟩;rw[FM] at a;rw[a.2];exact b
    .intro h;exact ⟨k,h,by rw[FM];have:=E_ text x i k h;omega⟩
   rw[b,a]
end
theorem GZ (k:Int):∀(l:List Re),Re.sizes (BI k l)<=Re.sizes l
 | []=>by simp[BI,Re.sizes]
 | x::l=>by
  have ih:=GZ k l;show Re.sizes ((if x.kind=k then x.args else [x])++BI k l)<=_;rw[Re.sizes_append];have:=x.size_eq;simp only[Re.sizes];split
  .omega
  .simp only[Re.sizes];omega
def YO (k:Int):Prop:=k=3∨k=4∨k=7
end Go.Proofs
namespace Go.Proofs
open Go Go.Eng
set_option maxRecDepth 100000
abbrev Sp:=Int×Int
def EZ (s:Sp):Prop:=0<=s.1∧s.1<=s.2∧s.2<=1114111
structure Canon (l:List Sp):Prop where
 ok:∀s∈l,EZ s
 gap:l.Pairwise λs t=>s.2+2<=t.1
theorem YH (a b:Int):a<=b∨b<a:=qO
theorem M7 (a b:Int):a<b∨b<=a:=qO
theorem E0 {l:List Sp} {r:Int}:Cu l r=true↔∃s∈l,s.1<=r∧r<=s.2:=by
 unfold Cu;simp[List.any_eq_true]
theorem DV (s:Sp) (l:List Sp) (r:Int):Cu (s::l) r=((decide (s.1<=r) && decide (r<=s.2)) || Cu l r):=rfl
theorem EQ (a b:List Sp) (r:Int):Cu (a++b) r=(Cu a r || Cu b r):=by
 unfold Cu;rw[List.any_append]
theorem IX (r:Int):Cu [] r=false:=rfl
theorem T3 {a b:List Sp} (h:a.Perm b) (r:Int):Cu a r=Cu b r:=by
 rw[Bool.eq_iff_iff,E0,E0];exact ⟨λ⟨s,c,q⟩=>⟨s,h.mem_iff.1 c,q⟩,λ⟨s,c,q⟩=>⟨s,h.mem_iff.2 c,q⟩⟩
theorem Canon.nil:Canon []:=⟨λ_ h=>(by cases h),List.Pairwise.nil⟩
theorem Canon.one {s:Sp} (h:EZ s):Canon [s]:=⟨λt a=>by rw[List.mem_singleton] at a;subst a;exact h,List.pairwise_singleton _ _⟩
theorem Canon.tail {s:Sp} {l:List Sp} (h:Canon (s::l)):Canon l:=⟨λt a=>h.ok t (List.mem_cons_of_mem _ a),(List.pairwise_cons.1 h.gap).2⟩
theorem Canon.head {s:Sp} {l:List Sp} (h:Canon (s::l)):EZ s:=h.ok s List.mem_cons_self
theorem Canon.far {s:Sp} {l:List Sp} (h:Canon (s::l)):∀t∈l,s.2+2<=t.1:=(List.pairwise_cons.1 h.gap).1
theorem Canon.cons {s:Sp} {l:List Sp} (c:EZ s) (d:∀t∈l,s.2+2<=t.1) (b:Canon l):Canon (s::l):=
 ⟨λt a=>by rcases List.mem_cons.1 a with rfl|a;exact c;exact b.ok t a,List.pairwise_cons.2 ⟨d,b.gap⟩⟩
theorem GU {s:Sp} {l:List Sp} (h:Canon (s::l)) {r:Int} (hr:r<=s.2+1):Cu l r=false:=by
 cases e:Cu l r with
 | false=>rfl
 | true=>
  obtain ⟨t,a,h1,_⟩:=E0.1 e;have:=h.far t a;omega
theorem HF {s:Sp} {l:List Sp} (h:Canon (s::l)) {r:Int} (hr:r<s.1):Cu (s::l) r=false:=by
 have a:=h.head;rw[DV,GU h (by unfold EZ at a;omega),Bool.or_false,decide_eq_false qO];rfl
theorem Il:∀{a b:List Sp},Canon a->Canon b->(∀r,Cu a r=Cu b r)->a=b
 | [],[],_,_,_=>rfl
 | [],t::b,_,hb,h=>by
  have f:=hb.head;unfold EZ at f;have:=h t.1;rw[IX,DV,decide_eq_true (Int.le_refl _),decide_eq_true qO] at this;simp at this
 | s::a,[],ha,_,h=>by
  have f:=ha.head;unfold EZ at f;have:=h s.1;rw[IX,DV,decide_eq_true (Int.le_refl _),decide_eq_true qO] at this;simp at this
 | s::a,t::b,ha,hb,h=>by
  have f:=ha.head;have j:=hb.head;unfold EZ at f j;have e:∀{s:Sp} {l:List Sp} {r:Int},s.1<=r->r<=s.2->Cu (s::l) r=true:=λd c=>by
   rw[DV,decide_eq_true d,decide_eq_true c];rfl
  have k:s.1=t.1:=by
   rcases Int.lt_trichotomy s.1 t.1 with d|d|d
   .have c:=h s.1;rw[e (Int.le_refl _) qO,HF hb d] at c;cases c
   .exact d
   .have c:=h t.1;rw[e (s:=t) (Int.le_refl _) qO,HF ha d] at c;cases c
  have g:s.2=t.2:=by
   rcases Int.lt_trichotomy s.2 t.2 with d|d|d
   .have c:=h (s.2+1);rw[e (s:=t) qO qO,DV,GU ha (Int.le_refl _),decide_eq_false (p:=s.2+1<=s.2) qO] at c;simp at c
   .exact d
   .have c:=h (t.2+1);rw[e (s:=s) qO qO,DV,GU hb (Int.le_refl _),decide_eq_false (p:=t.2+1<=t.2) qO] at c;simp at c
  have m:s=t:=Prod.ext k g;subst m;have i:a=b:=Il ha.tail hb.tail λr=>by
   rcases YH r (s.2+1) with d|d
   .rw[GU ha d,GU hb d]
   .have c:=h r;rw[DV,DV,decide_eq_false (p:=r<=s.2) qO] at c;simpa using c
  rw[i]
def Ks (out:List Sp) (s:Sp):List Sp:=match out.getLast? with
  | some c=>if s.1<=c.2+1 then out.dropLast++[(c.1,max c.2 s.2)] else out++[s]
  | none=>[s]
def MN (l:List Sp):List Sp:=l.foldl Ks []
theorem H0 (o:List Sp) (c s:Sp):Ks (o++[c]) s=if s.1<=c.2+1 then o++[(c.1,max c.2 s.2)] else o++[c]++[s]:=by
 unfold Ks;simp
theorem MM (s:Sp):Ks [] s=[s]:=rfl
structure JInv (out l:List Sp) (m:Int):Prop where
 can:Canon out
 low:∀s∈out,s.1<=m
 mem:∀r,Cu out r=Cu l r
 len:out.length<=l.length
theorem KR {α:Type} (l:List α):l=[]∨∃o c,l=o++[c]:=by
 rcases List.eq_nil_or_concat l with h|⟨o,c,h⟩
 .exact .inl h
 .exact .inr ⟨o,c,by simpa using h⟩
theorem H9 {o:List Sp} {c:Sp}:Canon (o++[c])↔Canon o∧EZ c∧∀t∈o,t.2+2<=c.1:=by
 constructor
 .intro h;have b:=List.pairwise_append.1 h.gap;exact ⟨⟨λt a=>h.ok t (by simp[a]),b.1⟩,h.ok c qP,λt a=>b.2.2 t a c qP⟩
 .rintro ⟨b,e,f⟩;refine ⟨λt a=>?_,List.pairwise_append.2 ⟨b.gap,List.pairwise_singleton _ _,λt a u d=>?_⟩⟩
  .rcases List.mem_append.1 a with a|a
   .exact b.ok t a
   .rw[List.mem_singleton] at a;subst a;exact e
  .rw[List.mem_singleton] at d;subst d;exact f t a
theorem Ru {out l:List Sp} {m:Int} {s:Sp} (h:JInv out l m) (b:EZ s) (hm:m<=s.1):JInv (Ks out s) (l++[s]) s.1:=by
 rcases KR out with rfl|⟨o,c,rfl⟩
 .rw[MM];refine ⟨Canon.one b,λt a=>by rw[List.mem_singleton] at a;subst a;exact Int.le_refl _,λr=>?_,qP⟩;rw[EQ,<-h.mem r];rfl
 .obtain ⟨n,j,g⟩:=H9.1 h.can;have hc:=h.low c qP;unfold EZ at j b;rw[H0];split
  .rename_i k
   have hmx:max c.2 s.2=c.2∨max c.2 s.2=s.2:=qO
   have hge:c.2<=max c.2 s.2∧s.2<=max c.2 s.2:=qO
   refine ⟨H9.2 ⟨n,⟨j.1,by simp only;omega,by simp only;omega⟩,g⟩,λt a=>?_,λr=>?_,?_⟩
   .rcases List.mem_append.1 a with a|a
    .have:=h.low t (by simp[a]);omega
    .rw[List.mem_singleton] at a;subst a;simp only;omega
   .have d:=h.mem r;rw[EQ] at d;rw[EQ,EQ,<-d];have e:Cu [(c.1,max c.2 s.2)] r=(Cu [c] r || Cu [s] r):=by
     rw[Bool.eq_iff_iff];simp only[DV,IX,Bool.or_false,Bool.or_eq_true,Bool.and_eq_true,decide_eq_true_eq];constructor
     .intro ⟨f,i⟩;omega
     .rintro (⟨f,i⟩|⟨f,i⟩)<;>omega
    rw[e,Bool.or_assoc]
   .have:=h.len;simp at this⊢;omega
  .rename_i k
   refine ⟨H9.2 ⟨h.can,b,λt a=>?_⟩,λt a=>?_,λr=>?_,?_⟩
   .rcases List.mem_append.1 a with a|a
    .have:=g t a;omega
    .rw[List.mem_singleton] at a;subst a;omega
   .rcases List.mem_append.1 a with a|a
    .have:=h.low t a;omega
    .rw[List.mem_singleton] at a;subst a;exact Int.le_refl _
   .rw[EQ _ [s],EQ l,h.mem r]
   .have:=h.len;simp at this⊢;omega
theorem MQ:∀(r:List Sp) {out l:List Sp} {m:Int},JInv out l m->(∀s∈r,EZ s∧m<=s.1)->r.Pairwise (λs t=>s.1<=t.1)->∃a,JInv (r.foldl Ks out) (l++r) a
 | [],out,l,m,h,_,_=>⟨m,by simpa using h⟩
 | s::r,out,l,m,h,hv,hp=>by
  have b:=hv s List.mem_cons_self;have d:=List.pairwise_cons.1 hp;obtain ⟨a,e⟩:=MQ r (Ru h b.1 b.2) (λt c=>⟨(hv t (List.mem_cons_of_mem _ c)).1,d.1 t c⟩) d.2;exact ⟨a,by simpa using e⟩
theorem Rv {l:List Sp} (a:∀s∈l,EZ s) (c:l.Pairwise (λs t=>s.1<=t.1)):Canon (MN l)∧(∀r,Cu (MN l) r=Cu l r)∧(MN l).length<=l.length:=by
 obtain ⟨m,h⟩:=MQ l (out:=[]) (l:=[]) (m:=0) ⟨Canon.nil,λ_ h=>by (cases h),λ_=>rfl,Nat.le_refl _⟩ (λs b=>⟨a s b,(a s b).1⟩) c;exact ⟨h.can,h.mem,h.len⟩
def Ff (l out:List Sp):Prop:=∃l',l'.Perm l∧l'.Pairwise (λs t=>s.1<=t.1)∧out=MN l'
theorem Ff.all {l out:List Sp} (h:Ff l out) (c:∀s∈l,EZ s):Canon out∧(∀r,Cu out r=Cu l r)∧out.length<=l.length:=by
 obtain ⟨l',a,d,rfl⟩:=h;have b:=Rv (λs e=>c s (a.mem_iff.1 e)) d;exact ⟨b.1,λr=>(b.2.1 r).trans (T3 a r),by rw[<-a.length_eq];exact b.2.2⟩
theorem Hg {l:List Sp} (h:Canon l) {r:Int} (hr:r<0∨1114111<r):Cu l r=false:=by
 cases e:Cu l r with
 | false=>rfl
 | true=>obtain ⟨t,a,q1,q2⟩:=E0.1 e;have:=h.ok t a;unfold EZ at this;omega
theorem SG {a b:List Sp} (e:Canon a) (hb:Canon b) (h:∀r,0<=r->r<=1114111->Cu a r=Cu b r):a=b:=
 Il e hb λr=>by
  rcases M7 r 0 with d|d
  .rw[Hg e (.inl d),Hg hb (.inl d)]
  .rcases M7 1114111 r with c|c
   .rw[Hg e (.inr c),Hg hb (.inr c)]
   .exact h r d c
end Go.Proofs
namespace Go.Proofs
open Go Go.Eng
set_option maxRecDepth 100000
abbrev NW:Nat:=80
theorem M0 {w:World} {base c e size n:Nat} {v:Value} {xs:List Value} (h:w.ownsRow base e size v n xs) (hb:c<=base):w.ownsRow c e size v n xs:=by
 obtain ⟨f,i⟩:=h;refine ⟨f,i.imp id ?_⟩;rintro ⟨g,cap,d,a,b,r⟩;exact ⟨g,cap,d,a,Nat.le_trans hb b,r⟩
def LK (w:World) (base:Nat) (r:Value) (l:List Sp):Prop:=(∃a c,r=.slice a l.length c)∧w.ownsRow base NW 2 r l.length (l.map BK).flatten
theorem LK.at {w:World} {base:Nat} {r:Value} {l:List Sp} (h:LK w base r l):BD w r l:=
 EA h.2 (by intro x a;simp only[List.mem_map] at a;obtain ⟨p,_,rfl⟩:=a;rfl) qP qD
theorem GY (l:List Sp) (s:Sp):((l++[s]).map BK).flatten=(l.map BK).flatten++[.int .i64 s.1,.int .i64 s.2]:=by simp[BK]
theorem O4 (k:World) (v:Value) (l:List Sp) (h:BD k v l) (hl:l.length<=8796093022208) :
 Bi prog 74 #[v] k λr w=>LK w k.heap.size r l∧Ae k w:=by
 obtain ⟨a,c,rfl⟩:=BR.form h;simp only[List.length_map] at h⊢;obtain ⟨base,j⟩:∃base,base=k.heap.size:=⟨_,O⟩;rw[<-j];refine qR func74 O ntmps74 O (λE=>(AA (qA _ O (AB (AG (AA (qM _ O (Bn (v:=(.bool a.isNone)) O O qD (Ke underlying22 O O) (AB (A_ O (λhn=>?_) (λhn=>?_)))))))))))
 .have q:=hn;have p:l.length=0:=by rcases Nat.eq_zero_or_pos l.length with y|y;exact y;obtain ⟨b,o,rfl,_⟩:=Bd h y;simp at hn
  have g:l=[]:=List.eq_nil_of_length_eq_zero p;refine AA (qA _ O (AB (AJ (AP (AV results74 (v:=(.slice none 0 0)) O ?_)))));subst g;exact ⟨⟨⟨none,0,O⟩,World.ownsRow_nil _ _ _ _⟩,E⟩
 .have q:=hn;rcases Bool.eq_false_or_eq_true (decide (l.length=0)) with A|A
  .have d:=A;replace d:=of_decide_eq_true d;refine AO (AC (AA (G4 qD underlying22 BU ?_)));intro s D e;have G:=e.ge E;replace E:=E.ext e.ext;have z:=e.blk;refine qM _ O (qV (Lx underlying22 BU (a':=a) (c':=c) O (Nat.le_refl _) (by show Value.slice a l.length c=_;rw[d])) (qA _ O (AB (AJ (AV results74 (v:=(.slice (some ⟨s,0,none⟩) 0 0)) O ?_)))));have g:l=[]:=List.eq_nil_of_length_eq_zero d;subst g;exact ⟨⟨⟨_,0,O⟩,HU (base:=base) (size:=2) z qO⟩,E⟩
  .have d:=A;replace d:=of_decide_eq_false d;obtain ⟨b,o,rfl,B⟩:=Bd h qO;refine AO (AC (AA (G4 qD underlying22 BU ?_)));intro s D e;have G:=e.ge E;replace E:=E.ext e.ext;have z:=e.blk;refine qM _ O ?_;have f:=HU (base:=base) (size:=2) z qO;have u:base<=D.heap.size:=by have:=e.ext.size;omega
   refine CQ (base:=base) (n:=0) (m:=l.length) (xs:=[]) (news:=(l.map BK).flatten) (size:=2) (bytes:=16) (v:=(.slice (some ⟨s,0,none⟩) 0 0)) qD underlying22 BU O' Ed O qD O f O (E7 l) ((KO B).ext e.ext) (Lo l) (by unfold maxLen;omega) qO (u) ?_;intro v9 w29 i t Dv9;replace E:=E.step t (λx hx h=>absurd (f.lt x h).1 qO);obtain ⟨F,C,rfl⟩:=Be i;refine qA _ O (AB (AJ (AV results74 (v:=(.slice F (0+l.length) C)) O ?_)));simp only[Nat.zero_add,List.nil_append] at i⊢;exact ⟨⟨⟨F,C,O⟩,i⟩,E⟩
def Dm (w:World) (v:Value) (ll:List (List Sp)):Prop:=∃vs:List Value,BR w 1 v (vs.map λx=>[x])∧vs.length=ll.length∧∀(i:Nat) (u:Value) (l:List Sp),vs[i]?=some u->ll[i]?=some l->BD w u l
theorem Dm.ext {w w':World} {v:Value} {ll:List (List Sp)} (h:Dm w v ll) (e:Ae w w'):Dm w' v ll:=by
 obtain ⟨vs,a,c,f⟩:=h;exact ⟨vs,a.ext e,c,λi u l d b=>(f i u l d b).ext e⟩
theorem Dm.form {w:World} {v:Value} {ll:List (List Sp)} (h:Dm w v ll):∃a c,v=.slice a ll.length c∧ll.length<=c∧ll.length<=9223372036854775807:=by
 obtain ⟨vs,b,d,_⟩:=h;obtain ⟨a,c,rfl⟩:=b.form;have:=b.cap;have:=b.le;simp only[List.length_map] at *;rw[d] at *;exact ⟨a,c,O,qO,qO⟩
theorem EN {w:World} {a:Option Addr} {n c:Nat} {ll:List (List Sp)} (h:Dm w (.slice a n c) ll) (hn:0<n) :
 ∃b o,a=some ⟨b,o,none⟩∧∀i l,ll[i]?=some l->∃d e,w.cell? ⟨b,o+i,none⟩=some (.slice d l.length e)∧BD w (.slice d l.length e) l:=by
 obtain ⟨vs,r,h2,q⟩:=h;obtain ⟨b,o,s,p⟩:=BR.at r hn;refine ⟨b,o,s,λi l m=>?_⟩;have hi:i<vs.length:=by have:=AM m;omega
 have k:vs[i]?=some vs[i]:=List.getElem?_eq_getElem hi;have g:=q i vs[i] l k m;obtain ⟨d,e,f⟩:=BR.form g;simp only[List.length_map] at f;have j:=p i [vs[i]] (by simp[k]) 0 _ O;rw[Nat.mul_one,Nat.add_zero,f] at j;rw[f] at g;exact ⟨d,e,j,g⟩
theorem JC {ll:List (List Sp)} {k:Nat} {l:List Sp} (h:ll[k]?=some l):(ll.take (k+1)).flatten=(ll.take k).flatten++l:=by
 rw[List.take_add_one,h];simp
theorem VU (ll:List (List Sp)) (k:Nat):(ll.take k).flatten.length<=ll.flatten.length:=by
 have h:ll.flatten=(ll.take k).flatten++(ll.drop k).flatten:=by rw[<-List.flatten_append,List.take_append_drop]
 rw[h,List.length_append];omega
end Go.Proofs
namespace Go.Proofs
open Go Go.Eng Go.Sort
set_option maxRecDepth 100000
def J4:List Int->Int
  | []=>0
  | x::r=>if x≠0 then x else J4 r
theorem Sh (g:World) (v:Value) (l:List Int) (h:BZ g v l):Bi prog 138 #[v] g λr w=>r=.int .i64 (J4 l)∧Ae g w:=by
 obtain ⟨a,c,rfl⟩:=BR.form h;have hlen:l.length<=9223372036854775807:=by simpa using BR.le h
 simp only[List.length_map] at h⊢;refine qR func138 O ntmps138 O (λE=>(AA (qA _ O (AB (AA (qA _ O (AB (AG (AA (qM _ O (qV (Aa underlying46 O) (qM _ O (AB (AU (Av (λnn_ σ s=>∃(k:Nat),(∃jj_,σ=Bj jj_ [(3,(I6 0)),(6,(.slice a l.length c)),(7,(I6 (l.length:Int))),(8,(I6 (k:Int)))])∧Chg Ak g s∧(k<=l.length)∧(J4 (l.drop k)=J4 l)∧nn_=l.length - k) (n:=l.length - 0) ?_ ?_)))))))))))))))
 .exact ⟨0,Am.out ⟨O,O,O,O,trivial⟩,E,Nat.zero_le _,O,O⟩
 .clear E;rintro _ _ s ⟨k,⟨j1,rfl⟩,E,hk,e,rfl⟩;refine AA (qV (BE O O) (AB (AG (qC O (λj=>?_) (λj=>?_)))))
  .obtain ⟨x,q⟩:=AX (l:=l) (i:=k) qO;obtain ⟨b,o,rfl,p⟩:=DE h qO;rw[C7 q] at e;refine AO (AC (AG (AU (AA (qV (AN (b:=b) (o:=o) (len:=l.length) (cap:=c) (i:=k) (o':=o+k) O O O underlying46 Ay qO qO) (qV (AL O Al (E.cell (λf=>f) (p k x q))) (qA _ O (AB (AA (qM _ O (qM _ O (qV (Cy O O) (AB (qC O (λd=>?_) (λd=>?_)))))))))))))))
   .refine AA (qM _ O (qA _ O (AB (AJ (Ac (AP (AP (Ac (AP (AV results138 (v:=(.int .i64 x)) O ?_))))))))));exact ⟨Bc (by rw[<-e,J4,if_pos d]),E⟩
   .refine AO (AQ (AC (AR (qV (Ax O O (A8 qO)) (qM _ O (AB (AC ?_)))))));exact ⟨l.length - (k+1),qO,k+1,Am.out ⟨O,O,O,O,trivial⟩,E,qO,(by rw[<-e,J4,if_neg d]),O⟩
  .have m:k=l.length:=qO
   refine Aw (AZ (AZ (Ap (AC (AA (qM _ O (qA _ O (AB (AJ (AV results138 (v:=(.int .i64 0)) O ?_))))))))));exact ⟨Bc (by rw[<-e,m,List.drop_length];rfl),E⟩
def JG (a b:Int):G2:=λv w=>∃bb,v=.slice (some ⟨bb,0,none⟩) 2 2∧BZ w v [a,b]
theorem Gl (a b:Int):EI (JG a b):=by
 rintro v w w' e ⟨f,c,d⟩;exact ⟨f,c,d.ext e⟩
theorem LM {N:Nat} {σ:CC} {w:World} {dst:Option Tmp} {ty:TypeId} {pos:String} {af:Array Edge} {g:Option (Nat×Bool)} {x y:Operand} {a b:Int} (c:ev σ x=.int .i64 a) (d:ev σ y=.int .i64 b) :
 Jy prog N ⟨dst,.buildSlice 46 2 #[(0,x),(1,y)],ty,pos,af,g⟩ (JG a b) σ w:=by
 have hn:=New.mk' w #[.int .i64 a,.int .i64 b] 3;refine AW (CV (parts:=[(0,x),(1,y)]) (ps:=[(0,.int .i64 a),(1,.int .i64 b)]) (by simp only[List.map,c,d]) underlying46 Ay Iw qD qD qK) hn.ext ?_;exact ⟨_,O,FZ [a,b] hn.blk qP qP⟩
end Go.Proofs
namespace Go.Proofs
open Go Go.Eng Go.Sort
set_option maxRecDepth 100000
def G' (p q:Int):Int:=if p≠0 then p else q
def Sy (p p':Int):Prop:=(p<0↔0<p')∧(0<p↔p'<0)
def Iv (p q r:Int):Prop:=(p<=0->q<=0->r<=0)∧(p<0->q<=0->r<0)∧(p<=0->q<0->r<0)
theorem IT (p q:Int):(G' p q<0↔p<0∨(p=0∧q<0))∧(0<G' p q↔0<p∨(p=0∧0<q)):=by unfold G';split<;>omega
theorem Sy.lex {p b P a:Int} (h:Sy p b) (k:Sy P a):Sy (G' p P) (G' b a):=by
 unfold Sy at *;have h1:=IT p P;have h2:=IT b a;omega
theorem Iv.lex {p q r P Q R:Int} (h:Iv p q r) (k:Iv P Q R):Iv (G' p P) (G' q Q) (G' r R):=by
 unfold Iv at *;have h1:=IT p P;have h2:=IT q Q;have h3:=IT r R;refine ⟨λa b=>?_,λa b=>?_,λa b=>?_⟩<;>omega
theorem Ih (a b:Int):(BN a b<0↔a<b)∧(0<BN a b↔b<a):=by unfold BN;(repeat' split)<;>omega
theorem KL (a b:Int):Sy (BN a b) (BN b a):=by
 have h1:=Ih a b;have h2:=Ih b a;unfold Sy;omega
theorem KK (a b c:Int):Iv (BN a b) (BN b c) (BN a c):=by
 have h1:=Ih a b;have h2:=Ih b c;have h3:=Ih a c;unfold Iv;omega
theorem J1:Sy 0 0:=by unfold Sy;omega
theorem J0:Iv 0 0 0:=by unfold Iv;omega
def CF (s t:Int×Int):Int:=J4 [BN s.1 t.1,BN s.2 t.2]
theorem GB (x:Int) (r:List Int):J4 (x::r)=G' x (J4 r):=rfl
theorem HV:J4 []=0:=rfl
theorem XW (a b:Int×Int):Sy (CF a b) (CF b a):=by
 simp only[CF,GB,HV];exact (KL _ _).lex ((KL _ _).lex J1)
theorem XV (a b c:Int×Int):Iv (CF a b) (CF b c) (CF a c):=by
 simp only[CF,GB,HV];exact (KK _ _ _).lex ((KK _ _ _).lex J0)
def Cf {α:Type} (f:α->α->Int):List α->List α->Int
  | [],[]=>0
  | [],_::_=>-1
  | _::_,[]=>1
  | x::l,y::m=>G' (f x y) (Cf f l m)
theorem QT {α:Type} {f:α->α->Int} (c:∀a b,Sy (f a b) (f b a)):∀a b:List α,Sy (Cf f a b) (Cf f b a)
 | x::a,y::b=>(c x y).lex (QT c a b)
 | [],[]=>J1
 | [],_::_=>by simp only[Cf];unfold Sy;omega
 | _::_,[]=>by simp only[Cf];unfold Sy;omega
theorem QR {α:Type} {f:α->α->Int} (d:∀a b c,Iv (f a b) (f b c) (f a c)):∀a b c:List α,Iv (Cf f a b) (Cf f b c) (Cf f a c)
 | x::a,y::b,z::c=>(d x y z).lex (QR d a b c)
 | [],[],[]=>J0
 | [],[],_::_=>by simp only[Cf];unfold Iv;omega
 | [],_::_,[]=>by simp only[Cf];unfold Iv;omega
 | [],_::_,_::_=>by simp only[Cf];unfold Iv;omega
 | _::_,[],[]=>by simp only[Cf];unfold Iv;omega
 | _::_,[],_::_=>by simp only[Cf];unfold Iv;omega
 | _::_,_::_,[]=>by simp only[Cf];unfold Iv;omega
mutual
def Cp:Re->Re->Int
  | .mk k s a m x _,.mk k' s' a' m' x' _=>J4 [BN k k',Cf CF s s',BN m m',BN x x',By a a']
def By:List Re->List Re->Int
  | [],[]=>0
  | [],_::_=>-1
  | _::_,[]=>1
  | t::ts,u::us=>G' (Cp t u) (By ts us)
end
mutual
theorem V9:∀a b:Re,Sy (Cp a b) (Cp b a)
 | .mk k s a m x g,.mk k' s' a' m' x' g'=>by
  simp only[Cp,GB,HV];exact (KL _ _).lex ((QT XW _ _).lex ((KL _ _).lex ((KL _ _).lex ((SY a a').lex J1))))
theorem SY:∀a b:List Re,Sy (By a b) (By b a)
 | x::a,y::b=>by simp only[By];exact (V9 x y).lex (SY a b)
 | [],[]=>by simp only[By];exact J1
 | [],_::_=>by simp only[By];unfold Sy;omega
 | _::_,[]=>by simp only[By];unfold Sy;omega
end
mutual
theorem Lh:∀a b c:Re,Iv (Cp a b) (Cp b c) (Cp a c)
 | .mk k s a m x g,.mk k' s' a' m' x' g',.mk k'' s'' a'' m'' x'' g''=>by
  simp only[Cp,GB,HV];exact (KK _ _ _).lex ((QR XV _ _ _).lex ((KK _ _ _).lex ((KK _ _ _).lex ((SU a a' a'').lex J0))))
theorem SU:∀a b c:List Re,Iv (By a b) (By b c) (By a c)
 | x::a,y::b,z::c=>by simp only[By];exact (Lh x y z).lex (SU a b c)
 | [],[],[]=>by simp only[By];exact J0
 | [],[],_::_=>by simp only[By];unfold Iv;omega
 | [],_::_,[]=>by simp only[By];unfold Iv;omega
 | [],_::_,_::_=>by simp only[By];unfold Iv;omega
 | _::_,[],[]=>by simp only[By];unfold Iv;omega
 | _::_,[],_::_=>by simp only[By];unfold Iv;omega
 | _::_,_::_,[]=>by simp only[By];unfold Iv;omega
end
theorem CD (a b:Re):Cp b a<0↔0<Cp a b:=(V9 b a).1
theorem Wl (a b:Re):Cp a b<=0∨Cp b a<=0:=by have:=CD a b;have:=CD b a;omega
theorem TV {a b c:Re} (h:Cp a b<=0) (k:Cp b c<=0):Cp a c<=0:=(Lh a b c).1 h k
theorem HX {p q:Int}:G' p q=0↔p=0∧q=0:=by unfold G';split<;>omega
theorem MY {a b:Int}:BN a b=0↔a=b:=by unfold BN;(repeat' split)<;>omega
theorem P' {a b:Int×Int}:CF a b=0↔a=b:=by
 simp only[CF,GB,HV,HX,MY,and_true,Prod.ext_iff]
theorem MX {α:Type} {f:α->α->Int} (c:∀a b,f a b=0↔a=b):∀{a b:List α},Cf f a b=0↔a=b
 | [],[]=>by simp[Cf]
 | [],_::_=>by simp[Cf]
 | _::_,[]=>by simp[Cf]
 | x::l,y::m=>by simp only[Cf,HX,c,MX c,List.cons.injEq]
mutual
def G6:Re->Bool
  | .mk _ _ a _ _ g=>!g && Hw a
def Hw:List Re->Bool
  | []=>true
  | t::ts=>G6 t && Hw ts
end
mutual
theorem Kj:∀{a b:Re},G6 a=true->G6 b=true->(Cp a b=0↔a=b)
 | .mk k s a m x g,.mk k' s' a' m' x' g',h,h'=>by
  simp only[G6,Bool.and_eq_true,Bool.not_eq_true'] at h h';simp only[Cp,GB,HV,HX,MY,MX (f:=CF) λ_ _=>P',L6 h.2 h'.2,and_true,Re.mk.injEq,h.1,h'.1];constructor
  .rintro ⟨c,d,i,j,e⟩;exact ⟨c,d,e,i,j⟩
  .rintro ⟨c,d,e,i,j⟩;exact ⟨c,d,i,j,e⟩
theorem L6:∀{a b:List Re},Hw a=true->Hw b=true->(By a b=0↔a=b)
 | [],[],_,_=>by simp[By]
 | [],_::_,_,_=>by simp[By]
 | _::_,[],_,_=>by simp[By]
 | t::ts,u::us,h,h'=>by
  simp only[Hw,Bool.and_eq_true] at h h';simp only[By,HX,Kj h.1 h'.1,L6 h.2 h'.2,List.cons.injEq]
end
def FS:Re:=.mk 8 [] [BB] 0 0 false
def Ca (t:Re):Bool:=decide (t.kind=8) && decide ((t.args.headD BB).kind=0)
def BX (t:Re):Bool:=decide (t.kind=0)
def CZ (t:Re):Bool:=decide (t.kind=1)
def EJ (p:Re->Bool) (l:List Re):List Re:=l.filter λx=>!p x
def Bv (k:Int) (nothing:Re):List Re->Re
  | []=>nothing
  | [x]=>x
  | x::y::l=>.mk k [] (x::y::l) 0 0 false
def De (l:List Re):Re:=if ((EJ CZ (BI 3 l)).any BX)=true then BB else Bv 3 BP (EJ CZ (BI 3 l))
def ES:List Re->List Re
  | []=>[]
  | [x]=>[x]
  | x::y::l=>if Ci x y=true then ES (y::l) else x::ES (y::l)
def VV (a b:Re):Bool:=decide (Cp a b<=0)
def Dp (l:List Re):List Re:=l.mergeSort VV
def GS (k:Int) (l:List Re) (strong weak:Re->Bool) (nothing:Re):Re:=
  match l.find? strong with
  | some x=>x
  | none=>Bv k nothing (ES (Dp (EJ weak (BI k l))))
def Cz (k:Int) (s:List (Int×Int)) (a:List Re) (m x:Int) (g:Bool):Re:=
 let y:=a.headD BB
 if k=3 then De a else if k=4 then GS 4 a Ca BX BB else if k=7 then GS 7 a BX Ca FS
 else if k=5 then (if y.kind=0∨y.kind=1 then BP else if y.kind=5 then y else .mk k s a m x g)
 else if k=6 then (if x=0∨y.kind=1∨(y.kind=0∧m=0) then BP else if y.kind=0∨(m=1∧x=1) then y else .mk k s a m x g)
 else if k=8 then (if y.kind=8 then y.args.headD BB else .mk k s a m x g)
 else .mk k s a m x g
def EL:Re->Re
  | .mk k s a m x g=>Cz k s a m x g
mutual
def CS:Re->Re
  | .mk k s a m x g=>Cz k s (FC a) m x g
def FC:List Re->List Re
  | []=>[]
  | t::ts=>CS t::FC ts
end
theorem F_ (a:List Re):FC a=a.map CS:=by
 induction a with
 | nil=>rfl
 | cons t a ih=>simp[FC,ih]
theorem QW (t:Re):CS t=Cz t.kind t.set (t.args.map CS) t.mn t.mx t.neg:=by cases t;simp[CS,F_,Re.kind,Re.set,Re.args,Re.mn,Re.mx,Re.neg]
mutual
def Cq:Re->Bool
  | .mk k _ a m _ g=>if k=1∨k=5 then true else if k=3∨k=7∨k=9 then Ce a else if k=4 then Du a else if k=6 then (decide (m=0) || Ce a) else if k=8 then !Ce a else if k=10 then (Ce a != g) else false
def Ce:List Re->Bool
  | []=>true
  | t::ts=>Cq t && Ce ts
def Du:List Re->Bool
  | []=>false
  | t::ts=>Cq t || Du ts
end
mutual
def A6 (c:Int):Re->Re
  | .mk k s a m x g=>if k=2 then (if Cu s c=true then BP else BB) else if k=3 then EK c a
    else if k=4∨k=7∨k=8 then Cz k [] (CL c a) 0 0 false
    else if k=5 then De [(CL c a).headD BB,.mk k s a m x g]
    else if k=6 then De [(CL c a).headD BB,Cz 6 [] [a.headD BB] (max 0 (m - 1)) (x - 1) false]
    else BB
def CL (c:Int):List Re->List Re
  | []=>[]
  | t::ts=>A6 c t::CL c ts
def EK (c:Int):List Re->Re
  | []=>BB
  | t::ts=>if ts=[] then A6 c t else (let first:=De [A6 c t,Bv 3 BP ts];if Cq t=true then Cz 4 [] [first,EK c ts] 0 0 false else first)
end
end Go.Proofs
namespace Go.Proofs
open Go Go.Eng
set_option maxRecDepth 100000
theorem Wr (w0:World) (v:Value) (l:List Int) (hl:BZ w0 v l):Bi prog 20 #[v] w0 fun r w=>∃t vs,r=.agg vs.toArray∧Di (H1 8) t∧t.size≤31∧AS (fun b=>w0.heap.size≤b) w t vs∧Ae w0 w:=by
 obtain ⟨a,c,rfl⟩:=BR.form hl;simp only[List.length_map] at hl⊢;refine qR func20 rfl ntmps20 rfl (fun E=>(AA (Bg (c:=#[(I6 0),(.slice none 0 0),(.slice none 0 0),(I6 0),(I6 0),(.bool false)]) qD A9 rfl ?_)));intro br wr Nr;have Fr:=Nr.ge E;replace E:=E.ext Nr.ext;have Br:=Nr.blk;refine AB (AA (qM _ rfl (qV (BJ (ps:=[(0,(.slice a l.length c))]) (v:=(.agg #[(.slice a l.length c)])) rfl qK) (BL (v:=(.agg #[(.slice a l.length c)])) (c:=#[(.slice a l.length c)]) qD rfl rfl ?_))));intro bs ws Ns;have Fs:=Ns.ge E;have Os_br:=Ns.lt Br;replace Br:=Ns.keep Br;replace E:=E.ext Ns.ext;have Bs:=Ns.blk;have hne:br<bs:=qO
 have hz1:=Br.lt;have hz2:=E.size;refine qE rfl (AI func59 kQ kQ rfl) (Xk wr bs 8 qO (by have:=Ns.eq;omega) 4 qD ws l Ns.ext ⟨a,c,Bs,hl.ext Nr.ext⟩) ?_;rintro _ w9 ⟨t,us,l',rfl,hg,hs,ht,hS,C9⟩;replace Br:=C9.keep qO Br;replace E:=E.step C9 (by intro x hx hm;omega);obtain ⟨sa,sc,aa,ac,rfl,_,_,_⟩:=ht.form;refine Ab (b:=br) (o:=0) (c':=(R6 t sa sc aa ac)) rfl rfl qS AH rfl Br qL rfl ?_;intro w1 S1;replace ht:=AS.chg S1.chg (fun x hx hm=>by have hx':=hx;have hm':x=br:=hm;omega) t ht;replace E:=S1.step E qQ;replace Br:=S1.blk;refine AB (AJ (A1 results20 (vs:=[(.int .i64 t.kind),(.slice sa t.set.length sc),(.slice aa t.args.length ac),(.int .i64 t.mn),(.int .i64 t.mx),(.bool t.neg)]) (b:=br) rfl Ad AH rfl (Br.cells rfl) ?_));exact ⟨t,_,rfl,hg,qO,AS.mono (fun b (h:_≤b)=>qO) t ht,E⟩
def Ur:Array Value:=#[.int .i64 97,.int .i64 98,.int .i64 99,.int .i64 97,.int .i64 98,.int .i64 122,.int .i64 0,.int .i64 233,.int .i64 8364,.int .i64 1114111]
theorem SV:∀i,i<10->∃r,Ur[i]?=some (.int .i64 r)∧CA r=true:=by
 intro i h
 match i,h with
 | 0,_=>exact ⟨97,O,qD⟩
 | 1,_=>exact ⟨98,O,qD⟩
 | 2,_=>exact ⟨99,O,qD⟩
 | 3,_=>exact ⟨97,O,qD⟩
 | 4,_=>exact ⟨98,O,qD⟩
 | 5,_=>exact ⟨122,O,qD⟩
 | 6,_=>exact ⟨0,O,qD⟩
 | 7,_=>exact ⟨233,O,qD⟩
 | 8,_=>exact ⟨8364,O,qD⟩
 | 9,_=>exact ⟨1114111,O,qD⟩
theorem TI {P:Program} {σ:CC} {w:World} {dst:Option Tmp} {ty:TypeId} {pos:String} {af:Array Edge} {g:Option (Nat×Bool)} {tys:Array TypeId} {x y:Operand} {k:IntKind} {a b c:Int} (e:ev σ x=.int k a) (f:ev σ y=.int k b) (d:min a b=c) :
 (execOp (ev σ) ⟨dst,.call ⟨.builtin .min,#[x,y],tys⟩,ty,pos,af,g⟩).run P w=.ok (.value (.int k c)) w:=by
 subst d;have:(if b<a then b else a)=min a b:=by split<;>omega
 simp[execOp,resolve,invoke,builtin,Builtin.min_,Builtin.min2,e,f,this]
theorem WU (w0:World) (v:Value) (l:List Int) (hl:BZ w0 v l):Bi prog 22 #[v] w0 λr w=>∃(a:Option Addr) (c:Nat) (text:List Int),r=.slice a text.length c∧w.ownsRow w0.heap.size 3 1 (.slice a text.length c) text.length (text.map GJ).flatten∧text.length<=10∧(∀x∈text,CA x=true)∧Ae w0 w:=by
 obtain ⟨a,c,rfl⟩:=BR.form hl;have aq:l.length<=9223372036854775807:=by simpa using BR.le hl
 have ag:=BR.cap hl;simp only[List.length_map] at hl ag⊢;obtain ⟨m,hm⟩:∃m,m=min l.length 10:=⟨_,O⟩;obtain ⟨base,ae⟩:∃base,base=w0.heap.size:=⟨_,O⟩;refine qR func22 O ntmps22 O (λE=>(AA (qA _ O (AB (AA (qA _ O (AB (AG (AA (qM _ O (qM _ O (qV (Aa underlying46 O) (qV (TI (c:=(m:Int)) O O qO) ?_)))))))))))));obtain ⟨sl,aj⟩:∃a':Option Addr,(if c=0 then a else Option.map (λq:Addr=>q.add (0*1)) a)=a':=⟨_,O⟩;refine qV (HS (hi:=m) underlying46 Ay O O qO qO aj) (qV (Aa underlying46 O) (qM _ O (AB (AU ?_))));have ad:=BR.cut (lo:=0) (hi:=m) hl qO qO aj O O;simp only[Nat.sub_zero,List.drop_zero] at ad;have ac:BZ w0 (.slice sl m c) (l.take m):=by unfold BZ;rw[List.map_take];exact ad
 refine Av (λnn_ σ W1=>∃(k:Nat) (la:Option Addr) (lc:Nat) (ts:List Int),(∃jj_,σ=Bj jj_ [(10,(.slice sl m c)),(11,(I6 (m:Int))),(12,(I6 (k:Int))),(3,(.slice la k lc))])∧Chg Ak w0 W1∧(k<=m)∧(W1.ownsRow base 3 1 (.slice la k lc) k (ts.map GJ).flatten)∧(ts.length=k∧∀x∈ts,CA x=true)∧(base<=W1.heap.size)∧nn_=m - k) (n:=m - 0) ?_ ?_
 ·exact ⟨0,none,0,[],Am.out ⟨O,O,O,O,trivial⟩,E,Nat.zero_le _,World.ownsRow_nil _ _ _ _,⟨O,qP⟩,qO,O⟩
 ·clear E;rintro _ _ W1 ⟨k,la,lc,ts,⟨j1,rfl⟩,E,hk,aa,af,ab,rfl⟩;refine AA (qV (BE O O) (AB (AG (qC O (λak=>?_) (λak=>?_)))))
  ·obtain ⟨x,hx⟩:=AX (l:=l.take m) (i:=k) (by simp;omega);obtain ⟨b,o,rfl,ar⟩:=DE ac qO;refine AO (AC (AG (AU (AA (qV (AN (b:=b) (o:=o) (len:=m) (cap:=c) (i:=k) (o':=o+k) O O O underlying46 Ay qO qO) (qV (AL O Al (E.cell (λf=>f) (ar k x hx))) ?_))))));have am:0<=x % 10∧x % 10<10:=qO
   refine qA _ O (AB (AR (qM _ O (A3 (ps:=[(0,(I6 97)),(1,(I6 98)),(2,(I6 99)),(3,(I6 97)),(4,(I6 98)),(5,(I6 122)),(6,(I6 0)),(7,(I6 233)),(8,(I6 8364)),(9,(I6 1114111))]) (c:=#[(I6 97),(I6 98),(I6 99),(I6 97),(I6 98),(I6 122),(I6 0),(I6 233),(I6 8364),(I6 1114111)]) qD O underlying46 Ay Iw qD qD qK ?_))));intro bq wq Nq;replace aa:=BG aa Nq.ext;replace ab:=Nat.le_trans ab Nq.ext.size;replace E:=E.ext Nq.ext;have Bq:=Nq.blk;refine qM _ O (qE O (AI func21 kQ kQ O) (J_ x 10 qD qD _) ?_);rintro _ _ ⟨rfl,rfl⟩;obtain ⟨r,hr,al⟩:=SV (x % 10).toNat qO;refine qV (AN (b:=bq) (o:=0) (len:=10) (cap:=10) (i:=(x % 10).toNat) (o':=0+((x % 10).toNat)) O O qO underlying46 Ay qO qO) (qV (AL O Al (Bq.cell (by rw[Nat.zero_add];exact hr))) (A3 (ps:=[(0,(I6 r))]) (c:=#[(I6 r)]) qD O underlying46 Ay Iw qD qD qK ?_));intro b3 w3 N3;replace Bq:=N3.keep Bq;replace aa:=BG aa N3.ext;replace ab:=Nat.le_trans ab N3.ext.size;replace E:=E.ext N3.ext;have B3:=N3.blk;refine CQ (base:=base) (n:=k) (m:=1) (xs:=(ts.map GJ).flatten) (news:=[(I6 r)]) (size:=1) (bytes:=8) (v:=(.slice la k lc)) qD underlying46 Ay Xr Iw O qD O aa O (O) (B3.cells O) qS (by unfold maxLen;omega) qO (ab) ?_;intro v9 w29 ah ai Dv9;replace E:=E.step ai (λx hx h=>absurd (aa.lt x h).1 qO);obtain ⟨an,ap,rfl⟩:=Be ah;refine qA _ O (AB (AQ (AC (AR (qV (Ax O O (A8 qO)) (qM _ O (AB (AC ?_))))))));exact ⟨m - (k+1),qO,k+1,an,ap,ts++[r],Am.out ⟨O,O,O,O,trivial⟩,E,qO,(by simpa[GJ] using ah),⟨by simp[af.1],by intro y hy;simp at hy;rcases hy with h|h;exact af.2 y h;subst h;exact al⟩,Nat.le_trans ab ai.size,O⟩
  ·obtain ⟨rfl,ao⟩:=af;refine Aw (AZ (AZ (Ap (AC (AA (qM _ O (qA _ O (AB (AJ (AV results22 (v:=(.slice la ts.length lc)) O ?_))))))))));exact ⟨la,lc,ts,O,by rw[<-ae];exact aa,qO,ao,E⟩
end Go.Proofs
namespace Go.Eng
open Go
abbrev Hj:Nat:=25
mutual
def DR (Z:Nat->Prop) (w:World):Re->List Value->(Nat->Prop)->Prop
  | .mk k set args mn mx ng,vs,L=>∃sa sc aa ac,vs=[.int .i64 k,.slice sa set.length sc,.slice aa args.length ac,.int .i64 mn,.int .i64 mx,.bool ng]∧BY Z w 2 (.slice sa set.length sc) (set.map BK)∧(args.length<=ac∧ac<=9223372036854775807)∧
      (args=[]∨∃b rows rest L',L b∧aa=some ⟨b,0,none⟩∧BH w b (rows.flatten++rest).toArray Hj∧(∀r∈rows,r.length=6)∧BQ Z w args rows L'∧(∀x,L' x->L x∧x≠b))
def BQ (Z:Nat->Prop) (w:World):List Re->List (List Value)->(Nat->Prop)->Prop
  | [],rows,_=>rows=[]
  | t::ts,rows,L=>∃vs rs L1 L2,rows=vs::rs∧DR Z w t vs L1∧BQ Z w ts rs L2∧(∀x,L1 x->L x∧¬L2 x)∧(∀x,L2 x->L x)
end
mutual
theorem DR.chg {Z M:Nat->Prop} {w w':World} (c:Chg M w w') (e:∀b,Z b->¬M b):∀(t:Re) {vs:List Value} {L:Nat->Prop},(∀b,L b->¬M b)->DR Z w t vs L->DR Z w' t vs L
 | .mk k set args mn mx ng,vs,L,hl,h=>by
  simp only[DR] at h⊢;obtain ⟨sa,sc,aa,ac,l,o,hn,m⟩:=h;refine ⟨sa,sc,aa,ac,l,o.chg c e,hn,?_⟩;rcases m with h|⟨b,rows,rest,L',d,n,i,j,g,a⟩
  .exact .inl h
  .exact .inr ⟨b,rows,rest,L',d,n,c.keep (hl b d) i,j,BQ.chg c e args (λx f=>hl x (a x f).1) g,a⟩
theorem BQ.chg {Z M:Nat->Prop} {w w':World} (c:Chg M w w') (g:∀b,Z b->¬M b):∀(a:List Re) {rows:List (List Value)} {L:Nat->Prop},(∀b,L b->¬M b)->BQ Z w a rows L->BQ Z w' a rows L
 | [],_,_,_,h=>by simp only[BQ] at h⊢;exact h
 | t::a,rows,L,hl,h=>by
  simp only[BQ] at h⊢;obtain ⟨vs,m,n,k,j,l,i,f,e⟩:=h;exact ⟨vs,m,n,k,j,DR.chg c g t (λx d=>hl x (f x d).1) l,BQ.chg c g a (λx d=>hl x (e x d)) i,f,e⟩
end
theorem DR.ext {Z:Nat->Prop} {w w':World} (e:Ae w w') (t:Re) {vs:List Value} {L:Nat->Prop} (h:DR Z w t vs L):DR Z w' t vs L:=DR.chg e (λ_ _ f=>f) t (λ_ _ f=>f) h
theorem BQ.ext {Z:Nat->Prop} {w w':World} (e:Ae w w') (a:List Re) {rows:List (List Value)} {L:Nat->Prop} (h:BQ Z w a rows L):BQ Z w' a rows L:=BQ.chg e (λ_ _ f=>f) a (λ_ _ f=>f) h
mutual
theorem DR.mono {Z c:Nat->Prop} {w:World} (e:∀b,Z b->c b):∀(t:Re) {vs:List Value} {L L':Nat->Prop},(∀b,L b->L' b)->DR Z w t vs L->DR c w t vs L'
 | .mk k set args mn mx ng,vs,L,L',hl,h=>by
  simp only[DR] at h⊢;obtain ⟨sa,sc,aa,ac,j,o,hn,l⟩:=h;refine ⟨sa,sc,aa,ac,j,o.mono e,hn,?_⟩;rcases l with h|⟨b,rows,rest,K,m,n,g,i,f,d⟩
  .exact .inl h
  .exact .inr ⟨b,rows,rest,K,hl b m,n,g,i,BQ.mono e args (λ_ h=>h) f,λx a=>⟨hl x (d x a).1,(d x a).2⟩⟩
theorem BQ.mono {Z e:Nat->Prop} {w:World} (f:∀b,Z b->e b):∀(c:List Re) {rows:List (List Value)} {L L':Nat->Prop},(∀b,L b->L' b)->BQ Z w c rows L->BQ e w c rows L'
 | [],_,_,_,_,h=>by simp only[BQ] at h⊢;exact h
 | t::c,rows,L,L',hl,h=>by
  simp only[BQ] at h⊢;obtain ⟨vs,m,n,k,j,l,i,d,g⟩:=h;exact ⟨vs,m,n,k,j,DR.mono f t (λ_ h=>h) l,BQ.mono f c (λ_ h=>h) i,λx a=>⟨hl x (d x a).1,(d x a).2⟩,λx a=>hl x (g x a)⟩
end
theorem DR.form {Z:Nat->Prop} {w:World} {t:Re} {vs:List Value} {L:Nat->Prop} (h:DR Z w t vs L):∃sa sc aa ac,vs=[.int .i64 t.kind,.slice sa t.set.length sc,.slice aa t.args.length ac,.int .i64 t.mn,.int .i64 t.mx,.bool t.neg]∧BY Z w 2 (.slice sa t.set.length sc) (t.set.map BK)∧(t.args.length<=ac∧ac<=9223372036854775807)∧
 (t.args=[]∨∃b rows rest L',L b∧aa=some ⟨b,0,none⟩∧BH w b (rows.flatten++rest).toArray Hj∧(∀r∈rows,r.length=6)∧BQ Z w t.args rows L'∧(∀x,L' x->L x∧x≠b)):=by
 cases t;simp only[DR] at h;exact h
theorem DR.len {Z:Nat->Prop} {w:World} {t:Re} {vs:List Value} {L:Nat->Prop} (h:DR Z w t vs L):vs.length=6:=by
 obtain ⟨_,_,_,_,rfl,_⟩:=h.form;rfl
theorem DR.one {Z:Nat->Prop} {w:World} {t:Re} {vs:List Value} {L:Nat->Prop} (h:DR Z w t vs L):∀u∈vs,u.oneCell'=true:=by
 obtain ⟨_,_,_,_,rfl,_⟩:=h.form;simp[Value.oneCell']
theorem BQ.len {Z:Nat->Prop} {w:World}:∀{a:List Re} {rows:List (List Value)} {L:Nat->Prop},BQ Z w a rows L->rows.length=a.length
 | [],_,_,h=>by simp only[BQ] at h;subst h;rfl
 | t::a,rows,L,h=>by
  simp only[BQ] at h;obtain ⟨vs,rs,L1,L2,rfl,_,b,_⟩:=h;simp[BQ.len b]
theorem BQ.six {Z:Nat->Prop} {w:World}:∀{b:List Re} {rows:List (List Value)} {L:Nat->Prop},BQ Z w b rows L->∀r∈rows,r.length=6
 | [],_,_,h=>by simp only[BQ] at h;subst h;simp
 | t::b,rows,L,h=>by
  simp only[BQ] at h;obtain ⟨vs,rs,L1,L2,rfl,c,d,_⟩:=h;intro r a;rcases List.mem_cons.1 a with rfl|a
  .exact c.len
  .exact BQ.six d r a
theorem BQ.snoc {Z:Nat->Prop} {w:World} {t:Re} {vs:List Value} {K:Nat->Prop} (d:DR Z w t vs K):∀{b:List Re} {rows:List (List Value)} {L:Nat->Prop},BQ Z w b rows L->(∀x,L x->¬K x)->BQ Z w (b++[t]) (rows++[vs]) (λx=>L x∨K x)
 | [],rows,L,h,hd=>by
  simp only[BQ] at h;subst h;simp only[List.nil_append,BQ];exact ⟨vs,[],K,λ_=>False,O,d,O,λx a=>⟨.inr a,λf=>f⟩,λx f=>f.elim⟩
 | u::b,rows,L,h,hd=>by
  simp only[BQ] at h;obtain ⟨us,k,l,L2,rfl,j,i,c,e⟩:=h;have:=BQ.snoc d i λx a=>hd x (e x a);simp only[List.cons_append,BQ];exact ⟨us,k++[vs],l,_,O,j,this,λx a=>⟨.inl (c x a).1,λg=>g.elim (c x a).2 (hd x (c x a).1)⟩,λx a=>a.elim (λh=>.inl (e x h)) .inr⟩
theorem KZ {rows:List (List Value)} {rest:List Value} {k:Nat} (c:∀r∈rows,r.length=k):∀{i:Nat} {r:List Value},rows[i]?=some r->∀(j:Nat) (u:Value),r[j]?=some u->(rows.flatten++rest)[i*k+j]?=some u:=by
 induction rows with
 | nil=>intro i r h;simp at h
 | cons x rs ih=>
  intro i r a j u b;have d:x.length=k:=c x qP;cases i with
  | zero=>
   simp at a;subst a;have e:=AM b;simp only[List.flatten_cons,Nat.zero_mul,Nat.zero_add,List.append_assoc];rw[List.getElem?_append_left e];exact b
  | succ i=>
   simp at a;simp only[List.flatten_cons,List.append_assoc];rw[List.getElem?_append_right (by rw[d,Nat.succ_mul];omega)];rw[show (i+1)*k+j - x.length=i*k+j from by rw[d,Nat.succ_mul];omega];exact ih (λr a=>c r (by simp[a])) a j u b
theorem Gc {w:World} {b T k:Nat} {rows:List (List Value)} {rest:List Value} (h:BH w b (rows.flatten++rest).toArray T) (a:∀r∈rows,r.length=k) {i:Nat} {r:List Value} (c:rows[i]?=some r):BA w b (i*k) r:=by
 intro j u d;exact h.cell (by simpa using KZ a c j u d)
theorem KY {k:Nat} {v:List Value} (a:v.length=k):∀{rows:List (List Value)} {rest:List Value} {i:Nat},(∀r∈rows,r.length=k)->i<rows.length->(rows.flatten++rest).take (i*k)++v++(rows.flatten++rest).drop (i*k+k)=(rows.set i v).flatten++rest
 | [],_,_,_,hi=>by simp at hi
 | x::rs,rest,0,hk,hi=>by
  have b:x.length=k:=hk x qP;simp only[List.flatten_cons,Nat.zero_mul,List.take_zero,Nat.zero_add,List.set_cons_zero,List.nil_append,List.append_assoc];rw[List.drop_append_of_le_length qO,List.drop_of_length_le qO];simp
 | x::rs,rest,i+1,hk,hi=>by
  have b:x.length=k:=hk x qP;have ih:=KY a (rows:=rs) (rest:=rest) (i:=i) (λr d=>hk r (by simp[d])) (by simpa using hi);simp only[List.flatten_cons,List.set_cons_succ,List.append_assoc] at ih⊢;rw[<-ih,Nat.succ_mul];have e:∀(A:List Value) (m:Nat),(x++A).take (x.length+m)=x++A.take m:=λA m=>by rw[List.take_append,List.take_of_length_le qO,Nat.add_sub_cancel_left]
  have c:∀(A:List Value) (m:Nat),(x++A).drop (x.length+m)=A.drop m:=λA m=>by rw[List.drop_append,List.drop_of_length_le qO,Nat.add_sub_cancel_left,List.nil_append]
  rw[show i*k+k=x.length+i*k from qO,e,show x.length+i*k+k=x.length+(i*k+k) from qO,c];rw[List.append_assoc,show x.length+i*k=i*k+k from qO]
theorem CW {k:Nat}:∀{rows:List (List Value)},(∀r∈rows,r.length=k)->rows.flatten.length=rows.length*k
 | [],_=>qP
 | x::rs,h=>by
  have:=CW (rows:=rs) (λr a=>h r (by simp[a]));have b:x.length=k:=h x qP;simp only[List.flatten_cons,List.length_append,List.length_cons,this,b,Nat.succ_mul];omega
theorem FF {S:Nat->Prop} {w:World} {b:Nat}:∀{a:List Re} {o:Nat},(∀i t,a[i]?=some t->∃vs,BA w b (o+i*6) vs∧AS S w t vs)->A5 S w b o a
 | [],_,_=>by simp only[A5]
 | t::a,o,h=>by
  simp only[A5];refine ⟨by simpa using h 0 t O,FF λi u c=>?_⟩;have:=h (i+1) u (by simpa using c)
  rwa [show o+(i+1)*6=o+6+i*6 from qO] at this
end Go.Eng
namespace Go.Proofs
open Go Go.Eng
set_option maxRecDepth 100000
def G1 (w:World) (v:Value) (ts:List Re):Prop:=∃aa ac,v=.slice aa ts.length ac∧(ts.length<=ac∧ac<=9223372036854775807)∧(ts=[]∨∃b o,aa=some ⟨b,o,none⟩∧CB w b o ts)
theorem G1.ext {w w':World} {v:Value} {a:List Re} (h:G1 w v a) (e:Ae w w'):G1 w' v a:=by
 obtain ⟨aa,ac,c,d,g⟩:=h;refine ⟨aa,ac,c,d,?_⟩;rcases g with h|⟨b,o,i,f⟩
 .exact .inl h
 .exact .inr ⟨b,o,i,CB.ext e a f⟩
theorem G1.cells {w:World} {aa:Option Addr} {n ac:Nat} {a:List Re} (h:G1 w (.slice aa n ac) a) (hn:0<n):∃b o,aa=some ⟨b,o,none⟩∧∀i t,a[i]?=some t->∃vs,BA w b (o+i*6) vs∧A4 w t vs:=by
 obtain ⟨aa',ac',c,h2,f⟩:=h;simp only[Value.slice.injEq] at c;obtain ⟨rfl,rfl,rfl⟩:=c;rcases f with rfl|⟨b,o,g,e⟩
 .simp at hn
 .exact ⟨b,o,g,λi t d=>CB.get e d⟩
theorem A4.rs {w:World} {t:Re} {sa aa:Option Addr} {k m x:Int} {n sc n' ac:Nat} {ng:Bool} (h:A4 w t [.int .i64 k,.slice sa n sc,.slice aa n' ac,.int .i64 m,.int .i64 x,.bool ng]):G1 w (.slice aa n' ac) t.args:=by
 obtain ⟨sa',sc',aa',ac',a,_,c,b⟩:=h.form;simp at a;obtain ⟨_,_,⟨rfl,rfl,rfl⟩,_⟩:=a;exact ⟨_,_,O,c,b⟩
theorem Su (t u:Re):Ci t u=(decide (t.kind=u.kind) && decide (t.set=u.set) && decide (t.mn=u.mn) && decide (t.mx=u.mx) && decide (t.neg=u.neg) && Er t.args u.args):=by
 cases t;cases u;simp only[Ci,Re.kind,Re.set,Re.args,Re.mn,Re.mx,Re.neg];try rfl
theorem Xm (w0:World) (v1 v2 fv:Value) (l1 l2:List Re) (h1:G1 w0 v1 l1) (h2:G1 w0 v2 l2)
  (hf:∀(w:World) (x u:Re) (vs us:List Value),Ae w0 w→x∈l1→A4 w x vs→A4 w u us→Bh prog fv #[.agg vs.toArray,.agg us.toArray] w fun r w'=>r=.bool (Ci x u)∧Ae w w') :
  Bi prog 182 #[v1,v2,fv] w0 fun v w=>v=.bool (Er l1 l2)∧Ae w0 w:=by
 have g1:=h1;have g2:=h2;obtain ⟨a1,c1,rfl,hb1,_⟩:=h1;obtain ⟨a2,c2,rfl,hb2,_⟩:=h2;refine qR func182 rfl ntmps182 rfl (fun E=>(AA (qA _ rfl (AB (AG (AA (qM _ rfl (qV (Aa underlying23 rfl) (qM _ rfl (qV (Aa underlying23 rfl) (qV (Cy rfl rfl) (AB (qC rfl (fun hl=>?_) (fun hl=>?_))))))))))))))
 ·refine AA (qA _ rfl (AB (AJ (AP (AV results182 (v:=(.bool false)) rfl ?_)))));exact ⟨BO (by symm;rw[←Bool.not_eq_true,FE];intro h;rw[h] at hl;exact hl rfl),E⟩
 ·refine AO (AC (AG (AA (qM _ rfl (qV (Aa underlying23 rfl) (qM _ rfl (AB (AU (Av (fun nn_ σ W2=>∃(k:Nat),(∃jj_,σ=Bj jj_ [(1,(.slice a2 l2.length c2)),(2,fv),(15,(.slice a1 l1.length c1)),(16,(I6 (l1.length:Int))),(17,(I6 (k:Int)))])∧Chg Ak w0 W2∧(k≤l1.length)∧(∀(i:Nat),i<k→l1[i]?=l2[i]?)∧nn_=l1.length - k) (n:=l1.length - 0) ?_ ?_)))))))))
  ·exact ⟨0,Am.out ⟨rfl,rfl,rfl,rfl,rfl,trivial⟩,E,Nat.zero_le _,(fun i h=>absurd h (Nat.not_lt_zero _)),rfl⟩
  ·clear E;rintro _ _ W2 ⟨k,⟨j2,rfl⟩,E,hk,al,rfl⟩;refine AA (qV (BE rfl rfl) (AB (AG (qC rfl (fun ao=>?_) (fun ao=>?_)))))
   ·obtain ⟨p,hp⟩:=AX (l:=l1) (i:=k) qO;obtain ⟨q,hq⟩:=AX (l:=l2) (i:=k) qO;obtain ⟨b1,o1,rfl,au⟩:=g1.cells qO;obtain ⟨b2,o2,rfl,ar⟩:=g2.cells qO;obtain ⟨vs,aq,an⟩:=au k p hp;obtain ⟨us,ap,am⟩:=ar k q hq;have ai:=an;have ag:=am;obtain ⟨sa,sc,aa,ac,rfl,_,_,_⟩:=an.form;obtain ⟨ae,ak,ad,aj,rfl,_,_,_⟩:=am.form;refine AO (AC (AG (AU (AA (qM _ rfl (qV (AN (b:=b1) (o:=o1) (len:=l1.length) (cap:=c1) (i:=k) (o':=o1+k*6) rfl rfl rfl underlying23 AH qO qO) (qV (AK rfl Ad AH rfl (aq.ext E)) (Bg (c:=#[(I6 0),(.slice none 0 0),(.slice none 0 0),(I6 0),(I6 0),(.bool false)]) qD A9 rfl ?_))))))));intro bp wp Np;have Fp:=Np.ge E;replace E:=E.ext Np.ext;have Bp:=Np.blk;refine qA _ rfl (Ab (b:=bp) (o:=0) (c':=(R6 p sa sc aa ac)) rfl rfl qS AH rfl Bp qL rfl ?_);intro w4 S4;replace E:=S4.step E qQ;replace Bp:=S4.blk;refine AB (AA (qM _ rfl (qM _ rfl (qV (AN (b:=b2) (o:=o2) (len:=l2.length) (cap:=c2) (i:=k) (o':=o2+k*6) rfl rfl rfl underlying23 AH qO qO) (qV (AK rfl Ad AH rfl (ap.ext E)) (As (v:=(.agg (R6 q ae ak ad aj))) (c:=(R6 q ae ak ad aj)) (n:=6) qD A9 rfl AH rfl rfl rfl qS ?_))))));intro bq wq Nq;have Fq:=Nq.ge E;have Oq_bp:=Nq.lt Bp;replace Bp:=Nq.keep Bp;replace E:=E.ext Nq.ext;have Bq:=Nq.blk;refine AB (AA (qM _ rfl (qV (AK (vs:=[(I6 p.kind),(.slice sa p.set.length sc),(.slice aa p.args.length ac),(I6 p.mn),(I6 p.mx),(.bool p.neg)]) rfl Ad AH rfl (Bp.cells rfl)) (qV (AK (vs:=[(I6 q.kind),(.slice ae q.set.length ak),(.slice ad q.args.length aj),(I6 q.mn),(I6 q.mx),(.bool q.neg)]) rfl Ad AH rfl (Bq.cells rfl)) (DN qD rfl rfl (hf _ p q _ _ E (List.mem_of_getElem? hp) (A4.ext E p ai) (A4.ext E q ag)) ?_)))));rintro _ w9 ⟨rfl,X9⟩;replace Bp:=X9.keep Bp;replace Bq:=X9.keep Bq;replace E:=E.ext X9;refine qV (Dg rfl) (AB (A_ rfl (fun ab=>?_) (fun ab=>?_)))
    ·have ah:=ab;replace ab:=by simpa using ab
     refine AA (qA _ rfl (AB (AJ (Ac (AP (AP (Ac (AP (AV results182 (v:=(.bool false)) rfl ?_)))))))));exact ⟨BO (by symm;rw[←Bool.not_eq_true,FE];intro h;subst h;rw[hp] at hq;cases hq;rw[(DY p p).2 rfl] at ab;cases ab),E⟩
    ·have ah:=ab;replace ab:=by simpa using ab
     have af:p=q:=(DY p q).1 (by simpa using ab);refine AO (AQ (AC (AR (qV (Ax rfl rfl (A8 qO)) (qM _ rfl (AB (AC ?_)))))));exact ⟨l1.length - (k+1),qO,k+1,Am.out ⟨rfl,rfl,rfl,rfl,rfl,trivial⟩,E,qO,(fun i hi=>by rcases Nat.lt_or_ge i k with h|h;exact al i h;obtain rfl:i=k:=qO;rw[hp,hq,af]),rfl⟩
   ·have hkk:k=l1.length:=qO
    refine Aw (AZ (AZ (Ap (AC (AA (qA _ rfl (AB (AJ (AV results182 (v:=(.bool true)) rfl ?_)))))))));exact ⟨BO (by symm;rw[FE];exact NE qO (fun i hi=>al i qO)),E⟩
theorem S_:∀(n:Nat) (t u:Re) (r:World) (vs us:List Value),t.size<=n->A4 r t vs->A4 r u us->
 Bi prog 173 #[.agg vs.toArray,.agg us.toArray] r λv w=>v=.bool (Ci t u)∧Ae r w:=by
 intro n
 induction n with
 | zero=>intro t u r vs us hn;have:=t.size_pos;omega
 | succ n ih=>
 intro t u r vs us hn L N;have H:=L;have F:=N;obtain ⟨sa,sc,aa,ac,rfl,D,_,_⟩:=L.form;obtain ⟨A,C,z,B,rfl,I,_,_⟩:=N.form;have q:Ci t u=(decide (t.kind=u.kind) && decide (t.set=u.set) && decide (t.mn=u.mn) && decide (t.mx=u.mx) && decide (t.neg=u.neg) && Er t.args u.args):=Su t u;refine qR func173 O ntmps173 O (λE=>(AA (BL (v:=(.agg (R6 t sa sc aa ac))) (c:=(R6 t sa sc aa ac)) qD O O ?_)));intro s w1 M;replace E:=E.ext M.ext;have g:=M.blk;refine BL (v:=(.agg (R6 u A C z B))) (c:=(R6 u A C z B)) qD O O ?_;intro p w2 G;replace g:=G.keep g;replace E:=E.ext G.ext;have m:=G.blk;refine qA _ O (AB (AA (qF s 0 0 O underlying25 O Ay O (qV (AL O Al (g.cell O)) (qF p 0 0 O underlying25 O Ay O (qV (AL O Al (m.cell O)) (qV (Aj O O) (qM _ O ?_))))))));rcases Bool.eq_false_or_eq_true (decide ((t.kind:Int)=u.kind)) with e|e
 .have j:=e;replace j:=of_decide_eq_true j;refine AF O O qD (BC e) (qF s 0 1 O underlying25 O CM O (AF O O qD (BC e) (qV (AL O Cb (g.cell O)) (AF O O qD (BC e) (qF p 0 1 O underlying25 O CM O (AF O O qD (BC e) (qV (AL O Cb (m.cell O)) (AF O O qD (BC e) (qE O (AI func73 kQ kQ O) (Se _ _ _ t.set u.set (BR.ext D E) (BR.ext I E)) ?_)))))))));rintro _ w9 ⟨rfl,J⟩;replace g:=J.keep g;replace m:=J.keep m;replace E:=E.ext J;refine qV (Aq (v:=(.bool (decide (t.set=u.set)))) O (by rw[e];rfl)) (qM _ O ?_);rcases Bool.eq_false_or_eq_true (decide (t.set=u.set)) with f|f
  .have h:=f;replace h:=of_decide_eq_true h;refine AF O O qD (BC f) (qF s 0 3 O underlying25 O Ay O (AF O O qD (BC f) (qV (AL O Al (g.cell O)) (AF O O qD (BC f) (qF p 0 3 O underlying25 O Ay O (AF O O qD (BC f) (qV (AL O Al (m.cell O)) (AF O O qD (BC f) (qV (Aj O O) (qV (Aq (v:=(.bool (decide ((t.mn:Int)=u.mn)))) O (by rw[f];rfl)) (qM _ O ?_)))))))))));rcases Bool.eq_false_or_eq_true (decide ((t.mn:Int)=u.mn)) with b|b
   .have k:=b;replace k:=of_decide_eq_true k;refine AF O O qD (BC b) (qF s 0 4 O underlying25 O Ay O (AF O O qD (BC b) (qV (AL O Al (g.cell O)) (AF O O qD (BC b) (qF p 0 4 O underlying25 O Ay O (AF O O qD (BC b) (qV (AL O Al (m.cell O)) (AF O O qD (BC b) (qV (Aj O O) (qV (Aq (v:=(.bool (decide ((t.mx:Int)=u.mx)))) O (by rw[b];rfl)) (qM _ O ?_)))))))))));rcases Bool.eq_false_or_eq_true (decide ((t.mx:Int)=u.mx)) with d|d
    .have l:=d;replace l:=of_decide_eq_true l;refine AF O O qD (BC d) (qF s 0 5 O underlying25 O Sk O (AF O O qD (BC d) (qV (AL O Ou (g.cell O)) (AF O O qD (BC d) (qF p 0 5 O underlying25 O Sk O (AF O O qD (BC d) (qV (AL O Ou (m.cell O)) (AF O O qD (BC d) (qV (Wh underlying4 O O) (qV (Aq (v:=(.bool (t.neg == u.neg))) O (by rw[d];rfl)) (qM _ O ?_)))))))))));rcases Bool.eq_false_or_eq_true (t.neg == u.neg) with a|a
     .have K:=a;refine AF O O qD (BC a) (qF s 0 2 O underlying25 O CG O (AF O O qD (BC a) (qV (AL O B0 (g.cell O)) (AF O O qD (BC a) (qF p 0 2 O underlying25 O CG O (AF O O qD (BC a) (qV (AL O B0 (m.cell O)) (AF O O qD (BC a) (qE O (AI func182 kQ kQ O) (Xm _ _ _ _ t.args u.args ((A4.rs H).ext E) ((A4.rs F).ext E) (λw x y vs us hE P R Q=>Bh.mk (first:=#[]) (cap:=#[]) func173 kQ kQ O (ih x y w vs us (by obtain ⟨i,hi⟩:=List.mem_iff_getElem?.1 P;have:=Re.size_arg hi;omega) R Q))) ?_)))))))));rintro _ w19 ⟨rfl,o⟩;replace g:=o.keep g;replace m:=o.keep m;replace E:=E.ext o;refine qV (Aq (v:=(.bool (Er t.args u.args))) O (by rw[a];rfl)) (qA _ O (AB (AJ (AV results173 (v:=(.bool (Er t.args u.args))) O ?_))));exact ⟨BO (by rw[q,e,f,b,d];simp at a;simp[a]),E⟩
     .have K:=a;refine AE O O qD (v:=.bool false) (BC a) (Or.inl O) (AE O O qD (v:=.bool false) (BC a) (Or.inl O) (AE O O qD (v:=.bool false) (BC a) (Or.inl O) (AE O O qD (v:=.bool false) (BC a) (Or.inl O) (AE O O qD (v:=.bool false) (BC a) (Or.inl O) (qV (Aq (v:=(.bool false)) O (by rw[a];rfl)) (qA _ O (AB (AJ (AV results173 (v:=(.bool false)) O ?_)))))))));exact ⟨BO (by rw[q];simp at a;simp[a]),E⟩
    .have l:=d;replace l:=of_decide_eq_false l;refine AE O O qD (v:=.bool false) (BC d) (Or.inl O) (AE O O qD (v:=.bool false) (BC d) (Or.inl O) (AE O O qD (v:=.bool false) (BC d) (Or.inl O) (AE O O qD (v:=.bool false) (BC d) (Or.inl O) (AE O O qD (v:=.bool false) (BC d) (Or.inl O) (qV (Aq (v:=(.bool false)) O (by rw[d];rfl)) (qM _ O (AE O O qD (v:=.bool false) O (Or.inl O) (AE O O qD (v:=.bool false) O (Or.inl O) (AE O O qD (v:=.bool false) O (Or.inl O) (AE O O qD (v:=.bool false) O (Or.inl O) (AE O O qD (v:=.bool false) O (Or.inl O) (qV (Aq O O) (qA _ O (AB (AJ ?_)))))))))))))));refine AV results173 (v:=(.bool false)) O ?_;exact ⟨BO (by rw[q];simp at d;simp[d]),E⟩
   .have k:=b;replace k:=of_decide_eq_false k;refine AE O O qD (v:=.bool false) (BC b) (Or.inl O) (AE O O qD (v:=.bool false) (BC b) (Or.inl O) (AE O O qD (v:=.bool false) (BC b) (Or.inl O) (AE O O qD (v:=.bool false) (BC b) (Or.inl O) (AE O O qD (v:=.bool false) (BC b) (Or.inl O) (qV (Aq (v:=(.bool false)) O (by rw[b];rfl)) (qM _ O (AE O O qD (v:=.bool false) O (Or.inl O) (AE O O qD (v:=.bool false) O (Or.inl O) (AE O O qD (v:=.bool false) O (Or.inl O) (AE O O qD (v:=.bool false) O (Or.inl O) (AE O O qD (v:=.bool false) O (Or.inl O) (qV (Aq O O) (qM _ O (AE O O qD (v:=.bool false) O (Or.inl O) ?_))))))))))))));refine AE O O qD (v:=.bool false) O (Or.inl O) (AE O O qD (v:=.bool false) O (Or.inl O) (AE O O qD (v:=.bool false) O (Or.inl O) (AE O O qD (v:=.bool false) O (Or.inl O) (qV (Aq O O) (qA _ O (AB (AJ (AV results173 (v:=(.bool false)) O ?_))))))));exact ⟨BO (by rw[q];simp at b;simp[b]),E⟩
  .have h:=f;replace h:=of_decide_eq_false h;refine AE O O qD (v:=.bool false) (BC f) (Or.inl O) (AE O O qD (v:=.bool false) (BC f) (Or.inl O) (AE O O qD (v:=.bool false) (BC f) (Or.inl O) (AE O O qD (v:=.bool false) (BC f) (Or.inl O) (AE O O qD (v:=.bool false) (BC f) (Or.inl O) (qV (Aq (v:=(.bool false)) O (by rw[f];rfl)) (qM _ O (AE O O qD (v:=.bool false) O (Or.inl O) (AE O O qD (v:=.bool false) O (Or.inl O) (AE O O qD (v:=.bool false) O (Or.inl O) (AE O O qD (v:=.bool false) O (Or.inl O) (AE O O qD (v:=.bool false) O (Or.inl O) (qV (Aq O O) (qM _ O (AE O O qD (v:=.bool false) O (Or.inl O) ?_))))))))))))));refine AE O O qD (v:=.bool false) O (Or.inl O) (AE O O qD (v:=.bool false) O (Or.inl O) (AE O O qD (v:=.bool false) O (Or.inl O) (AE O O qD (v:=.bool false) O (Or.inl O) (qV (Aq O O) (qM _ O (AE O O qD (v:=.bool false) O (Or.inl O) (AE O O qD (v:=.bool false) O (Or.inl O) (AE O O qD (v:=.bool false) O (Or.inl O) (AE O O qD (v:=.bool false) O (Or.inl O) (AE O O qD (v:=.bool false) O (Or.inl O) (qV (Aq O O) (qA _ O (AB (AJ (AV results173 (v:=(.bool false)) O ?_)))))))))))))));exact ⟨BO (by rw[q];simp at f;simp[f]),E⟩
 .have j:=e;replace j:=of_decide_eq_false j;refine AE O O qD (v:=.bool false) (BC e) (Or.inl O) (AE O O qD (v:=.bool false) (BC e) (Or.inl O) (AE O O qD (v:=.bool false) (BC e) (Or.inl O) (AE O O qD (v:=.bool false) (BC e) (Or.inl O) (AE O O qD (v:=.bool false) (BC e) (Or.inl O) (qV (Aq (v:=(.bool false)) O (by rw[e];rfl)) (qM _ O (AE O O qD (v:=.bool false) O (Or.inl O) (AE O O qD (v:=.bool false) O (Or.inl O) (AE O O qD (v:=.bool false) O (Or.inl O) (AE O O qD (v:=.bool false) O (Or.inl O) (AE O O qD (v:=.bool false) O (Or.inl O) (qV (Aq O O) (qM _ O (AE O O qD (v:=.bool false) O (Or.inl O) ?_))))))))))))));refine AE O O qD (v:=.bool false) O (Or.inl O) (AE O O qD (v:=.bool false) O (Or.inl O) (AE O O qD (v:=.bool false) O (Or.inl O) (AE O O qD (v:=.bool false) O (Or.inl O) (qV (Aq O O) (qM _ O (AE O O qD (v:=.bool false) O (Or.inl O) (AE O O qD (v:=.bool false) O (Or.inl O) (AE O O qD (v:=.bool false) O (Or.inl O) (AE O O qD (v:=.bool false) O (Or.inl O) (AE O O qD (v:=.bool false) O (Or.inl O) (qV (Aq O O) (qM _ O (AE O O qD (v:=.bool false) O (Or.inl O) (AE O O qD (v:=.bool false) O (Or.inl O) ?_))))))))))))));refine AE O O qD (v:=.bool false) O (Or.inl O) (AE O O qD (v:=.bool false) O (Or.inl O) (AE O O qD (v:=.bool false) O (Or.inl O) (qV (Aq O O) (qA _ O (AB (AJ (AV results173 (v:=(.bool false)) O ?_)))))));exact ⟨BO (by rw[q];simp at e;simp[e]),E⟩
theorem I3 (j:World) (v fv:Value) (l:List Re) (p:Re->Bool) (B:G1 j v l) (C:∀(w:World) (x:Re) (vs:List Value),Ae j w->x∈l->A4 w x vs->Bh prog fv #[.agg vs.toArray] w λr w'=>r=.bool (p x)∧Ae w w') :
 Bi prog 169 #[v,fv] j λr w=>r=.int .i64 (IA p l)∧Ae j w:=by
 have D:=B;obtain ⟨a,c,rfl,hb1,_⟩:=B;refine qR func169 O ntmps169 O (λE=>(AA (qA _ O (AB (AG (AA (qM _ O (qV (Aa underlying23 O) (qM _ O (AB (AU (Av (λnn_ σ A=>∃(k:Nat),(∃jj_,σ=Bj jj_ [(0,(.slice a l.length c)),(1,fv),(7,(I6 (l.length:Int))),(8,(I6 (k:Int)))])∧Chg Ak j A∧(k<=l.length)∧(∀(i:Nat) (y:Re),i<k->l[i]?=some y->p y=false)∧nn_=l.length - k) (n:=l.length - 0) ?_ ?_))))))))))))
 .exact ⟨0,Am.out ⟨O,O,O,O,trivial⟩,E,Nat.zero_le _,(λi y h=>absurd h (Nat.not_lt_zero _)),O⟩
 .clear E;rintro _ _ A ⟨k,⟨j1,rfl⟩,E,hk,d,rfl⟩;refine AA (qV (BE O O) (AB (AG (qC O (λq=>?_) (λq=>?_)))))
  .obtain ⟨x,m⟩:=AX (l:=l) (i:=k) qO;obtain ⟨b,o,rfl,u⟩:=D.cells qO;obtain ⟨vs,s,f⟩:=u k x m;have g:=f;obtain ⟨sa,sc,aa,ac,rfl,_,_,_⟩:=f.form;refine AO (AC (AG (AU (AA (qM _ O (qA _ O (AB (AA (qM _ O (qM _ O (qM _ O (qV (AN (b:=b) (o:=o) (len:=l.length) (cap:=c) (i:=k) (o':=o+k*6) O O O underlying23 AH qO qO) (qV (AK O Ad AH O (s.ext E)) (DN qD O O (C _ x _ E (List.mem_of_getElem? m) (A4.ext E x g)) ?_))))))))))))));rintro _ w9 ⟨rfl,F⟩;replace E:=E.ext F;refine AB (A_ O (λe=>?_) (λe=>?_))
   .have t:=e;refine AA (qM _ O (qA _ O (AB (AJ (Ac (AP (AP (Ac (AP (AV results169 (v:=(.int .i64 ((k:Nat):Int))) O ?_))))))))));exact ⟨Bc (HZ m e d).symm,E⟩
   .have t:=e;refine AO (AQ (AC (AR (qV (Ax O O (A8 qO)) (qM _ O (AB (AC ?_)))))));exact ⟨l.length - (k+1),qO,k+1,Am.out ⟨O,O,O,O,trivial⟩,E,qO,FP m e d,O⟩
  .have hkk:k=l.length:=qO
   refine Aw (AZ (AZ (Ap (AC (AA (qA _ O (AB (AJ (AV results169 (v:=(.int .i64 (-1))) O ?_)))))))));exact ⟨Bc (HA λi y z=>d i y (by have:=AM z;omega) z).symm,E⟩
theorem RX (a:World) (v fv:Value) (l:List Re) (p:Re->Bool) (d:G1 a v l) (b:∀(w:World) (x:Re) (vs:List Value),Ae a w->x∈l->A4 w x vs->Bh prog fv #[.agg vs.toArray] w λr w'=>r=.bool (p x)∧Ae w w') :
 Bi prog 168 #[v,fv] a λr w=>r=.bool (l.any p)∧Ae a w:=by
 refine qR func168 O ntmps168 O (λE=>(AA (qA _ O (AB (AA (qM v O (qM _ O (qE O (AI func169 kQ kQ O) (I3 _ v fv l p d b) ?_))))))));rintro _ w9 ⟨rfl,c⟩;replace E:=E.ext c;refine qV (FX O O) (qA _ O (AB (AJ (AV results168 (v:=(.bool (decide ((0:Int)<=IA p l)))) O ?_))));exact ⟨BO (Ha p l),E⟩
end Go.Proofs
namespace Go.Proofs
open Go Go.Eng
set_option maxRecDepth 100000
theorem Vv (k:World) (v:Value) (l:List (Int×Int)) (h:BD k v l) (hl:l.length<=2000000) :
 Bi prog 74 #[v] k λr w=>∃a c,r=.slice a l.length c∧BY (λb=>k.heap.size<=b∧b<w.heap.size) w 2 r (l.map BK)∧Ae k w:=by
 obtain ⟨a,c,rfl⟩:=BR.form h;simp only[List.length_map] at h⊢;obtain ⟨base,hbase⟩:∃base,base=k.heap.size:=⟨_,O⟩;refine qR func74 O ntmps74 O (λE=>(AA (qA _ O (AB (AG (AA (qM _ O (Bn (v:=(.bool a.isNone)) O O qD (Ke underlying22 O O) (AB (A_ O (λhn=>?_) (λhn=>?_)))))))))))
 .have s:=hn;have j:l.length=0:=by rcases Nat.eq_zero_or_pos l.length with y|y;exact y;obtain ⟨b,o,rfl,_⟩:=Bd h y;simp at hn
  have i:l=[]:=List.eq_nil_of_length_eq_zero j;refine AA (qA _ O (AB (AJ (AP (AV results74 (v:=(.slice none 0 0)) O ?_)))));exact ⟨none,0,by rw[j],by subst i;exact BY.nil _ _ _ _ _,E⟩
 .have s:=hn;rcases Bool.eq_false_or_eq_true (decide (l.length=0)) with z|z
  .have d:=z;replace d:=of_decide_eq_true d;refine AO (AC (AA (G4 qD underlying22 BU ?_)));intro q G f;have I:=f.ge E;replace E:=E.ext f.ext;have H:=f.blk;refine qM _ O (qV (Lx underlying22 BU (a':=a) (c':=c) O (Nat.le_refl _) (by show Value.slice a l.length c=_;rw[d])) (qA _ O (AB (AJ (AV results74 (v:=(.slice (some ⟨q,0,none⟩) 0 0)) O ?_)))));have i:l=[]:=List.eq_nil_of_length_eq_zero d;exact ⟨some ⟨q,0,none⟩,0,by rw[d],by subst i;exact BY.nil _ _ _ _ _,E⟩
  .have d:=z;replace d:=of_decide_eq_false d;obtain ⟨b,o,rfl,B⟩:=Bd h qO;refine AO (AC (AA (G4 qD underlying22 BU ?_)));intro q G f;have I:=f.ge E;replace E:=E.ext f.ext;have H:=f.blk;refine qM _ O ?_;have g:=HU (base:=base) (size:=2) H qO;have u:base<=G.heap.size:=by have:=f.ext.size;omega
   refine CQ (base:=base) (n:=0) (m:=l.length) (xs:=[]) (news:=(l.map BK).flatten) (size:=2) (bytes:=16) (v:=(.slice (some ⟨q,0,none⟩) 0 0)) qD underlying22 BU O' Ed O qD O g O (E7 l) ((KO B).ext f.ext) (Lo l) (by unfold maxLen;omega) qO (u) ?_;intro v9 w29 e t Dv9;replace E:=E.step t (λx hx h=>absurd (g.lt x h).1 qO);obtain ⟨J,D,rfl⟩:=Be e;refine qA _ O (AB (AJ (AV results74 (v:=(.slice J (0+l.length) D)) O ?_)));simp only[Nat.zero_add,List.nil_append] at e;have A:=EA e (by intro r C;simp only[List.mem_map] at C;obtain ⟨p,_,rfl⟩:=C;rfl) qP qD;obtain ⟨F,rfl,hgq,_⟩:=DZ e qO;simp only[Nat.zero_add];exact ⟨some ⟨F,0,none⟩,D,O,BY.mk A ⟨qO,(e.lt F O).2⟩,E⟩
mutual
def Ga:Re->Prop
  | .mk _ set args _ _ _=>set.length<=2000000∧HP args
def HP:List Re->Prop
  | []=>True
  | t::ts=>Ga t∧HP ts
end
theorem Pb {t:Re} (h:Ga t):t.set.length<=2000000:=by cases t;simp only[Ga] at h;exact h.1
theorem Pc {t:Re} (h:Ga t) {i:Nat} {x:Re} (a:t.args[i]?=some x):Ga x:=by
 cases t with
 | mk k set args mn mx ng=>
 simp only[Ga] at h;replace h:=h.2;simp only[Re.args] at a
 induction args generalizing i with
 | nil=>simp at a
 | cons u us ih=>
  simp only[HP] at h;cases i with
  | zero=>simp at a;subst a;exact h.1
  | succ i=>simp at a;exact ih a h.2
def GR (n0:Nat) (t:Re):G2:=λv w=>∃vs Z L,v=.agg vs.toArray∧DR Z w t vs L∧(∀x,Z x->¬L x)∧(∀x,Z x∨L x->n0<=x∧x<w.heap.size)
theorem GQ (n0:Nat) (t:Re):∀v w w',Chg Ak w w'->GR n0 t v w->GR n0 t v w':=by
 rintro v w w' e ⟨vs,Z,L,d,f,c,b⟩;exact ⟨vs,Z,L,d,DR.ext e t f,c,λx a=>⟨(b x a).1,Nat.lt_of_lt_of_le (b x a).2 e.size⟩⟩
def MW (n0:Nat) (t:Re):G2:=λv w=>∃b vs Z L,v=.slice (some ⟨b,0,none⟩) 1 1∧BH w b vs.toArray Hj∧DR Z w t vs L∧(∀x,Z x->¬L x)∧(∀x,Z x∨L x->n0<=x∧x<w.heap.size)
theorem JQ (n0:Nat) (t:Re):∀v w w',Chg Ak w w'->MW n0 t v w->MW n0 t v w':=by
 rintro v w w' e ⟨b,vs,Z,L,d,g,h,f,c⟩;exact ⟨b,vs,Z,L,d,Ae.keep e g,DR.ext e t h,f,λx a=>⟨(c x a).1,Nat.lt_of_lt_of_le (c x a).2 e.size⟩⟩
theorem SM {N n0:Nat} {σ:CC} {w:World} {dst:Option Tmp} {ty:TypeId} {pos:String} {af:Array Edge} {g:Option (Nat×Bool)} {x:Operand} {t:Re} {vs:List Value} {Z L:Nat->Prop} (a:ev σ x=.agg vs.toArray) (d:DR Z w t vs L) (e:∀x,Z x->¬L x) (c:∀x,Z x∨L x->n0<=x∧x<w.heap.size) :
 En Ak prog N ⟨dst,.buildSlice 23 1 #[(0,x)],ty,pos,af,g⟩ (MW n0 t) σ w:=by
 have b:=d;obtain ⟨sa,sc,aa,ac,rfl,_⟩:=d.form;have hn:=New.mk' w #[.int .i64 t.kind,.slice sa t.set.length sc,.slice aa t.args.length ac,.int .i64 t.mn,.int .i64 t.mx,.bool t.neg] Hj;refine Ba (CV (parts:=[(0,x)]) (ps:=[(0,.agg #[.int .i64 t.kind,.slice sa t.set.length sc,.slice aa t.args.length ac,.int .i64 t.mn,.int .i64 t.mx,.bool t.neg])]) (by simp only[List.map,a]) underlying23 AH A9 qD qD qK) hn.ext ?_;exact ⟨_,_,Z,L,O,hn.blk,DR.ext hn.ext t b,e,λx a=>⟨(c x a).1,Nat.lt_of_lt_of_le (c x a).2 hn.ext.size⟩⟩
theorem R8 {j z r:World} {base n1 b3:Nat} {v v':Value} {x:Re} {vs:List Value} {k:List Re} {rows:List (List Value)} {Z L i f:Nat->Prop}
 (s:BQ Z j k rows L) (E:DR i j x vs f) (p:∀y,Z y->¬L y) (d:∀y,Z y∨L y->base<=y∧y<n1) (g:∀q,v.ownBlock=some q->(¬Z q∧¬L q)∧(base<=q∧q<n1)) (t:∀y,i y->¬f y) (c:∀y,i y∨f y->n1<=y∧y<j.heap.size)
 (C:Chg (λy=>v.ownBlock=some y) j z) (F:∀q,v'.ownBlock=some q->v.ownBlock=some q∨j.heap.size<=q) (m:Chg (λy=>y=b3) z r) (hb3:b3<base) (hbn:base<=n1) (hnw:n1<=j.heap.size) :
 BQ (λy=>Z y∨i y) r (k++[x]) (rows++[vs]) (λy=>L y∨f y)∧(∀y,(Z y∨i y)->¬(L y∨f y))∧(∀y,(Z y∨i y)∨(L y∨f y)->base<=y∧y<r.heap.size)∧(∀q,v'.ownBlock=some q->¬(Z q∨i q)∧¬(L q∨f q)):=by
 have hs2:=C.size;have hs3:=m.size;have u:∀y,Z y->¬v.ownBlock=some y:=λy e h=>(g y h).1.1 e;have w:∀y,L y->¬v.ownBlock=some y:=λy e h=>(g y h).1.2 e;have l:∀y,i y->¬v.ownBlock=some y:=λy e h=>by have:=(g y h).2;have:=c y (.inl e);omega
 have YI:∀y,f y->¬v.ownBlock=some y:=λy e h=>by have:=(g y h).2;have:=c y (.inr e);omega
 have A:∀y,Z y->¬y=b3:=λy e h=>by have:=d y (.inl e);omega
 have H:∀y,L y->¬y=b3:=λy e h=>by have:=d y (.inr e);omega
 have n:∀y,i y->¬y=b3:=λy e h=>by have:=c y (.inl e);omega
 have o:∀y,f y->¬y=b3:=λy e h=>by have:=c y (.inr e);omega
 have G:=BQ.chg m A k H (BQ.chg C u k w s);have B:=DR.chg m n x o (DR.chg C l x YI E);refine ⟨BQ.snoc (DR.mono (λ_ h=>.inr h) x (λ_ h=>h) B) (BQ.mono (λ_ h=>.inl h) k (λ_ h=>h) G) (λy a b=>by have:=d y (.inr a);have:=c y (.inr b);omega),?_,?_,?_⟩
 .rintro y (a|a) (b|b)
  .exact p y a b
  .have:=d y (.inl a);have:=c y (.inr b);omega
  .have:=d y (.inr b);have:=c y (.inl a);omega
  .exact t y a b
 .rintro y ((a|a)|(a|a))
  .have:=d y (.inl a);omega
  .have:=c y (.inl a);omega
  .have:=d y (.inr a);omega
  .have:=c y (.inr a);omega
 .intro q D;rcases F q D with h|h
  .refine ⟨?_,?_⟩
   .rintro (a|a);exact u q a h;exact l q a h
   .rintro (a|a);exact w q a h;exact YI q a h
  .refine ⟨?_,?_⟩
   .rintro (a|a);have:=d q (.inl a);omega;have:=c q (.inl a);omega
   .rintro (a|a);have:=d q (.inr a);omega;have:=c q (.inr a);omega
theorem R9 {w:World} {base n0 sc j:Nat} {t:Re} {sa i:Option Addr} {rows:List (List Value)} {Z L r:Nat->Prop} (c:w.ownsRow base Hj 6 (.slice i t.args.length j) t.args.length rows.flatten) (n:BQ Z w t.args rows L)
 (l:BY r w 2 (.slice sa t.set.length sc) (t.set.map BK)) (p:∀x,Z x->¬L x) (f:∀x,Z x∨L x->base<=x∧x<w.heap.size) (m:∀q,(Value.slice i t.args.length j).ownBlock=some q->¬Z q∧¬L q) (g:∀x,r x->n0<=x∧x<base) (hn0:n0<=base) (hbs:base<=w.heap.size) :
 GR n0 t (.agg #[.int .i64 t.kind,.slice sa t.set.length sc,.slice i t.args.length j,.int .i64 t.mn,.int .i64 t.mx,.bool t.neg]) w:=by
 refine ⟨[.int .i64 t.kind,.slice sa t.set.length sc,.slice i t.args.length j,.int .i64 t.mn,.int .i64 t.mx,.bool t.neg],λx=>Z x∨r x,λx=>L x∨(Value.slice i t.args.length j).ownBlock=some x,O,?_,?_,?_⟩
 .have hlt:=c.lt;cases t with
  | mk k set args mn mx ng=>
  simp only[Re.kind,Re.set,Re.args,Re.mn,Re.mx,Re.neg] at *;simp only[DR];refine ⟨sa,sc,i,j,O,l.mono λ_ h=>.inr h,?_,?_⟩
  .rcases c.2 with ⟨e,o⟩|⟨q,cap,d,e,o,y,z,u,A,v⟩
   .simp at e;omega
   .simp only[Value.slice.injEq] at e;obtain ⟨_,_,rfl⟩:=e;simp only[maxLen] at u;exact ⟨z,qO⟩
  .rcases c.2 with ⟨e,o⟩|⟨q,cap,d,e,o,y,z,u,A,v⟩
   .exact .inl (List.eq_nil_of_length_eq_zero o)
   .simp only[Value.slice.injEq] at e;obtain ⟨rfl,_,rfl⟩:=e;refine .inr ⟨q,rows,d.toList.drop (args.length*6),L,.inr O,O,?_,BQ.six n,BQ.mono (λ_ h=>.inl h) args (λ_ h=>h) n,λx s=>⟨.inl s,λh=>?_⟩⟩
    .have:(rows.flatten++d.toList.drop (args.length*6)).toArray=d:=by rw[<-v,List.take_append_drop]
     rw[this];exact y
    .subst h;exact (m x O).2 s
 .rintro x (a|a) (b|b)
  .exact p x a b
  .exact (m x b).1 a
  .have:=g x a;have:=f x (.inr b);omega
  .have:=g x a;have:=c.lt x b;omega
 .rintro x ((a|a)|(a|a))
  .have:=f x (.inl a);omega
  .have:=g x a;omega
  .have:=f x (.inr a);omega
  .have:=c.lt x a;omega
theorem O3 {n0 n1:Nat} (h:n1<=n0) {t:Re} {v:Value} {w:World} (c:GR n0 t v w):GR n1 t v w:=by
 obtain ⟨vs,Z,L,d,e,f,b⟩:=c;exact ⟨vs,Z,L,d,e,f,λx a=>⟨Nat.le_trans h (b x a).1,(b x a).2⟩⟩
theorem R_ {n0 b:Nat} {t:Re} {v:Value} {w w':World} (c:Chg (λy=>y=b) w w') (hb:b<n0) (e:GR n0 t v w):GR n0 t v w':=by
 obtain ⟨vs,Z,L,g,i,f,d⟩:=e;exact ⟨vs,Z,L,g,DR.chg c (λx a h=>by have:=d x (.inl a);omega) t (λx a h=>by have:=d x (.inr a);omega) i,f,λx a=>⟨(d x a).1,Nat.lt_of_lt_of_le (d x a).2 c.size⟩⟩
theorem UU:∀(n:Nat) (t:Re) (w0:World) (vs:List Value),t.size≤n→t.size≤1000000→Ga t→A4 w0 t vs→
    Bi prog 75 #[.agg vs.toArray] w0 fun v w=>GR w0.heap.size t v w∧Ae w0 w:=by
  intro n
  induction n with
  | zero=>intro t w0 vs hn;have:=t.size_pos;omega
  | succ n ih=>
  intro t w0 vs hn hM bc ht;have b7:=ht;obtain ⟨sa,sc,aa,ac,rfl,bv,hac,_⟩:=ht.form;have hal:t.args.length≤t.size:=by
    have h1:=t.size_eq;have:∀ts:List Re,ts.length≤Re.sizes ts:=by
      intro ts
      induction ts with
      | nil=>simp
      | cons x xs ih=>have:=x.size_pos;simp only[List.length_cons,Re.sizes];omega
    have:=this t.args;omega
  refine qR func75 rfl ntmps75 rfl (fun E=>(AA (BL (v:=(.agg (R6 t sa sc aa ac))) (c:=(R6 t sa sc aa ac)) qD rfl rfl ?_)));intro br wr Nr;have Fr:=Nr.ge E;replace E:=E.ext Nr.ext;have Br:=Nr.blk;refine Bg (c:=#[(I6 0),(.slice none 0 0),(.slice none 0 0),(I6 0),(I6 0),(.bool false)]) qD A9 rfl ?_;intro bp wp Np;have Fp:=Np.ge E;have Op_br:=Np.lt Br;replace Br:=Np.keep Br;replace E:=E.ext Np.ext;have Bp:=Np.blk;refine AB (AA (qV (AK (vs:=[(I6 t.kind),(.slice sa t.set.length sc),(.slice aa t.args.length ac),(I6 t.mn),(I6 t.mx),(.bool t.neg)]) rfl Ad AH rfl (Br.cells rfl)) (As (v:=(.agg (R6 t sa sc aa ac))) (c:=(R6 t sa sc aa ac)) (n:=6) qD A9 rfl AH rfl rfl rfl qS ?_)));intro bq wq Nq;have Fq:=Nq.ge E;have Oq_br:=Nq.lt Br;have Oq_bp:=Nq.lt Bp;replace Br:=Nq.keep Br;replace Bp:=Nq.keep Bp;replace E:=E.ext Nq.ext;have Bq:=Nq.blk;refine AB (AA (qF br 0 1 rfl underlying25 rfl CM rfl (qV (AL rfl Cb (Br.cell rfl)) ?_)));obtain ⟨n3,bl⟩:∃n3,n3=wq.heap.size:=⟨_,rfl⟩;have hq3:=Bq.lt;refine qE rfl (AI func74 kQ kQ rfl) (Vv _ _ t.set (BR.ext bv E) (Pb bc)) ?_;rintro _ w9 ⟨ak,al,rfl,ab,X9⟩;replace Br:=X9.keep Br;replace Bp:=X9.keep Bp;replace Bq:=X9.keep Bq;replace E:=E.ext X9;obtain ⟨base,av⟩:∃base,base=w9.heap.size:=⟨_,rfl⟩;have hs9:=X9.size;rw[←av,←bl] at ab;have af:base≤w9.heap.size:=qO
  refine qF bq 0 1 rfl underlying25 rfl CM rfl (Bb (b:=bq) (o:=1) (c':=(R6 t ak al aa ac)) (v:=(.slice ak t.set.length al)) rfl rfl rfl CM Bq qP rfl ?_);intro w1 S1;replace af:=Nat.le_trans af S1.chg.size;replace ab:=BY.chg ab S1.chg (fun x hx hm=>by have bg:=hx;have ax:x=bq:=hm;omega);replace Br:=S1.keep qO Br;replace Bp:=S1.keep qO Bp;replace E:=S1.step E qQ;replace Bq:=S1.blk;refine qF bq 0 2 rfl underlying25 rfl CG rfl (Bb (b:=bq) (o:=2) (c':=#[(I6 t.kind),(.slice ak t.set.length al),(.slice none 0 0),(I6 t.mn),(I6 t.mx),(.bool t.neg)]) (v:=(.slice none 0 0)) rfl rfl rfl CG Bq qP rfl ?_);intro w2 S2;replace af:=Nat.le_trans af S2.chg.size;replace ab:=BY.chg ab S2.chg (fun x hx hm=>by have bg:=hx;have ax:x=bq:=hm;omega);replace Br:=S2.keep qO Br;replace Bp:=S2.keep qO Bp;replace E:=S2.step E qQ;replace Bq:=S2.blk;refine AB (AG (AA (qF br 0 2 rfl underlying25 rfl CG rfl (qV (AL rfl B0 (Br.cell rfl)) (qV (Aa underlying23 rfl) (qM _ rfl (AB (AU (Av (fun nn_ σ W3=>∃(k:Nat) (la:Option Addr) (lc:Nat) (aj:List (List Value)) (Z:Nat→Prop) (L:Nat→Prop),(∃jj_,σ=Bj jj_ [(2,(P6 bp 0)),(3,(P6 bq 0)),(13,(.slice aa t.args.length ac)),(14,(I6 (t.args.length:Int))),(15,(I6 (k:Int)))])∧Chg Ak w0 W3∧BH W3 br (R6 t sa sc aa ac) 25∧BH W3 bp #[(I6 0),(.slice none 0 0),(.slice none 0 0),(I6 0),(I6 0),(.bool false)] 25∧BH W3 bq (#[(I6 t.kind),(.slice ak t.set.length al),(.slice la k lc),(I6 t.mn),(I6 t.mx),(.bool t.neg)]) 25∧(k≤t.args.length)∧(W3.ownsRow base Hj 6 (.slice la k lc) k aj.flatten)∧(BQ Z W3 (t.args.take k) aj L)∧(∀x,Z x→¬L x)∧(∀x,Z x∨L x→base≤x∧x<W3.heap.size)∧(∀x,(Value.slice la k lc).ownBlock=some x→¬Z x∧¬L x)∧(base≤W3.heap.size)∧(BY (fun b=>n3≤b∧b<base) W3 2 (.slice ak t.set.length al) (t.set.map BK))∧nn_=t.args.length - k) (n:=t.args.length - 0) ?_ ?_)))))))))
  · exact ⟨0,none,0,[],(fun _=>False),(fun _=>False),Am.out ⟨rfl,rfl,rfl,rfl,rfl,trivial⟩,E,Br,Bp,Bq,Nat.zero_le _,World.ownsRow_nil _ _ _ _,(by simp only[List.take_zero,BQ]),(fun _ f _=>f),(by rintro x (f|f)<;>exact f.elim),(by simp[Value.ownBlock]),af,ab,rfl⟩
  · clear E Br Bp Bq;rintro _ _ W3 ⟨k,la,lc,aj,Z,L,⟨j3,rfl⟩,E,Br,Bp,Bq,hk,ad,am,bh,a4,bb,af,ab,rfl⟩;refine AA (qV (BE rfl rfl) (AB (AG (qC rfl (fun b1=>?_) (fun b1=>?_)))))
    · obtain ⟨x,hx⟩:=AX (l:=t.args) (i:=k) qO;obtain ⟨b,o,rfl,b0⟩:=(A4.rs b7).cells qO;obtain ⟨xs,b4,be⟩:=b0 k x hx;have az:=be;obtain ⟨ap,ar,au,aq,rfl,_,_,_⟩:=be.form;obtain ⟨nk,bu⟩:∃nk,nk=(W3).heap.size:=⟨_,rfl⟩;have ae:nk≤(W3).heap.size:=qO
      have ao:=ad.lt;rw[←bu] at a4 ao;refine AO (AC (AG (AU (AA (qV (AN (b:=b) (o:=o) (len:=t.args.length) (cap:=ac) (i:=k) (o':=o+k*6) rfl rfl rfl underlying23 AH qO qO) (qV (AK rfl Ad AH rfl (b4.ext E)) (As (v:=(.agg (R6 x ap ar au aq))) (c:=(R6 x ap ar au aq)) (n:=6) qD A9 rfl AH rfl rfl rfl qS ?_)))))));intro bs ws Ns;have Fs:=Ns.ge E;have Os_br:=Ns.lt Br;have Os_bp:=Ns.lt Bp;have Os_bq:=Ns.lt Bq;replace Br:=Ns.keep Br;replace Bp:=Ns.keep Bp;replace Bq:=Ns.keep Bq;replace ab:=BY.chg ab Ns.ext (fun _ _ f=>f);replace af:=Nat.le_trans af Ns.ext.size;replace ae:=Nat.le_trans ae Ns.ext.size;replace ad:=BG ad Ns.ext;replace am:=BQ.ext Ns.ext _ am;replace E:=E.ext Ns.ext;have Bs:=Ns.blk;refine AB ?_;obtain ⟨n1,a7⟩:∃n1,n1=ws.heap.size:=⟨_,rfl⟩;have bm:nk≤n1:=by rw[a7];exact ae
      have ag:n1≤ws.heap.size:=qO
      have ay:base≤n1:=by rw[a7];exact af
      obtain ⟨cb,ah⟩:∃Fs:List (FactT (Ak)),Fs=[.eq (P6 bq 2),.eq (.slice la k lc),.eq (.agg (R6 x ap ar au aq)),.gen (GR n1 x) (GQ n1 x),.gen (MW n1 x) (JQ n1 x)]:=⟨_,rfl⟩;refine NP (Ak) 5 3 [19,20,21,22,23] [[],[0],[],[2],[3]] cb ah rfl mixed qK qK qK ?_ ?_
      · intro wd X0;refine DagStepsT.cons (fun s' w' X U H=>?_) ?_
        · exact Ba (AY (U 3 rfl) underlying25 rfl CG rfl) (Chg.refl _ _) rfl
        refine DagStepsT.cons (fun s' w' X U H=>?_) ?_
        · have b8:s' 19=(.pointer (some ⟨bq,2,none⟩)):=H 0 rfl 19 (.eq (.pointer (some ⟨bq,2,none⟩))) rfl (by rw[ah];rfl);exact Ba (AL b8 B0 ((Chg.keep X (fun f=>f) (X0.keep Bq)).cell rfl)) (Chg.refl _ _) rfl
        refine DagStepsT.cons (fun s' w' X U H=>?_) ?_
        · exact Ba (AK (U 5 rfl) Ad AH rfl ((Chg.keep X (fun f=>f) (X0.keep Bs)).cells rfl)) (Chg.refl _ _) rfl
        refine DagStepsT.cons (fun s' w' X U H=>?_) ?_
        · have bt:s' 21=(.agg #[(.int .i64 x.kind),(.slice ap x.set.length ar),(.slice au x.args.length aq),(.int .i64 x.mn),(.int .i64 x.mx),(.bool x.neg)]):=H 2 rfl 21 (.eq (.agg #[(.int .i64 x.kind),(.slice ap x.set.length ar),(.slice au x.args.length aq),(.int .i64 x.mn),(.int .i64 x.mx),(.bool x.neg)])) rfl (by rw[ah];rfl);exact HK (AI func75 kQ kQ (G9 bt)) ((ih x _ _ (by have:=Re.size_arg hx;omega) (by have:=Re.size_arg hx;omega) (Pc bc hx) (A4.ext ((Ae.trans E X0).trans X) x az)).mono (fun v w2 h=>⟨O3 (by have:=X0.size;have:=X.size;omega) h.1,h.2⟩))
        refine DagStepsT.cons (fun s' w' X U H=>?_) ?_
        · obtain ⟨bo,bi,bj,a6,bf,ba,a8⟩:=(show (.gen (GR n1 x) (GQ n1 x):FactT (Ak)).In (s' 22) w' from H 3 rfl 22 (.gen (GR n1 x) (GQ n1 x)) rfl (by rw[ah];rfl));exact (SM a6 bf ba a8)
        exact DagStepsT.nil
      · intro s' wd5 w5 X0 X5 U H;have b9:s' 20=(.slice la k lc):=H 1 20 (.eq (.slice la k lc)) rfl (by rw[ah];rfl);obtain ⟨bo,bi,bj,a6,bf,ba,a8⟩:=(show (.gen (GR n1 x) (GQ n1 x):FactT (Ak)).In (s' 22) w5 from H 3 22 (.gen (GR n1 x) (GQ n1 x)) rfl (by rw[ah];rfl));obtain ⟨b5,a9,bk,bx,bw,b6,aw,bz,ca⟩:=(show (.gen (MW n1 x) (JQ n1 x):FactT (Ak)).In (s' 23) w5 from H 4 23 (.gen (MW n1 x) (JQ n1 x)) rfl (by rw[ah];rfl));obtain ⟨j5,rfl⟩:=Am.out (σ:=s') (l:=[(2,(.pointer (some ⟨bp,0,none⟩))),(3,(.pointer (some ⟨bq,0,none⟩))),(13,(.slice (some ⟨b,o,none⟩) t.args.length ac)),(14,(.int .i64 ((t.args.length:Nat):Int))),(15,(.int .i64 ((k:Nat):Int))),(20,(.slice la k lc)),(23,(.slice (some ⟨b5,0,none⟩) 1 1))]) ⟨U 2 rfl,U 3 rfl,U 13 rfl,U 14 rfl,U 15 rfl,b9,bw,trivial⟩;clear U H;replace Br:=Chg.keep X5 (fun f=>f) (X0.keep Br);replace Bp:=Chg.keep X5 (fun f=>f) (X0.keep Bp);replace Bq:=Chg.keep X5 (fun f=>f) (X0.keep Bq);replace Bs:=Chg.keep X5 (fun f=>f) (X0.keep Bs);replace ab:=BY.chg ab X0 (fun _ _ f=>f);replace ab:=BY.chg ab X5 (fun _ _ f=>f);replace af:=Nat.le_trans af X0.size;replace af:=Nat.le_trans af X5.size;replace ae:=Nat.le_trans ae X0.size;replace ae:=Nat.le_trans ae X5.size;replace ad:=BG ad X0;replace ad:=BG ad X5;replace am:=BQ.ext X0 _ am;replace am:=BQ.ext X5 _ am;replace ag:=Nat.le_trans ag X0.size;replace ag:=Nat.le_trans ag X5.size;replace E:=(E.ext X0).step X5 (fun _ _ f=>f.elim);refine CQ (base:=base) (n:=k) (m:=1) (xs:=aj.flatten) (news:=a9) (size:=6) (bytes:=80) (v:=(.slice la k lc)) qD underlying23 AH LC A9 rfl qD rfl ad rfl (by rw[aw.len]) (b6.cells qP) (aw.one) (by unfold maxLen;omega) qO (af) ?_;intro v9 bd a5 an b2;replace Br:=an.keep (fun h=>by have:=(ad.lt _ h).1;omega) Br;replace Bp:=an.keep (fun h=>by have:=(ad.lt _ h).1;omega) Bp;replace Bq:=an.keep (fun h=>by have:=(ad.lt _ h).1;omega) Bq;replace E:=E.step an (fun x hx h=>absurd (ad.lt x h).1 qO);obtain ⟨a1,a0,rfl⟩:=Be a5;have a2:Chg (fun y=>y=bq) bd bd:=Chg.refl _ _;replace ab:=BY.chg ab an (fun y hy hm=>by have:=(ad.lt y hm).1;have hy':=hy;omega);replace af:=Nat.le_trans af an.size;refine qF bq 0 2 rfl underlying25 rfl CG rfl (Bb (b:=bq) (o:=2) (c':=#[(I6 t.kind),(.slice ak t.set.length al),(.slice a1 (k+1) a0),(I6 t.mn),(I6 t.mx),(.bool t.neg)]) (v:=(.slice a1 (k+1) a0)) rfl rfl rfl CG Bq qP rfl ?_);intro w6 S6;replace af:=Nat.le_trans af S6.chg.size;replace ab:=BY.chg ab S6.chg (fun x hx hm=>by have bg:=hx;have ax:x=bq:=hm;omega);replace a2:=S6.chg;replace Br:=S6.keep qO Br;replace Bp:=S6.keep qO Bp;replace E:=S6.step E qQ;replace Bq:=S6.blk;refine AB (AQ (AC (AR (qV (Ax rfl rfl (A8 qO)) (qM _ rfl (AB (AC ?_)))))));have ai:=R8 (base:=base) (n1:=n1) (b3:=bq) am aw bh (fun y hy=>by have:=a4 y hy;omega) (fun q hq=>⟨bb q hq,by have:=ao q hq;omega⟩) bz ca an b2 a2 qO ay ag;exact ⟨t.args.length - (k+1),qO,k+1,a1,a0,aj++[a9],(fun y=>Z y∨bk y),(fun y=>L y∨bx y),Am.out ⟨rfl,rfl,rfl,rfl,rfl,trivial⟩,E,Br,Bp,Bq,qO,(by have h:=Co a5 a2 (fun q hq hm=>by have:=(a5.lt q hq).1;have ax:q=bq:=hm;omega);simpa using h),(by rw[List.take_add_one,hx];exact ai.1),ai.2.1,ai.2.2.1,ai.2.2.2,af,ab,rfl⟩
    · have bn:k=t.args.length:=qO
      subst bn;rw[List.take_length] at am;have a3:=R9 (n0:=n3) ad am ab bh a4 bb (fun x h=>h) qO af;refine Aw (AZ (AZ (Ap (AC (AA (qV (AK (vs:=[(I6 t.kind),(.slice ak t.set.length al),(.slice la t.args.length lc),(I6 t.mn),(I6 t.mx),(.bool t.neg)]) rfl Ad AH rfl (Bq.cells rfl)) (Ab (b:=bp) (o:=0) (c':=(R6 t ak al la lc)) rfl rfl qS AH rfl Bp qL rfl ?_)))))));intro w7 S7;replace a3:=R_ S7.chg qO a3;replace Br:=S7.keep qO Br;replace Bq:=S7.keep qO Bq;replace E:=S7.step E qQ;replace Bp:=S7.blk;refine AB (AJ (A1 results75 (vs:=[(.int .i64 t.kind),(.slice ak t.set.length al),(.slice la t.args.length lc),(.int .i64 t.mn),(.int .i64 t.mx),(.bool t.neg)]) (b:=bp) rfl Ad AH rfl (Bp.cells rfl) ?_));exact ⟨O3 qO a3,E⟩
end Go.Proofs
namespace Go.Proofs
open Go Go.Eng
set_option maxRecDepth 100000
def Ao (S:Nat->Prop) (w:World):List Re->List (List Value)->Prop
  | [],rows=>rows=[]
  | t::ts,rows=>∃r rs,rows=r::rs∧AS S w t r∧Ao S w ts rs
theorem Ao.ext {S:Nat->Prop} {w w':World} (e:Ae w w'):∀{a:List Re} {rows:List (List Value)},Ao S w a rows->Ao S w' a rows
 | [],_,h=>h
 | t::a,rows,h=>by
  obtain ⟨r,d,b,c,f⟩:=h;exact ⟨r,d,b,AS.ext e t c,Ao.ext e f⟩
theorem Ao.len {S:Nat->Prop} {w:World}:∀{a:List Re} {rows:List (List Value)},Ao S w a rows->rows.length=a.length
 | [],_,h=>by simp only[Ao] at h;subst h;rfl
 | t::a,rows,h=>by
  obtain ⟨r,rs,rfl,_,b⟩:=h;simp[Ao.len b]
theorem Ao.six {S:Nat->Prop} {w:World}:∀{b:List Re} {rows:List (List Value)},Ao S w b rows->∀r∈rows,r.length=6
 | [],_,h=>by simp only[Ao] at h;subst h;simp
 | t::b,rows,h=>by
  obtain ⟨r,rs,rfl,c,d⟩:=h;intro q a;rcases List.mem_cons.1 a with rfl|a
  .exact c.len
  .exact Ao.six d q a
theorem Ao.one {S:Nat->Prop} {w:World}:∀{b:List Re} {rows:List (List Value)},Ao S w b rows->∀u∈rows.flatten,u.oneCell'=true
 | [],_,h=>by simp only[Ao] at h;subst h;simp
 | t::b,rows,h=>by
  obtain ⟨r,rs,rfl,c,d⟩:=h;intro u a;rw[List.flatten_cons,List.mem_append] at a;rcases a with a|a
  .exact A4.one (AS.at t c) u a
  .exact Ao.one d u a
theorem Ao.get {S:Nat->Prop} {w:World}:∀{a:List Re} {rows:List (List Value)},Ao S w a rows->∀{i:Nat} {t:Re},a[i]?=some t->∃r,rows[i]?=some r∧AS S w t r
 | [],_,_,i,t,hi=>by simp at hi
 | t::a,rows,h,i,u,hi=>by
  obtain ⟨r,rs,rfl,b,d⟩:=h;cases i with
  | zero=>simp at hi;subst hi;exact ⟨r,O,b⟩
  | succ i=>simp at hi;obtain ⟨q,e,c⟩:=Ao.get d hi;exact ⟨q,by simpa using e,c⟩
theorem Ao.append {S:Nat->Prop} {w:World} {us:List Re} {a:List (List Value)} (c:Ao S w us a):∀{b:List Re} {rows:List (List Value)},Ao S w b rows->Ao S w (b++us) (rows++a)
 | [],_,h=>by simp only[Ao] at h;subst h;simpa using c
 | t::b,rows,h=>by
  obtain ⟨r,e,rfl,d,f⟩:=h;exact ⟨r,e++a,O,d,Ao.append c f⟩
theorem Ao.single {S:Nat->Prop} {w:World} {t:Re} {r:List Value} (h:AS S w t r):Ao S w [t] [r]:=⟨r,[],O,h,O⟩
theorem A5.rows {S:Nat->Prop} {w:World} {b:Nat}:∀{c:List Re} {o:Nat},A5 S w b o c->∃rows,Ao S w c rows∧BA w b o rows.flatten
 | [],_,_=>⟨[],O,λi v a=>by simp at a⟩
 | t::c,o,h=>by
  simp only[A5] at h;obtain ⟨⟨vs,e,d⟩,g⟩:=h;obtain ⟨rows,j,f⟩:=A5.rows g;refine ⟨vs::rows,⟨vs,rows,O,d,j⟩,λi v a=>?_⟩;have hl:=d.len;rw[List.flatten_cons] at a;rcases Nat.lt_or_ge i 6 with hi|hi
  .rw[List.getElem?_append_left qO] at a;exact e i v a
  .rw[List.getElem?_append_right qO] at a;have:=f (i - vs.length) v a
   rwa [show o+6+(i - vs.length)=o+i from qO] at this
def DH (S:Nat->Prop) (w:World) (v:Value) (ts:List Re):Prop:=∃aa ac,v=.slice aa ts.length ac∧(ts.length<=ac∧ac<=9223372036854775807)∧(ts=[]∨∃b o,S b∧aa=some ⟨b,o,none⟩∧A5 S w b o ts)
theorem DH.cells {S:Nat->Prop} {w:World} {aa:Option Addr} {n ac:Nat} {a:List Re} (h:DH S w (.slice aa n ac) a) (hn:0<n):∃b o,aa=some ⟨b,o,none⟩∧∀i t,a[i]?=some t->∃vs,BA w b (o+i*6) vs∧AS S w t vs:=by
 obtain ⟨aa',ac',c,h2,f⟩:=h;simp only[Value.slice.injEq] at c;obtain ⟨rfl,rfl,rfl⟩:=c;rcases f with rfl|⟨b,o,_,g,e⟩
 .simp at hn
 .exact ⟨b,o,g,λi t d=>A5.get e d⟩
theorem HT {S:Nat->Prop} {w:World} {base n:Nat} {a:Option Addr} {c:Nat} {f:List Re} {rows:List (List Value)} (h:w.ownsRow base Hj 6 (.slice a n c) n rows.flatten) (j:Ao S w f rows) (hn:f.length=n):(n<=c∧c<=9223372036854775807)∧(f=[]∨∃b,base<=b∧b<w.heap.size∧a=some ⟨b,0,none⟩∧∀i t,f[i]?=some t->∃vs,BA w b (0+i*6) vs∧AS S w t vs):=by
 rcases h.2 with ⟨e,k⟩|⟨g,cap,d,e,k,q,s,p,h6,o⟩
 .simp only[Value.slice.injEq] at e;obtain ⟨rfl,rfl,rfl⟩:=e;exact ⟨qP,.inl (List.eq_nil_of_length_eq_zero hn)⟩
 .simp only[Value.slice.injEq] at e;obtain ⟨rfl,_,rfl⟩:=e;simp only[maxLen] at p;refine ⟨⟨s,qO⟩,.inr ⟨g,k,(h.lt g O).2,O,λi t m=>?_⟩⟩;obtain ⟨r,u,l⟩:=j.get m;have hb:BH w g (rows.flatten++d.toList.drop (n*6)).toArray Hj:=by
   have:(rows.flatten++d.toList.drop (n*6)).toArray=d:=by rw[<-o,List.take_append_drop]
   rw[this];exact q
  exact ⟨r,by rw[Nat.zero_add];exact Gc hb j.six u,l⟩
theorem TM {S:Nat->Prop} {w:World} {base n:Nat} {a:Option Addr} {c:Nat} {d:List Re} {rows:List (List Value)} (h:w.ownsRow base Hj 6 (.slice a n c) n rows.flatten) (g:Ao S w d rows) (hn:d.length=n):G1 w (.slice a n c) d:=by
 obtain ⟨m,o⟩:=HT h g hn;refine ⟨a,c,by rw[hn],by rw[hn];exact m,?_⟩;rcases o with h|⟨b,_,_,k,j⟩
 .exact .inl h
 .exact .inr ⟨b,0,k,CB.mk λi t e=>by obtain ⟨vs,l,f⟩:=j i t e;exact ⟨vs,l,AS.at t f⟩⟩
theorem GG:∀a:List Re,a.length<=Re.sizes a
 | []=>qP
 | x::xs=>by have:=x.size_pos;have:=GG xs;simp only[List.length_cons,Re.sizes];omega
theorem R5 (k:Int) (a:List Re) (x:Re):BI k (a++[x])=BI k a++(if x.kind=k then x.args else [x]):=by simp[BI]
theorem R4 {k:Int} {a:List Re} {j:Nat} {x:Re} (b:a[j]?=some x):BI k (a.take (j+1))=BI k (a.take j)++(if x.kind=k then x.args else [x]):=by
 rw[List.take_add_one,b];exact R5 k _ x
theorem NG (k:Int) (a:List Re) (j:Nat):(BI k (a.take j)).length<=Re.sizes a:=by
 have h1:=GG (BI k (a.take j));have h2:=GZ k (a.take j);have h3:Re.sizes a=Re.sizes (a.take j)+Re.sizes (a.drop j):=by rw[<-Re.sizes_append,List.take_append_drop]
 omega
theorem UC (G:World) (S:Nat->Prop) (k:Int) (v:Value) (e:List Re) (h:DH S G v e) (ab:∀x∈e,x.kind=k->x.args≠[]) (hsz:Re.sizes e<=1000000) :
 Bi prog 166 #[.int .i64 k,v] G λr w=>∃A F rows,r=.slice A (BI k e).length F∧w.ownsRow G.heap.size Hj 6 r (BI k e).length rows.flatten∧Ao S G (BI k e) rows∧Ae G w:=by
 have h0:=h;obtain ⟨aa,ac,rfl,hac,_⟩:=h;have hls:=GG e;obtain ⟨base,J⟩:∃base,base=G.heap.size:=⟨_,O⟩;refine qR func166 O ntmps166 O (λE=>(AA (qA _ O (AB (AA (qA _ O (AB (AG (AA (qM _ O (qV (Aa underlying23 O) (qM _ O (AB (AU (Av (λnn_ σ Q=>∃(j:Nat) (A:Option Addr) (F:Nat) (m:Nat) (rows:List (List Value)),(∃jj_,σ=Bj jj_ [(0,(I6 k)),(8,(.slice aa e.length ac)),(9,(I6 (e.length:Int))),(10,(I6 (j:Int))),(5,(.slice A m F))])∧Chg Ak G Q∧(j<=e.length)∧(Q.ownsRow base Hj 6 (.slice A m F) m rows.flatten)∧(m=(BI k (e.take j)).length)∧(Ao S G (BI k (e.take j)) rows)∧(base<=Q.heap.size)∧nn_=e.length - j) (n:=e.length - 0) ?_ ?_)))))))))))))))
 .exact ⟨0,none,0,0,[],Am.out ⟨O,O,O,O,O,trivial⟩,E,Nat.zero_le _,World.ownsRow_nil _ _ _ _,O,O,qO,O⟩
 .clear E;rintro _ _ Q ⟨j,A,F,m,rows,⟨j1,rfl⟩,E,hj,a,T,C,s,rfl⟩;refine AA (qV (BE O O) (AB (AG (qC O (λX=>?_) (λX=>?_)))))
  .obtain ⟨x,K⟩:=AX (l:=e) (i:=j) qO;obtain ⟨b,o,rfl,W⟩:=h0.cells qO;obtain ⟨xs,M,P⟩:=W j x K;have L:=P;obtain ⟨f,p,t,g,rfl,_,_,ah⟩:=P.form;have q:=R4 (k:=k) K;have D:=NG k e (j+1);rcases Bool.eq_false_or_eq_true (decide ((x.kind:Int)=k)) with z|z
   .have d:=z;replace d:=of_decide_eq_true d;rw[if_pos d] at q;obtain ⟨xb,xo,_,rfl,ag⟩:=ah.resolve_left (ab x (List.mem_of_getElem? K) d);obtain ⟨qs,B,af⟩:=A5.rows ag;rw[q,List.length_append] at D;refine AO (AC (AG (AU (AA (qV (AN (b:=b) (o:=o) (len:=e.length) (cap:=ac) (i:=j) (o':=o+j*6) O O O underlying23 AH qO qO) (qV (AK O Ad AH O (M.ext E)) (As (v:=(.agg (R6 x f p (some ⟨xb,xo,none⟩) g))) (c:=(R6 x f p (some ⟨xb,xo,none⟩) g)) (n:=6) qD A9 O AH O O O qS ?_)))))));intro b3 w3 R;replace a:=BG a R.ext;replace s:=Nat.le_trans s R.ext.size;replace E:=E.ext R.ext;have B3:=R.blk;refine AB (AA (qF b3 0 0 O underlying25 O Ay O (qV (AL O Al (B3.cell O)) (qM _ O (qV (Aj O O) (AB (Az (BC z) (AR (qM _ O (qF b3 0 2 O underlying25 O CG O (qV (AL O B0 (B3.cell O)) (CQ (base:=base) (n:=m) (m:=x.args.length) (xs:=rows.flatten) (news:=qs.flatten) (size:=6) (bytes:=80) (v:=(.slice A m F)) qD underlying23 AH LC A9 O qD O a O (by rw[CW B.six,B.len]) (af.ext E) (B.one) (by unfold maxLen;omega) qO (s) ?_))))))))))));intro v9 ae y u Z;replace E:=E.step u (λx K h=>absurd (a.lt x h).1 qO);obtain ⟨I,H,rfl⟩:=Be y;refine qA _ O (AB (AQ (AC (AR (qV (Ax O O (A8 qO)) (qM _ O (AB (AC ?_))))))));exact ⟨e.length - (j+1),qO,j+1,I,H,m+x.args.length,rows++qs,Am.out ⟨O,O,O,O,O,trivial⟩,E,qO,(by simpa using y),(by rw[q,List.length_append,T]),(by rw[q];exact Ao.append B C),Nat.le_trans s u.size,O⟩
   .have d:=z;replace d:=of_decide_eq_false d;rw[if_neg d] at q;rw[q,List.length_append] at D;refine AO (AC (AG (AU (AA (qV (AN (b:=b) (o:=o) (len:=e.length) (cap:=ac) (i:=j) (o':=o+j*6) O O O underlying23 AH qO qO) (qV (AK O Ad AH O (M.ext E)) (As (v:=(.agg (R6 x f p t g))) (c:=(R6 x f p t g)) (n:=6) qD A9 O AH O O O qS ?_)))))));intro b4 w4 U;replace E:=E.ext U.ext;have V:=U.blk;refine AB (AA (qF b4 0 0 O underlying25 O Ay O (qV (AL O Al (V.cell O)) (qM _ O (qV (Aj O O) (AB (Ah (BC z) (AR (qM _ O (qV (AK (vs:=[(I6 x.kind),(.slice f x.set.length p),(.slice t x.args.length g),(I6 x.mn),(I6 x.mx),(.bool x.neg)]) O Ad AH O (V.cells O)) (A3 (ps:=[(0,(.agg (R6 x f p t g)))]) (c:=(R6 x f p t g)) qD O underlying23 AH A9 qD qD qK ?_)))))))))));intro b5 w5 N;replace V:=N.keep V;replace a:=BG (BG a U.ext) N.ext;replace s:=Nat.le_trans (Nat.le_trans s U.ext.size) N.ext.size;replace E:=E.ext N.ext;have B5:=N.blk;refine CQ (base:=base) (n:=m) (m:=1) (xs:=rows.flatten) (news:=[(I6 x.kind),(.slice f x.set.length p),(.slice t x.args.length g),(I6 x.mn),(I6 x.mx),(.bool x.neg)]) (size:=6) (bytes:=80) (v:=(.slice A m F)) qD underlying23 AH LC A9 O qD O a O (O) (B5.cells O) qS (by simp at D;unfold maxLen;omega) (by simp at D;omega) (s) ?_;intro v9 ae y u Z;replace E:=E.step u (λx K h=>absurd (a.lt x h).1 qO);obtain ⟨I,H,rfl⟩:=Be y;refine qA _ O (AB (AQ (AC (AR (qV (Ax O O (A8 qO)) (qM _ O (AB (AC ?_))))))));exact ⟨e.length - (j+1),qO,j+1,I,H,m+1,rows++[[.int .i64 x.kind,.slice f x.set.length p,.slice t x.args.length g,.int .i64 x.mn,.int .i64 x.mx,.bool x.neg]],Am.out ⟨O,O,O,O,O,trivial⟩,E,qO,(by simpa using y),(by rw[q,List.length_append,T];rfl),(by rw[q];exact Ao.append (Ao.single L) C),Nat.le_trans s u.size,O⟩
  .have ad:j=e.length:=qO
   refine Aw (AZ (AZ (Ap (AC (AA (qM _ O (qA _ O (AB (AJ (AV results166 (v:=(.slice A m F)) O ?_))))))))));rw[ad,List.take_length] at C T;subst T;subst J;exact ⟨A,F,rows,O,a,C,E⟩
end Go.Proofs
namespace Go.Proofs
open Go Go.Eng
set_option maxRecDepth 100000
theorem NX {m:Nat}:∀v∈(Builtin.zeroCells (Value.cells (.agg #[(.int .i64 0),(.slice none 0 0),(.slice none 0 0),(.int .i64 0),(.int .i64 0),(.bool false)])) m).toList,v.oneCell'=true:=by
 intro v a;simp only[Builtin.zeroCells,Value.cells,Array.toList_map,List.mem_map] at a;obtain ⟨i,_,rfl⟩:=a;have h:i % 6<6:=Nat.mod_lt _ qD;show (#[(Value.int .i64 0),(.slice none 0 0),(.slice none 0 0),(.int .i64 0),(.int .i64 0),(.bool false)][i % 6]!).oneCell'=true;generalize i % 6=q at h
 match q,h with
 | 0,_=>rfl
 | 1,_=>rfl
 | 2,_=>rfl
 | 3,_=>rfl
 | 4,_=>rfl
 | 5,_=>rfl
theorem Ui {P:Program} {N:Nat} {Q:Dn} {σ:CC} {w:World} {K:CC->World->Prop} {ops:Array Oper} {rest:List Oper} {o:Oper} (g:o.guard=none) (hd:o.dst=none) {v:Value} {w':World}
 (c:(execOp (ev σ) o).run P w=.ok (.value v) w') (k:DT P N ops K Q rest σ w'):DT P N ops K Q (o::rest) σ w:=by
 intro d a e b;refine wpList_plain g λK' f=>?_;unfold Oper.wp;rw[DK,b,c];simp only[Oper.upon,hd];exact f _ _ (k d a e b)
theorem QX {P:Program} {N:Nat} {Q:Dn} {σ:CC} {w:World} {K:CC->World->Prop} {ops:Array Oper} {rest:List Oper} {ty:TypeId} {pos:String} {af:Array Edge} {t e:TypeId} {x:Operand} {b o m cc:Nat} {c c':Array Value} {z:Value} (l:P.underlying t=some (.slice e)) (p:Ex P e z) (i:ev σ x=.slice (some ⟨b,o,none⟩) m cc) (hm:0<m) (f:BH w b c e) (n:∀v∈(Builtin.zeroCells z.cells m).toList,v.oneCell'=true)
 (j:o+m*z.cells.size<=c.size) (h:(c.toList.take o++(Builtin.zeroCells z.cells m).toList++c.toList.drop (o+m*z.cells.size)).toArray=c')
 (k:∀w',Put w w' b c' e->DT P N ops K Q rest σ w'):DT P N ops K Q (⟨none,.call ⟨.builtin .clear,#[x],#[t]⟩,ty,pos,af,none⟩::rest) σ w:=by
 subst h;have d:(Builtin.zeroCells z.cells m).toList.length=m*z.cells.size:=by simp[Builtin.zeroCells]
 have a:=run_storeCells_at P b o e (Builtin.zeroCells z.cells m).toList 0 c w f (by rw[d];simpa using j) n;simp only[Nat.add_zero,d] at a;refine Ui (v:=.tuple #[]) (w':=w.setRow b _) O O ?_ (k _ (Put.of_setRow f _));obtain ⟨g,rfl⟩:∃g,m=g+1:=⟨m - 1,qO⟩;simp[execOp,resolve,invoke,builtin,Builtin.clear_,i,run_underlying l,p.run,a]
theorem T5 {α:Type} {p:α->Bool} {l:List α} (h:IA p l = -1):l.filter (λx=>!p x)=l:=by
 have b:=Ha p l;rw[h] at b;have a:l.any p=false:=by rw[<-b];decide
 rw[List.filter_eq_self];rw[List.any_eq_false] at a;intro x c;simp[a x c]
theorem T4 {α:Type} {p:α->Bool} {l:List α} (h:IA p l≠-1):∃i:Nat,IA p l=(i:Int)∧i<l.length∧(l.take (i+1)).filter (λx=>!p x)=l.take i:=by
 unfold IA at h⊢;cases hf:l.findIdx? p with
 | none=>rw[hf] at h;exact absurd O h
 | some i=>
  rw[List.findIdx?_eq_some_iff_getElem] at hf;obtain ⟨hi,e,a⟩:=hf;refine ⟨i,O,hi,?_⟩;have d:(l.take i).filter (λx=>!p x)=l.take i:=by
   rw[List.filter_eq_self];intro x b;obtain ⟨j,c,rfl⟩:=List.getElem_of_mem b;simp at c;have:=a j qO;simpa using this
  rw[List.take_add_one,List.getElem?_eq_getElem hi,List.filter_append,d];simp[e]
theorem Ox {α:Type} {p:α->Bool} {l:List α} {j:Nat} {x:α} (a:l[j]?=some x):(l.take (j+1)).filter (λx=>!p x)=(l.take j).filter (λx=>!p x)++(if p x then [] else [x]):=by
 rw[List.take_add_one,a,List.filter_append];congr 1;cases hp:p x<;>simp[hp]
theorem K6 {α:Type} {l m:List α} {j:Nat} (h:l.drop j=m.drop j) {i:Nat} (hi:j<=i):l[i]?=m[i]?:=by
 have:=congrArg (λq=>q[i - j]?) h;simp only[List.getElem?_drop] at this
 rwa [show j+(i - j)=i from qO] at this
theorem Ao.take {S:Nat->Prop} {w:World}:∀{a:List Re} {rows:List (List Value)} (i:Nat),Ao S w a rows->Ao S w (a.take i) (rows.take i)
 | [],_,i,h=>by simp only[Ao] at h;subst h;cases i<;>rfl
 | t::a,rows,0,h=>rfl
 | t::a,rows,i+1,h=>by
  obtain ⟨r,c,rfl,b,d⟩:=h;exact ⟨r,c.take i,O,b,Ao.take i d⟩
theorem WI (wb w0:World) (base:Nat) (S:Nat→Prop) (v fv:Value) (ts:List Re) (rows:List (List Value)) (p:Re→Bool) (hE:Ae wb w0) (hown:w0.ownsRow base Hj 6 v ts.length rows.flatten) (hr:Ao S wb ts rows) (hS:∀x,S x→x<base) (hlen:ts.length≤1000000)
  (hf:∀(w:World) (x:Re) (vs:List Value),x∈ts→A4 w x vs→Bh prog fv #[.agg vs.toArray] w fun r w'=>r=.bool (p x)∧Ae w w') :
  Bi prog 165 #[v,fv] w0 fun r w=>∃la lc rows',r=.slice la (ts.filter fun x=>!p x).length lc∧w.ownsRow base Hj 6 r (ts.filter fun x=>!p x).length rows'.flatten∧Ao S wb (ts.filter fun x=>!p x) rows'∧Chg (fun x=>base≤x) w0 w:=by
 have af:=hown;obtain ⟨a,c,rfl⟩:=Be hown;obtain ⟨q,hq⟩:∃q:Int,q=IA p ts:=⟨_,rfl⟩;have bg:G1 w0 (.slice a ts.length c) ts:=TM af (hr.ext hE) rfl;refine EY func165 rfl ntmps165 (Qo rfl) ?_;have E:Chg (fun x=>base≤x) w0 w0:=Chg.refl _ _;refine AA (qA _ rfl (AB (AA (qM _ rfl (qM _ rfl (qE rfl (AI func169 kQ kQ rfl) ((I3 _ _ fv ts p bg (fun w x vs _ hm hx=>hf w x vs hm hx)).mono (R':=fun r w=>r=.int .i64 q∧Ae w0 w) (by rintro v w ⟨rfl,h⟩;exact ⟨by rw[hq],h⟩)) ?_))))));rintro _ w9 ⟨rfl,X9⟩;replace E:=E.ext X9;refine qA _ rfl (AB (AG (AA (qM _ rfl (qV (Aj rfl rfl) (AB (qC rfl (fun h1=>?_) (fun h1=>?_))))))))
 ·have bn:(ts.filter fun x=>!p x)=ts:=T5 (by rw[←hq];exact h1);refine AA (qM _ rfl (qA _ rfl (AB (AJ (AP (AV results165 (v:=(.slice a ts.length c)) rfl ?_))))));rw[bn];exact ⟨a,c,rows,rfl,BG af X9,hr,E⟩
 ·obtain ⟨i0,bb,bh,am⟩:=T4 (p:=p) (l:=ts) (by rw[←hq];exact h1);obtain rfl:q=((i0:Nat):Int):=by rw[hq,bb]
  rcases af.2 with ⟨_,be⟩|⟨g,cap,a0,a2,bm,a9,a8,al,ak,ai⟩
  ·omega
  simp only[Value.slice.injEq] at a2;obtain ⟨rfl,_,rfl⟩:=a2;obtain ⟨rest,ah⟩:∃rest,rest=a0.toList.drop (ts.length*6):=⟨_,rfl⟩;have ab:BH w9 g (rows.flatten++rest).toArray Hj:=X9.keep (by rw[ah,←ai,List.take_append_drop];exact a9);have ax:(rows.flatten++rest).length=c*6:=by rw[ah,←ai,List.take_append_drop];simpa using ak
  have a4:=hr.len;have a5:=hr.six;have av:rest.length=c*6 - ts.length*6:=by rw[List.length_append,CW a5,a4] at ax;omega
  refine AO (AC (AG (AA (qM _ rfl (qV (Ax rfl rfl (A8 qO)) (qA _ rfl (AB (AU (Av (fun nn_ σ W2=>∃(j:Nat) (i:Nat) (ad:List (List Value)),(∃jj_,σ=Bj jj_ [(0,(.slice (some ⟨g,0,none⟩) ts.length c)),(1,fv),(6,(I6 (j:Int))),(5,(I6 (i:Int)))])∧Chg (fun x=>base≤x) w0 W2∧BH W2 g ((ad.flatten++rest).toArray) Hj∧(i<j∧j≤ts.length)∧(ad.length=ts.length)∧(∀r∈ad,r.length=6)∧(ad.drop j=rows.drop j)∧(Ao S wb ((ts.take j).filter fun x=>!p x) (ad.take i))∧(i=((ts.take j).filter fun x=>!p x).length)∧nn_=ts.length - j) (n:=ts.length - (i0+1)) ?_ ?_)))))))))
  ·exact ⟨i0+1,i0,rows,Am.out ⟨rfl,rfl,rfl,rfl,trivial⟩,E,ab,⟨qO,qO⟩,a4,a5,rfl,(by rw[am];exact hr.take i0),(by rw[am];simp;omega),rfl⟩
  ·clear E ab;rintro _ _ W2 ⟨j,i,ad,⟨j2,rfl⟩,E,ab,hij,aq,ag,a3,ap,aj,rfl⟩;refine AG (AA (qM _ rfl (qM _ rfl (qV (Aa underlying23 rfl) (qV (BE rfl rfl) (AB (qC rfl (fun bi=>?_) (fun bi=>?_))))))))
   ·obtain ⟨x,hx⟩:=AX (l:=ts) (i:=j) qO;obtain ⟨r,bc,az⟩:=hr.get hx;have bd:ad[j]?=some r:=by rw[K6 a3 (Nat.le_refl _)];exact bc
    have ar:=Ox (p:=p) hx;have an:ad.drop (j+1)=rows.drop (j+1):=by rw[←List.drop_drop,←List.drop_drop,a3]
    have ae:A4 (W2) x r:=AS.at x (AS.chg E (fun y hy hb=>by have:=hS y hy;have hb':base≤y:=hb;omega) x (AS.ext hE x az));have bf:=az.len;obtain ⟨sa,sc,aa,ac,rfl,_,_,_⟩:=ae.form;refine AO (AC (AG (AU (AA (qM _ rfl (qM _ rfl (qV (AN (b:=g) (o:=0) (len:=ts.length) (cap:=c) (i:=j) (o':=0+j*6) rfl rfl rfl underlying23 AH qO qO) (qV (AK rfl Ad AH rfl (by rw[Nat.zero_add];exact Gc ab ag bd)) (As (v:=(.agg (R6 x sa sc aa ac))) (c:=(R6 x sa sc aa ac)) (n:=6) qD A9 rfl AH rfl rfl rfl qS ?_)))))))));intro bs ws Ns;have Fs:=Ns.ge E;have Os_g:=Ns.lt ab;replace ab:=Ns.keep ab;replace ae:=A4.ext Ns.ext x ae;replace E:=E.ext Ns.ext;have Bs:=Ns.blk;refine AB (AA (qM _ rfl (qV (AK (vs:=[(I6 x.kind),(.slice sa x.set.length sc),(.slice aa x.args.length ac),(I6 x.mn),(I6 x.mx),(.bool x.neg)]) rfl Ad AH rfl (Bs.cells rfl)) (DN qD rfl rfl (hf _ x _ (List.mem_of_getElem? hx) ae) ?_))));rintro _ w19 ⟨rfl,ao⟩;replace ab:=ao.keep ab;replace Bs:=ao.keep Bs;replace ae:=A4.ext ao x ae;replace E:=E.ext ao;refine qV (Dg rfl) (AB (A_ rfl (fun hp=>?_) (fun hp=>?_)))
    ·have bk:=hp;replace hp:=by simpa using hp
     refine AA (qM _ rfl (qM _ rfl (qV (AK (vs:=[(I6 x.kind),(.slice sa x.set.length sc),(.slice aa x.args.length ac),(I6 x.mn),(I6 x.mx),(.bool x.neg)]) rfl Ad AH rfl (Bs.cells rfl)) (qV (AN (b:=g) (o:=0) (len:=ts.length) (cap:=c) (i:=i) (o':=0+i*6) rfl rfl rfl underlying23 AH qO qO) (Ab (b:=g) (o:=0+i*6) (n:=6) (c':=((ad.set i [.int .i64 x.kind,.slice sa x.set.length sc,.slice aa x.args.length ac,.int .i64 x.mn,.int .i64 x.mx,.bool x.neg]).flatten++rest).toArray) (vs:=(R6 x sa sc aa ac)) rfl rfl qS AH (rfl) ab (by have:=CW ag;simp only[List.size_toArray,List.length_append];omega) (by rw[Nat.zero_add];exact congrArg List.toArray (KY (k:=6) (v:=[.int .i64 x.kind,.slice sa x.set.length sc,.slice aa x.args.length ac,.int .i64 x.mn,.int .i64 x.mx,.bool x.neg]) (rows:=ad) (i:=i) (rest:=rest) rfl ag qO)) ?_)))));intro w5 S5;replace Bs:=S5.keep qO Bs;replace E:=S5.step E qQ;replace ab:=S5.blk;refine AB (AR (qM _ rfl (qV (Ax rfl rfl (A8 qO)) (qA _ rfl (AB (AQ (AC (AR (qM _ rfl (qV (Ax rfl rfl (A8 qO)) (qA _ rfl (AB (AC ?_)))))))))))));exact ⟨ts.length - (j+1),qO,j+1,i+1,ad.set i [.int .i64 x.kind,.slice sa x.set.length sc,.slice aa x.args.length ac,.int .i64 x.mn,.int .i64 x.mx,.bool x.neg],Am.out ⟨rfl,rfl,rfl,rfl,trivial⟩,E,ab,⟨qO,qO⟩,(by simpa using aq),(fun r hr=>by rcases List.mem_or_eq_of_mem_set hr with h|h;exact ag r h;rw[h];rfl),(by rw[List.drop_set_of_lt qO];exact an),(by rw[ar,hp,List.take_add_one,List.take_set_of_le (Nat.le_refl _),List.getElem?_set_self qO];exact Ao.append (Ao.single az) ap),(by rw[ar,hp,List.length_append,←aj];rfl),rfl⟩
    ·have bk:=hp;replace hp:=by simpa using hp
     refine AO (AQ (AC (AR (qM _ rfl (qV (Ax (k:=.i64) (a:=(j:Int)) (b:=1) (c:=(j:Int)+1) rfl rfl (A8 qO)) (qA (I6 ((j:Int)+1)) rfl (AB (AC ?_))))))));exact ⟨ts.length - (j+1),qO,j+1,i,ad,Am.out ⟨rfl,rfl,rfl,rfl,trivial⟩,E,ab,⟨qO,qO⟩,aq,ag,an,(by rw[ar,hp];simpa using ap),(by rw[ar,hp];simpa using aj),rfl⟩
   ·have bl:j=ts.length:=qO
    rw[bl,List.take_length] at ap aj;refine Aw (AZ (AZ (Ap (AC (AA (qM (.slice (some ⟨g,0,none⟩) ts.length c) rfl (qM (I6 (i:Int)) rfl ?_)))))));obtain ⟨sl,a6⟩:∃a':Option Addr,(if c=i then (some ⟨g,0,none⟩) else Option.map (fun q:Addr=>q.add (i*6)) (some ⟨g,0,none⟩))=a':=⟨_,rfl⟩;refine qV (GA (a:=(some ⟨g,0,none⟩)) (len:=ts.length) (cap:=c) (lo:=i) (l:=(i:Int)) (n':=(ts.length - i)) (c':=(c - i)) underlying23 AH rfl rfl qO qO a6 qO qO) ?_;have aw:sl=some ⟨g,i*6,none⟩:=by rw[←a6,if_neg qO];simp[Addr.add];omega
    subst aw;obtain ⟨cz,ay⟩:∃cz,cz=((ad.flatten++rest).toArray.toList.take (i*6)++(Builtin.zeroCells (Value.cells (.agg #[(.int .i64 0),(.slice none 0 0),(.slice none 0 0),(.int .i64 0),(.int .i64 0),(.bool false)])) (ts.length - i)).toList++(ad.flatten++rest).toArray.toList.drop (i*6+(ts.length - i)*6)).toArray:=⟨_,rfl⟩;refine QX (b:=g) (o:=i*6) (m:=(ts.length - i)) (cc:=(c - i)) (c':=cz) underlying23 A9 rfl qO ab NX (by show i*6+(ts.length - i)*6≤_;simp only[List.size_toArray,List.length_append,CW ag,aq];omega) (ay.symm) ?_;intro w6 S6;replace E:=S6.step E qQ;replace ab:=S6.blk;refine AB (AA (qM _ rfl (qM _ rfl ?_)));obtain ⟨sm,a7⟩:∃a':Option Addr,(if c=0 then (some ⟨g,0,none⟩) else Option.map (fun q:Addr=>q.add (0*6)) (some ⟨g,0,none⟩))=a':=⟨_,rfl⟩;refine qV (HS (hi:=i) underlying23 AH rfl rfl qO qO a7) (qA _ rfl (AB (AJ (AV results165 (v:=(.slice sm i c)) rfl ?_))));have au:sm=some ⟨g,0,none⟩:=by rw[←a7];split<;>simp[Addr.add]
    subst au;have bj:(ad.take i).flatten.length=i*6:=by rw[CW (fun r hr=>ag r (List.mem_of_mem_take hr))];simp;omega
    have ba:(ad.flatten++rest).take (i*6)=(ad.take i).flatten:=by
     have:ad.flatten=(ad.take i).flatten++(ad.drop i).flatten:=by rw[←List.flatten_append,List.take_append_drop]
     rw[this,List.append_assoc,List.take_append_of_le_length qO,List.take_of_length_le qO]
    have hz:(Builtin.zeroCells (Value.cells (.agg #[(.int .i64 0),(.slice none 0 0),(.slice none 0 0),(.int .i64 0),(.int .i64 0),(.bool false)])) (ts.length - i)).toList.length=(ts.length - i)*6:=by simp[Builtin.zeroCells,Value.cells]
    have a1:(ad.flatten++rest).length=c*6:=by rw[List.length_append,CW ag,aq];omega
    refine ⟨some ⟨g,0,none⟩,c,ad.take i,by rw[←aj],⟨by rw[bj,←aj],.inr ⟨g,c,cz,by rw[←aj],bm,ab,qO,al,?_,?_⟩⟩,ap,E⟩
    ·rw[ay];simp only[List.size_toArray,List.length_append,List.length_take,List.length_drop,hz];simp only[List.length_append] at a1;omega
    ·rw[ay,←aj];show List.take (i*6) (List.take (i*6) (ad.flatten++rest)++_++_)=_;rw[ba,List.append_assoc,List.take_append_of_le_length qO,List.take_of_length_le qO]
end Go.Proofs
namespace Go.Proofs
open Go Go.Eng
set_option maxRecDepth 100000
theorem DH.ext {S:Nat->Prop} {w w':World} {v:Value} {a:List Re} (h:DH S w v a) (e:Ae w w'):DH S w' v a:=by
 obtain ⟨aa,ac,i,j,d⟩:=h;refine ⟨aa,ac,i,j,?_⟩;rcases d with h|⟨b,o,hb,g,c⟩
 .exact .inl h
 .exact .inr ⟨b,o,hb,g,A5.chg e (λ_ _ f=>f) a hb c⟩
theorem Cn (S:Nat->Prop) (w:World) (k:Int):AS S w (.mk k [] [] 0 0 false) [.int .i64 k,.slice none 0 0,.slice none 0 0,.int .i64 0,.int .i64 0,.bool false]:=
 AS.of (BY.nil _ _ _ _ _) qP (.inl O)
theorem T9 {α:Type} {l:List α} (h:l.length=1) {x:α} (a:l[0]?=some x):l=[x]:=by
 match l,h with
 | [y],_=>simp at a;rw[a]
end Go.Proofs
namespace Go.Proofs
open Go Go.Eng
set_option maxRecDepth 100000
theorem Ao.chg {S M:Nat->Prop} {w w':World} (c:Chg M w w') (d:∀b,S b->¬M b):∀{a:List Re} {rows:List (List Value)},Ao S w a rows->Ao S w' a rows
 | [],_,h=>h
 | t::a,rows,h=>by
  obtain ⟨r,g,e,f,i⟩:=h;exact ⟨r,g,e,AS.chg c d t f,Ao.chg c d i⟩
theorem Ao.mono {S S':Nat->Prop} {w:World} (c:∀b,S b->S' b):∀{a:List Re} {rows:List (List Value)},Ao S w a rows->Ao S' w a rows
 | [],_,h=>h
 | t::a,rows,h=>by
  obtain ⟨r,f,d,e,g⟩:=h;exact ⟨r,f,d,AS.mono c t e,Ao.mono c g⟩
theorem BY.lt {S:Nat->Prop} {w:World} {v:Value} {l:List (Int×Int)} (h:BY S w 2 v (l.map BK)):BY (λb=>S b∧b<w.heap.size) w 2 v (l.map BK):=by
 obtain ⟨a,cap,d,e,g,i⟩:=h;refine ⟨a,cap,d,e,g,?_⟩;rcases i with h|⟨b,o,hb,f,c⟩
 .exact .inl h
 .cases l with
  | nil=>exact .inl O
  | cons s r=>
   have:=c 0 (BK s) O 0 _ O;exact .inr ⟨b,o,⟨hb,World.block_lt_of_cell? w _ this⟩,f,c⟩
mutual
theorem AS.lt {S:Nat->Prop} {w:World}:∀(t:Re) {vs:List Value},AS S w t vs->AS (λb=>S b∧b<w.heap.size) w t vs
 | .mk k set args mn mx ng,vs,h=>by
  simp only[AS] at h⊢;obtain ⟨sa,sc,aa,ac,f,l,j,g⟩:=h;refine ⟨sa,sc,aa,ac,f,BY.lt l,j,?_⟩;rcases g with h|⟨b,o,hb,i,a⟩
  .exact .inl h
  .match args,a with
   | [],_=>exact .inl O
   | t::ts,a=>
    have c:=a;simp only[A5] at c;obtain ⟨⟨us,e,d⟩,_⟩:=c;obtain ⟨_,_,_,_,rfl,_⟩:=d.form;have:=e 0 _ O;exact .inr ⟨b,o,⟨hb,World.block_lt_of_cell? w _ this⟩,i,A5.lt (t::ts) a⟩
theorem A5.lt {S:Nat->Prop} {w:World} {b:Nat}:∀(a:List Re) {o:Nat},A5 S w b o a->A5 (λb=>S b∧b<w.heap.size) w b o a
 | [],_,_=>by simp only[A5]
 | t::a,o,h=>by
  simp only[A5] at h⊢;obtain ⟨⟨vs,c,d⟩,e⟩:=h;exact ⟨⟨vs,c,AS.lt t d⟩,A5.lt a e⟩
end
theorem DH.lt {S:Nat->Prop} {w:World} {v:Value} {a:List Re} (h:DH S w v a):DH (λb=>S b∧b<w.heap.size) w v a:=by
 obtain ⟨aa,ac,i,j,f⟩:=h;refine ⟨aa,ac,i,j,?_⟩;rcases f with h|⟨b,o,hb,g,c⟩
 .exact .inl h
 .match a,c with
  | [],_=>exact .inl O
  | t::a,c=>
   have d:=c;simp only[A5] at d;obtain ⟨⟨us,e,k⟩,_⟩:=d;obtain ⟨_,_,_,_,rfl,_⟩:=k.form;have:=e 0 _ O;exact .inr ⟨b,o,⟨hb,World.block_lt_of_cell? w _ this⟩,g,A5.lt (t::a) c⟩
theorem GN {α:Type} {l:List α} {x d:α} (h:l[0]?=some x):l.headD d=x:=by
 cases l with
 | nil=>simp at h
 | cons y r=>simpa using h
end Go.Proofs
namespace Go.Proofs
open Go Go.Eng Go.Sort
set_option maxRecDepth 100000
structure SimN (k:Int) (s:List (Int×Int)) (a:List Re) (m x:Int) (g:Bool):Prop where
 ks:k=0∨k=1∨k=2∨k=3∨k=4∨k=5∨k=6∨k=7∨k=8
 ng:g=false
 st:k≠2->s=[]
 mm:k≠6->m=0∧x=0
 k2:k=2->s≠[]∧BT s=0
 none:k=0∨k=1∨k=2->a=[]
 k3:k=3->2<=a.length∧∀y∈a,y.kind≠0∧y.kind≠1∧y.kind≠3
 k4:k=4->2<=a.length∧(∀y∈a,y.kind≠0∧y.kind≠4∧Ca y=false)∧a.Pairwise λy z=>Cp y z<0
 k7:k=7->2<=a.length∧(∀y∈a,y.kind≠0∧y.kind≠7∧Ca y=false)∧a.Pairwise λy z=>Cp y z<0
 k5:k=5->∃y,a=[y]∧y.kind≠0∧y.kind≠1∧y.kind≠5
 k6:k=6->∃y,a=[y]∧y.kind≠0∧y.kind≠1∧0<=m∧m<=x∧x<=8∧x≠0∧¬(m=1∧x=1)
 k8:k=8->∃y,a=[y]∧y.kind≠8
mutual
def Au:Re->Prop
  | .mk k s a m x g=>SimN k s a m x g∧EX a
def EX:List Re->Prop
  | []=>True
  | t::ts=>Au t∧EX ts
end
theorem FD {a:List Re}:EX a↔∀t∈a,Au t:=by
 induction a with
 | nil=>simp[EX]
 | cons t a ih=>simp[EX,ih]
theorem Au.n {t:Re} (h:Au t):SimN t.kind t.set t.args t.mn t.mx t.neg:=by cases t;exact h.1
theorem Au.a {t:Re} (h:Au t):∀x∈t.args,Au x:=by cases t;exact FD.1 h.2
theorem Au.mk' {k:Int} {s:List (Int×Int)} {a:List Re} {m x:Int} {g:Bool} (h:SimN k s a m x g) (b:∀y∈a,Au y):Au (.mk k s a m x g):=⟨h,FD.2 b⟩
mutual
theorem Fy:∀{t:Re},Au t->G6 t=true
 | .mk k s a m x g,h=>by
  simp only[G6,h.1.ng,Bool.not_false,Bool.true_and];exact KU h.2
theorem KU:∀{a:List Re},EX a->Hw a=true
 | [],_=>rfl
 | t::a,h=>by simp only[Hw,Fy h.1,KU h.2];rfl
end
theorem Fw:Au BB:=by unfold BB;exact .mk' ⟨qP,O,qP,qP,qP,qP,qP,qP,qP,qP,qP,qP⟩ qP
theorem F7:Au BP:=by unfold BP;exact .mk' ⟨qP,O,qP,qP,qP,qP,qP,qP,qP,qP,qP,qP⟩ qP
theorem U7:Au FS:=by
 unfold FS;exact .mk' ⟨qP,O,qP,qP,qP,qP,qP,qP,qP,qP,qP,λ_=>⟨BB,O,qD⟩⟩ (by intro y a;simp at a;subst a;exact Fw)
theorem HB {k:Int} {l:List Re} {x:Re}:x∈BI k l↔∃y∈l,(y.kind=k∧x∈y.args)∨(y.kind≠k∧x=y):=by
 unfold BI;rw[List.mem_flatMap];constructor
 .rintro ⟨y,b,h⟩;split at h
  .rename_i a;exact ⟨y,b,.inl ⟨a,h⟩⟩
  .rename_i a;simp at h;exact ⟨y,b,.inr ⟨a,h⟩⟩
 .rintro ⟨y,b,⟨a,h⟩|⟨a,h⟩⟩
  .exact ⟨y,b,by rw[if_pos a];exact h⟩
  .exact ⟨y,b,by rw[if_neg a];simp[h]⟩
theorem Qy {k:Int} {l:List Re} (h:∀x∈l,x.kind≠k):BI k l=l:=by
 unfold BI
 induction l with
 | nil=>rfl
 | cons x l ih=>rw[List.flatMap_cons,if_neg (h x qP),ih λy a=>h y (by simp[a])];rfl
theorem UN {p:Re->Bool} {l:List Re} (h:∀x∈l,p x=false):EJ p l=l:=List.filter_eq_self.2 λx a=>by rw[h x a];rfl
theorem J9 {p:Re->Bool} {l:List Re} {x:Re}:x∈EJ p l↔x∈l∧p x=false:=by unfold EJ;rw[List.mem_filter];simp
theorem Ml {k:Int} {z:Re} {l:List Re} (h:2<=l.length):Bv k z l=.mk k [] l 0 0 false:=by
 match l,h with
 | x::y::l,_=>rfl
theorem Vy {l:List Re} (h:2<=l.length) (b:∀y∈l,y.kind≠0∧y.kind≠1∧y.kind≠3):De l=.mk 3 [] l 0 0 false:=by
 have e:EJ CZ (BI 3 l)=l:=by rw[Qy λy a=>(b y a).2.2,UN λy a=>by simp[CZ,(b y a).2.1]]
 unfold De;rw[e,if_neg,Ml h];rw[List.any_eq_true];rintro ⟨y,a,c⟩;simp[BX] at c;exact (b y a).1 c
theorem Ik {l:List Re} (h:∀x∈l,Au x):Au (De l):=by
 unfold De;split
 .exact Fw
 .rename_i hn
  have c:∀y∈EJ CZ (BI 3 l),Au y∧y.kind≠0∧y.kind≠1∧y.kind≠3:=λy f=>by
   have e:y.kind≠0:=λd=>hn (List.any_eq_true.2 ⟨y,f,by simp[BX,d]⟩);obtain ⟨j,k⟩:=J9.1 f;have g:y.kind≠1:=by simpa[CZ] using k
   obtain ⟨z,b,⟨d,i⟩|⟨d,rfl⟩⟩:=HB.1 j
   .exact ⟨(h z b).a y i,e,g,(((h z b).n.k3 d).2 y i).2.2⟩
   .exact ⟨h y b,e,g,d⟩
  generalize EJ CZ (BI 3 l)=q at c
  match q,c with
  | [],_=>exact F7
  | [x],c=>exact (c x qP).1
  | x::y::q,c=>exact .mk' ⟨qP,O,qP,qP,qP,qP,λ_=>⟨qP,λz b=>(c z b).2⟩,qP,qP,qP,qP,qP⟩ λz b=>(c z b).1
theorem If:∀{l:List Re} {x:Re},x∈ES l↔x∈l
 | [],x=>by simp[ES]
 | [y],x=>by simp[ES]
 | y::z::l,x=>by
  simp only[ES];split
  .rename_i h
   rw[If,(DY y z).1 h];simp
  .rw[List.mem_cons,If];simp
theorem H6:∀{l:List Re},(∀x∈l,G6 x=true)->l.Pairwise (λy z=>Cp y z<=0)->(ES l).Pairwise λy z=>Cp y z<0
 | [],_,_=>by simp[ES]
 | [y],_,_=>by simp[ES]
 | y::z::l,hn,h=>by
  obtain ⟨i,c⟩:=List.pairwise_cons.1 h;simp only[ES];split
  .exact H6 (λx a=>hn x (by simp[List.mem_cons.1 a])) c
  .rename_i d
   refine List.pairwise_cons.2 ⟨λx a=>?_,H6 (λx a=>hn x (by simp[List.mem_cons.1 a])) c⟩;have b:Cp y z<0:=by
    have h3:=i z qP;have h4:Cp y z≠0:=λe=>d ((DY y z).2 ((Kj (hn y qP) (hn z qP)).1 e));omega
   rcases List.mem_cons.1 (If.1 a) with rfl|a
   .exact b
   .have f:=(List.pairwise_cons.1 c).1 x a;have h6:=CD x y;have h7:=CD y x;by_cases j:Cp y x<0
    .exact j
    .exfalso;have g:Cp x y<=0:=qO
     have h10:=TV f g;have h11:=CD z y;omega
theorem UO:∀{l:List Re},l.Pairwise (λy z=>Cp y z<0)->ES l=l
 | [],_=>rfl
 | [y],_=>rfl
 | y::z::l,h=>by
  obtain ⟨c,d⟩:=List.pairwise_cons.1 h;simp only[ES];rw[if_neg,UO d];intro e;have f:=(DY y z).1 e;have a:=c z qP;have b:=CD y y;rw[f] at a b;omega
theorem Jb (l:List Re):(Dp l).Pairwise λy z=>Cp y z<=0:=by
 have h:=List.pairwise_mergeSort (le:=VV) (λa b c d e=>by simp only[VV,decide_eq_true_eq] at *;exact TV d e) (λa b=>by simp only[VV,Bool.or_eq_true,decide_eq_true_eq];exact Wl a b) l;exact h.imp fun {a b} h=>by simpa[VV] using h
theorem KP {l:List Re} {x:Re}:x∈Dp l↔x∈l:=List.mem_mergeSort
theorem U2 {l:List Re} (h:l.Pairwise λy z=>Cp y z<0):Dp l=l:=List.mergeSort_of_pairwise (le:=VV) (h.imp fun {a b} h=>by simp[VV];omega)
theorem Q7 {k:Int} {l:List Re} {a b:Re->Bool} {z:Re} (h:2<=l.length) (d:∀y∈l,y.kind≠k) (g:∀y∈l,a y=false) (f:∀y∈l,b y=false) (c:l.Pairwise λy z=>Cp y z<0):GS k l a b z=.mk k [] l 0 0 false:=by
 unfold GS;rw[List.find?_eq_none.2 λy e=>by rw[g y e];decide];show Bv k z _=_;rw[Qy d,UN f,U2 c,UO c,Ml h]
theorem Q6 {k:Int} {l:List Re} {b c:Re->Bool} {z:Re} (h:∀x∈l,Au x) (i:Au z)
 (r:∀q:List Re,2<=q.length->(∀y∈q,y.kind≠k∧b y=false∧c y=false)->(q.Pairwise λy z=>Cp y z<0)->SimN k [] q 0 0 false)
 (hi:∀x,Au x->x.kind=k->∀y∈x.args,y.kind≠k∧b y=false):Au (GS k l b c z):=by
 unfold GS;cases hf:l.find? b with
 | some x=>exact h x (List.mem_of_find?_eq_some hf)
 | none=>
  have p:=List.find?_eq_none.1 hf;have e:∀y∈ES (Dp (EJ c (BI k l))),Au y∧y.kind≠k∧b y=false∧c y=false:=λy j=>by
   obtain ⟨n,o⟩:=J9.1 (KP.1 (If.1 j));obtain ⟨x,d,⟨f,g⟩|⟨f,rfl⟩⟩:=HB.1 n
   .exact ⟨(h x d).a y g,(hi x (h x d) f y g).1,(hi x (h x d) f y g).2,o⟩
   .exact ⟨h y d,f,by simpa using p y d,o⟩
  have m:=H6 (l:=Dp (EJ c (BI k l))) (λx d=>by
   obtain ⟨n,o⟩:=J9.1 (KP.1 d);obtain ⟨y,j,⟨f,g⟩|⟨f,rfl⟩⟩:=HB.1 n
   .exact Fy ((h y j).a x g)
   .exact Fy (h x j)) (Jb _)
  show Au (Bv k z _);generalize ES (Dp (EJ c (BI k l)))=q at e m
  match q,e,m with
  | [],_,_=>exact i
  | [x],e,_=>exact (e x qP).1
  | x::y::q,e,m=>exact .mk' (r _ qP (λz i=>(e z i).2) m) λz i=>(e z i).1
theorem XL {l:List Re} (h:∀x∈l,Au x):Au (GS 4 l Ca BX BB):=
 Q6 h Fw (λq e b f=>⟨qP,O,qP,qP,qP,qP,qP,λ_=>⟨e,λy a=>⟨by simpa[BX] using (b y a).2.2,(b y a).1,(b y a).2.1⟩,f⟩,qP,qP,qP,qP⟩)
  λx d c y a=>⟨((d.n.k4 c).2.1 y a).2.1,((d.n.k4 c).2.1 y a).2.2⟩
theorem XK {l:List Re} (h:∀x∈l,Au x):Au (GS 7 l BX Ca FS):=
 Q6 h U7 (λq e b f=>⟨qP,O,qP,qP,qP,qP,qP,qP,λ_=>⟨e,λy a=>⟨by simpa[BX] using (b y a).2.1,(b y a).1,(b y a).2.2⟩,f⟩,qP,qP,qP⟩)
  λx d c y a=>⟨((d.n.k7 c).2.1 y a).2.1,by simpa[BX] using ((d.n.k7 c).2.1 y a).1⟩
structure PreN (k:Int) (s:List (Int×Int)) (a:List Re) (m x:Int) (g:Bool):Prop where
 ks:k=0∨k=1∨k=2∨k=3∨k=4∨k=5∨k=6∨k=7∨k=8
 ng:g=false
 st:k≠2->s=[]
 mm:k≠6->m=0∧x=0
 k2:k=2->s≠[]∧BT s=0
 none:k=0∨k=1∨k=2->a=[]
 one:k=5∨k=6∨k=8->a.length=1
 rep:k=6->0<=m∧m<=x∧x<=8
theorem IN {k:Int} {s:List (Int×Int)} {a:List Re} {m x:Int} {g:Bool} (h:PreN k s a m x g) (b:∀y∈a,Au y):Au (Cz k s a m x g):=by
 unfold Cz;dsimp only;have c:k=5∨k=6∨k=8->∃y,a=[y]:=λj=>by
  match a,h.one j with
  | [y],_=>exact ⟨y,O⟩
 split
 .exact Ik b
 split
 .exact XL b
 split
 .exact XK b
 split
 .rename_i i
  obtain ⟨y,rfl⟩:=c (.inl i);show Au (if y.kind=0∨y.kind=1 then BP else if y.kind=5 then y else Re.mk k s [y] m x g);split
  .exact F7
  split
  .exact b y qP
  .exact .mk' ⟨h.ks,h.ng,h.st,h.mm,h.k2,h.none,qO,qO,qO,λ_=>⟨y,O,qO,qO,qO⟩,qO,qO⟩ b
 split
 .rename_i e
  obtain ⟨y,rfl⟩:=c (.inr (.inl e));have hr:=h.rep e;show Au (if x=0∨y.kind=1∨(y.kind=0∧m=0) then BP else if y.kind=0∨(m=1∧x=1) then y else Re.mk k s [y] m x g);split
  .exact F7
  split
  .exact b y qP
  .exact .mk' ⟨h.ks,h.ng,h.st,h.mm,h.k2,h.none,qO,qO,qO,qO,λ_=>⟨y,O,qO,qO,qO,qO,qO,qO,qO⟩,qO⟩ b
 split
 .rename_i l
  obtain ⟨y,rfl⟩:=c (.inr (.inr l));show Au (if y.kind=8 then y.args.headD BB else Re.mk k s [y] m x g);split
  .rename_i d
   obtain ⟨z,f,_⟩:=(b y qP).n.k8 d;rw[f];exact (b y qP).a z (by rw[f];simp)
  .rename_i d
   exact .mk' ⟨h.ks,h.ng,h.st,h.mm,h.k2,h.none,qO,qO,qO,qO,qO,λ_=>⟨y,O,d⟩⟩ b
 .exact .mk' ⟨h.ks,h.ng,h.st,h.mm,h.k2,h.none,qO,qO,qO,qO,qO,qO⟩ b
theorem VQ {k:Int} {s:List (Int×Int)} {a:List Re} {m x:Int} {g:Bool} (h:SimN k s a m x g):Cz k s a m x g=.mk k s a m x g:=by
 unfold Cz;dsimp only;have j:=h.st;have c:=h.mm;have i:=h.ng;split
 .rename_i b
  obtain ⟨f,e⟩:=h.k3 b;rw[Vy f e,j qO,(c qO).1,(c qO).2,i,b]
 split
 .rename_i b
  obtain ⟨f,e,l⟩:=h.k4 b;rw[Q7 f (λy d=>(e y d).2.1) (λy d=>(e y d).2.2) (λy d=>by simp[BX,(e y d).1]) l,j qO,(c qO).1,(c qO).2,i,b]
 split
 .rename_i b
  obtain ⟨f,e,l⟩:=h.k7 b;rw[Q7 f (λy d=>(e y d).2.1) (λy d=>by simp[BX,(e y d).1]) (λy d=>(e y d).2.2) l,j qO,(c qO).1,(c qO).2,i,b]
 split
 .rename_i b
  obtain ⟨y,rfl,f,e,l⟩:=h.k5 b;show (if y.kind=0∨y.kind=1 then BP else if y.kind=5 then y else Re.mk k s [y] m x g)=_;rw[if_neg qO,if_neg l]
 split
 .rename_i b
  obtain ⟨y,rfl,f,e,l,h4,h5,h6,h7⟩:=h.k6 b;show (if x=0∨y.kind=1∨(y.kind=0∧m=0) then BP else if y.kind=0∨(m=1∧x=1) then y else Re.mk k s [y] m x g)=_;rw[if_neg qO,if_neg qO]
 split
 .rename_i b
  obtain ⟨y,rfl,f⟩:=h.k8 b;show (if y.kind=8 then y.args.headD BB else Re.mk k s [y] m x g)=_;rw[if_neg f]
 .rfl
mutual
theorem Mu:∀{t:Re},Au t->CS t=t
 | .mk k s a m x g,h=>by simp only[CS];rw[Nl h.2,VQ h.1]
theorem Nl:∀{a:List Re},EX a->FC a=a
 | [],_=>rfl
 | t::a,h=>by simp only[FC];rw[Mu h.1,Nl h.2]
end
end Go.Proofs
namespace Go.Proofs
open Go Go.Eng Go.Sort
set_option maxRecDepth 100000
structure VSp where
 s:Sp
 ok:EZ s
instance:Inhabited VSp:=⟨⟨(0,0),by unfold EZ;simp⟩⟩
def K5 (s:VSp):List Value:=BK s.s
theorem RO {α:Type} [Inhabited α] (enc:α->List Value) (k:Nat) (w:World) (g a m:Nat) (d:Array α) (os:Array Obj):Chg (λx=>x=g) w (sortWorldK enc k w g a m d os):=by
 refine ⟨O,O,O,Nat.le_add_right _ _,?_,λb hb c=>?_⟩
 .simp[sortWorldK,grow,putRowK,putRow,mapBlock,ahead]
 .simp only[sortWorldK,grow,putRowK,putRow,mapBlock,ahead];rw[Array.getElem?_append_left (by simpa using hb),Array.getElem?_modify,if_neg (λh=>c h.symm)];rfl
theorem own_holds {w:World} {base g n c:Nat} {d:List VSp} (h:w.ownsRow base NW 2 (.slice (some ⟨g,0,none⟩) n c) n ((d.map VSp.s).map BK).flatten) (hn:d.length=n):HoldsK K5 2 w g 0 d.toArray:=by
 have i:BD w (.slice (some ⟨g,0,none⟩) n c) (d.map VSp.s):=EA h (by intro x f;simp only[List.mem_map] at f;obtain ⟨p,_,rfl⟩:=f;rfl) (by simpa using hn) qD;intro j k;rw[size_flatK] at k;simp only[List.size_toArray] at k;have e:j / 2<d.length:=qO
 obtain ⟨b,o,a,m⟩:=Bd i qO;simp only[Option.some.injEq,Addr.mk.injEq,and_true] at a;obtain ⟨rfl,rfl⟩:=a;have f:(d.map VSp.s)[j / 2]?=some d[j / 2].s:=by rw[List.getElem?_map,List.getElem?_eq_getElem e];rfl
 have q:=m (j / 2) _ f;rw[get_flatK _ _ _ _ (by simpa using k)];have t:d.toArray[j / 2]! = d[j / 2]:=by rw[getElem!_pos d.toArray (j / 2) (by simpa using e)];simp
 rw[t];constructor
 .rcases Nat.mod_two_eq_zero_or_one j with l|l
  .have:=q.at0;rw[l];rw[show 0+j / 2*2=0+j from qO] at this;simpa[K5,BK] using this
  .have:=q.at1;rw[l];rw[show 0+j / 2*2+1=0+j from qO] at this;simpa[K5,BK] using this
 .rcases h.2 with ⟨u,_⟩|⟨g',cap,cur,r,_,v,_⟩
  .simp at u
  .simp only[Value.slice.injEq,Option.some.injEq,Addr.mk.injEq,and_true] at r;obtain ⟨rfl,_⟩:=r;simp[World.frozen?,v]
theorem Om {w:World} {g n c:Nat} {d:Array VSp} (h:HoldsK K5 2 w g 0 d) (hn:d.size=n) (hc:n<=c) (hl:n<=8796093022208):BD w (.slice (some ⟨g,0,none⟩) n c) (d.toList.map VSp.s):=by
 refine ⟨_,c,by simp[hn],by simp;omega,by simp;omega,.inr ⟨g,0,O,λi r f j u a=>?_⟩⟩;simp only[List.getElem?_map,Option.map_eq_some_iff] at f;obtain ⟨s,⟨x,b,rfl⟩,rfl⟩:=f;have hi:i<d.size:=by have:=AM b;simpa using this
 have e:j<2:=by have:=AM a;simpa[BK] using this
 have l:=(HoldsK.cell h hi e).1;have k:d[i]! = x:=by
  rw[getElem!_pos d i hi];rw[Array.getElem?_toList,Array.getElem?_eq_getElem hi] at b;simpa using b
 rw[l,k]
 match j,e,a with
 | 0,_,a=>simpa[K5,BK] using a
 | 1,_,a=>simpa[K5,BK] using a
theorem LX {P : Program} {f : FuncId} {a : Func} (b : P.funcs[f]? = some a) (hn : (a.name == "runtime.NumGoroutine") = false) (hb : a.body.isNone = false) : ∀ args w, (callFunc f args).run P w = .ok (.enter f args) w := fun args w => HR (vs := args) (w := w) b hn hb
theorem SH (a:World):Bi prog 107 #[.int .u64 0] a λv w=>v=.int .i64 (Lib.bitLen 0:Nat)∧Ae a w:=
 (Any.bits_Len (SlLaysF0.n15.bits (P:=prog) (ρ:=Tryz.sortSp_ren) {Tryz.sortSp with}) 0 a qO qO).mono λ_ _ ⟨b,c⟩=>⟨_,b,O,by rw[c];exact Ae.refl _⟩
theorem Wz (b:World) (a:Option Addr) (c:Nat) (fv:Value):Bi prog 157 #[.slice a 0 c,.int .i64 0,.int .i64 0,fv] b λv w=>v=.tuple #[]∧Ae b w:=by
 refine qR func157 O ntmps157 O (λE=>(AA (qM _ O (qV (Ax (c:=1) O O qD) (qA _ O (AB (AU (Av (λnn_ σ d=>(∃jj_,σ=Bj jj_ [(0,(.slice a 0 c)),(1,(I6 0)),(2,(I6 0)),(3,fv),(8,(I6 1))])∧Chg Ak b d∧nn_=(0:Nat)) (n:=(0:Nat)) ?_ ?_))))))))
 .exact ⟨Am.out ⟨O,O,O,O,O,trivial⟩,E,O⟩
 .clear E;rintro _ _ d ⟨⟨j1,rfl⟩,E,rfl⟩;refine AG (AA (qM _ O (qM _ O (qV (BE O O) (AB (Ah O (Aw (AZ (AZ (Ap (HC results157 ?_)))))))))));exact ⟨O,E⟩
theorem Wj (b:World) (a:Option Addr) (c:Nat) (n:Int) (fv:Value):Bi prog 137 #[.slice a 0 c,.int .i64 0,.int .i64 0,.int .i64 n,fv] b λv w=>v=.tuple #[]∧Ae b w:=by
 refine qR func137 O ntmps137 O (λE=>(AA (qA _ O (AB (AA (qA _ O (AB (AU (Av (λnn_ σ d=>(∃jj_,σ=Bj jj_ [(0,(.slice a 0 c)),(1,(I6 0)),(2,(I6 0)),(4,fv)])∧Chg Ak b d∧nn_=(0:Nat)) (n:=(0:Nat)) ?_ ?_)))))))))
 .exact ⟨Am.out ⟨O,O,O,O,trivial⟩,E,O⟩
 .clear E;rintro _ _ d ⟨⟨j1,rfl⟩,E,rfl⟩;refine AU (AA (qM _ O (qM _ O (qV (DI (c:=0) O O qD) (qA _ O (AB (AG (AA (qM _ O (qV (Jf O O) (AB (Az O (AA (qM _ O (qM _ O (qM _ O (qM _ O ?_)))))))))))))))));refine qE O (AI func157 kQ kQ O) (Wz _ a c fv) ?_;rintro _ w9 ⟨rfl,e⟩;replace E:=E.ext e;refine AB (AJ (AP (Ac (AP (Ac (JM results137 ?_))))));exact ⟨O,E⟩
theorem U4 (b:World) (a:Option Addr) (c:Nat) (fv:Value):Bi prog 110 #[.slice a 0 c,fv] b λv w=>v=.tuple #[]∧Ae b w:=by
 refine qR func110 O ntmps110 O (λE=>(AA (qM _ O (qV (Aa underlying22 O) (qA _ O (AB (AR (qM _ O (qM _ O (qM _ O (qV (I8 (c:=0) ⟨_,underlying3⟩ underlying139 O (XT qO)) (qE O (AI func107 kQ kQ O) (SH _) ?_))))))))))));rintro _ w8 ⟨rfl,e⟩;refine qM _ O (qE O (AI func137 kQ kQ O) (Wj _ a c _ fv) ?_);rintro _ w9 ⟨rfl,d⟩;replace E:=(E.ext e).ext d;refine AB (HC results110 ?_);exact ⟨O,E⟩
theorem Uz (A : VSp → VSp → Int) (U : SWO (ltOf A)) {f : FuncId} {L : Func} (Z : (prog).funcs[f]? = some L) (hn : (L.name == "runtime.NumGoroutine") = false) (hb : L.body.isNone = false)
 (z:∀(W:World) (x y:VSp),Bi prog f #[.agg #[.int .i64 x.s.1,.int .i64 x.s.2],.agg #[.int .i64 y.s.1,.int .i64 y.s.2]] W λv w=>v=.int .i64 (A x y)∧Ae W w)
 (b:World) (base:Nat) (v:Value) (l:List Sp) (h:LK b base v l) (hl:l.length<=8796093022208) (J:∀s∈l,EZ s) :
 Bi prog 110 #[v,.func (.func f) #[] #[]] b λr w=>r=.tuple #[]∧(∃C:List VSp,(C.map VSp.s).Perm l∧C.Pairwise (λs t=>¬A t s<0)∧BD w v (C.map VSp.s))∧Chg (λx=>v.ownBlock=some x) b w:=by
 have S:=LX Z hn hb;obtain ⟨d,rfl⟩:∃d:List VSp,d.map VSp.s=l:=⟨l.pmap VSp.mk J,by rw[List.map_pmap];simp⟩;have R:∀w,(isAgg (Tryz.sortSp_ren.t 24)).run prog w=.ok true w:=λw=>Hh.run Ew w;have X:∀w,(Go.sizeOf (Tryz.sortSp_ren.t 24)).run prog w=.ok 2 w:=λw=>BU.run w;rcases h.2.2 with ⟨rfl,h0⟩|⟨g,cap,cur,rfl,hbg,V,I,hcm,hcs,htake⟩
 .have hd:d=[]:=List.eq_nil_of_length_eq_zero (by simpa using h0);subst hd;exact (U4 b none 0 (.func (.func f) #[] #[])).mono λv w' ⟨T,F⟩=>⟨T,⟨[],List.Perm.refl _,List.Pairwise.nil,BR.nil _ _ _ _⟩,Ae.chg F⟩
 .simp only[List.length_map] at *;have N:=own_holds (d:=d) (n:=d.length) (by have:=h.2;rwa [List.length_map] at this) O;have k:g<b.heap.size:=(Array.getElem?_eq_some_iff.1 V).1;have hc:CmpLays prog f #[] K5 2 A g 0 d.toArray.size b:=λm os dk _ x y=>by
   refine Calls.mono (z _ x y) ?_;rintro e w' ⟨v,rfl,rfl,D⟩;obtain ⟨q,G,F⟩:=Ae.grown D;exact ⟨O,q,G,F⟩
  have p:=AnyQ.slices_SortFunc Tryz.sortSp 2 R X K5 (λ_=>rfl) (λx u P=>by simp[K5,BK] at P;rcases P with rfl|rfl<;>rfl) A U f #[] g 0 cap d.toArray b S hc N k (by simp;omega);refine Calls.mono p ?_;rintro e w' ⟨rfl,c,n,os,M,K,rfl⟩;have a:c.size=d.length:=by have:=M.1;simpa using this
  have o:c.toList.Perm d:=by
   have B:=M.2.2;simp only[List.size_toArray] at B;rw[show d.length=c.size from a.symm,Array.extract_size] at B;rw[a] at B;simpa using B
  refine ⟨_,O,O,⟨c.toList,o.map _,?_,?_⟩,(RO K5 2 b g 0 n c os).mono λx _ D=>by subst D;rfl⟩
  .rw[List.pairwise_iff_getElem];intro i j hi E H;have Q:=K i j (Nat.zero_le _) H (by simp at E⊢;omega);simp only[Array.length_toList] at hi E;rw[getElem!_pos c i hi,getElem!_pos c j E] at Q;simpa[ltOf] using Q
  .exact Om (holdsK_sortWorldK_c K5 2 b g 0 d.toArray c n os N k (by simpa using a)) a I hl
end Go.Proofs
namespace Go.Proofs
open Go Go.Eng Go.Sort
set_option maxRecDepth 100000
def SF (x y:VSp):Int:=J4 [BN x.s.1 y.s.1,BN x.s.2 y.s.2]
theorem Xp (A:World) (x y:VSp):Bi prog 111 #[.agg #[.int .i64 x.s.1,.int .i64 x.s.2],.agg #[.int .i64 y.s.1,.int .i64 y.s.2]] A λv w=>v=.int .i64 (SF x y)∧Ae A w:=by
 refine qR func111 O ntmps111 O (λE=>(AA (BL (v:=(.agg #[(I6 x.s.1),(I6 x.s.2)])) (c:=#[(I6 x.s.1),(I6 x.s.2)]) qD O O ?_)));intro f w1 z;replace E:=E.ext z.ext;have e:=z.blk;refine BL (v:=(.agg #[(I6 y.s.1),(I6 y.s.2)])) (c:=#[(I6 y.s.1),(I6 y.s.2)]) qD O O ?_;intro d w2 t;replace e:=t.keep e;replace E:=E.ext t.ext;have h:=t.blk;refine qA _ O (AB (AG ?_));obtain ⟨m,a⟩:∃D:List Fact,D=[.eq (P6 f 0),.eq (I6 x.s.1),.eq (P6 d 0),.eq (I6 y.s.1),.eq (I6 (BN x.s.1 y.s.1)),.eq (P6 f 1),.eq (I6 x.s.2),.eq (P6 d 1),.eq (I6 y.s.2),.eq (I6 (BN x.s.2 y.s.2)),.gen (JG (BN x.s.1 y.s.1) (BN x.s.2 y.s.2)) (Gl _ _),.eq (I6 (SF x y)),.eq (I6 (SF x y))]:=⟨_,O⟩;refine LJ [5,6,7,8,9,10,11,12,13,14,15,16,4] [[],[0],[],[2],[1,3],[],[5],[],[7],[4,6,8],[4,9],[9,10],[0,1,2,3,4,5,6,7,8,9,10,11]] m a mixed qK qK ?_ ?_
 .intro wd i;refine DagSteps.cons (λb w' X U H=>Or.inl ⟨?_,?_⟩) ?_
  .exact AD O
  .exact AW (AY (U 2 O) underlying80 O Ay O) (Ae.refl _) O
  refine DagSteps.cons (λb w' X U H=>Or.inl ⟨?_,?_⟩) ?_
  .exact AD O
  .have G:b 5=(.pointer (some ⟨f,0,none⟩)):=H 0 O 5 (.eq (.pointer (some ⟨f,0,none⟩))) O (by rw[a];rfl);exact AW (AL G Al (((i.trans X).keep e).cell O)) (Ae.refl _) O
  refine DagSteps.cons (λb w' X U H=>Or.inl ⟨?_,?_⟩) ?_
  .exact AD O
  .exact AW (AY (U 3 O) underlying80 O Ay O) (Ae.refl _) O
  refine DagSteps.cons (λb w' X U H=>Or.inl ⟨?_,?_⟩) ?_
  .exact AD O
  .have I:b 7=(.pointer (some ⟨d,0,none⟩)):=H 2 O 7 (.eq (.pointer (some ⟨d,0,none⟩))) O (by rw[a];rfl);exact AW (AL I Al (((i.trans X).keep h).cell O)) (Ae.refl _) O
  refine DagSteps.cons (λb w' X U H=>Or.inl ⟨?_,?_⟩) ?_
  .exact AD O
  .have B:b 6=(.int .i64 x.s.1):=H 1 O 6 (.eq (.int .i64 x.s.1)) O (by rw[a];rfl);have F:b 8=(.int .i64 y.s.1):=H 3 O 8 (.eq (.int .i64 y.s.1)) O (by rw[a];rfl);exact A7 (AI func139 kQ kQ (G8 B F)) (EU _ _ _)
  refine DagSteps.cons (λb w' X U H=>Or.inl ⟨?_,?_⟩) ?_
  .exact AD O
  .exact AW (AY (U 2 O) underlying80 O Ay O) (Ae.refl _) O
  refine DagSteps.cons (λb w' X U H=>Or.inl ⟨?_,?_⟩) ?_
  .exact AD O
  .have q:b 10=(.pointer (some ⟨f,1,none⟩)):=H 5 O 10 (.eq (.pointer (some ⟨f,1,none⟩))) O (by rw[a];rfl);exact AW (AL q Al (((i.trans X).keep e).cell O)) (Ae.refl _) O
  refine DagSteps.cons (λb w' X U H=>Or.inl ⟨?_,?_⟩) ?_
  .exact AD O
  .exact AW (AY (U 3 O) underlying80 O Ay O) (Ae.refl _) O
  refine DagSteps.cons (λb w' X U H=>Or.inl ⟨?_,?_⟩) ?_
  .exact AD O
  .have n:b 12=(.pointer (some ⟨d,1,none⟩)):=H 7 O 12 (.eq (.pointer (some ⟨d,1,none⟩))) O (by rw[a];rfl);exact AW (AL n Al (((i.trans X).keep h).cell O)) (Ae.refl _) O
  refine DagSteps.cons (λb w' X U H=>Or.inl ⟨?_,?_⟩) ?_
  .exact AD O
  .have u:b 11=(.int .i64 x.s.2):=H 6 O 11 (.eq (.int .i64 x.s.2)) O (by rw[a];rfl);have j:b 13=(.int .i64 y.s.2):=H 8 O 13 (.eq (.int .i64 y.s.2)) O (by rw[a];rfl);exact A7 (AI func139 kQ kQ (G8 u j)) (EU _ _ _)
  refine DagSteps.cons (λb w' X U H=>Or.inl ⟨?_,?_⟩) ?_
  .exact AD O
  .have C:b 9=(.int .i64 (BN x.s.1 y.s.1)):=H 4 O 9 (.eq (.int .i64 (BN x.s.1 y.s.1))) O (by rw[a];rfl);have o:b 14=(.int .i64 (BN x.s.2 y.s.2)):=H 9 O 14 (.eq (.int .i64 (BN x.s.2 y.s.2))) O (by rw[a];rfl);exact LM C o
  refine DagSteps.cons (λb w' X U H=>Or.inl ⟨?_,?_⟩) ?_
  .exact AD O
  .obtain ⟨b15,g,p⟩:=H 10 O 15 (.gen (JG (BN x.s.1 y.s.1) (BN x.s.2 y.s.2)) (Gl _ _)) O (by rw[a];rfl);exact A7 (AI func138 kQ kQ (G9 g)) (Sh _ _ _ (g▸p))
  refine DagSteps.cons (λb w' X U H=>Or.inl ⟨?_,?_⟩) ?_
  .exact AD O
  .have k:b 16=(.int .i64 (SF x y)):=H 11 O 16 (.eq (.int .i64 (SF x y))) O (by rw[a];rfl);exact AW (Dq k) (Ae.refl _) O
  exact DagSteps.nil
 .intro b w3 r U H;obtain ⟨j3,rfl⟩:=Am.out (σ:=b) (l:=[(4,(.int .i64 (SF x y)))]) ⟨(show b 4=(.int .i64 (SF x y)) from H 12 4 (.eq (.int .i64 (SF x y))) O (by rw[a];rfl)),trivial⟩;clear U H;replace e:=r.keep e;replace h:=r.keep h;replace E:=E.ext r;refine AC (AJ (AV results111 (v:=(.int .i64 (SF x y))) O ?_));exact ⟨O,E⟩
theorem UY (x y:VSp):SF x y<0↔x.s.1<y.s.1∨x.s.1=y.s.1∧x.s.2<y.s.2:=by
 unfold SF J4 J4 J4 BN
 (repeat' split)<;>omega
theorem X_:SWO (ltOf SF):=by
 refine ⟨λx=>?_,λx y z=>?_,λx y z=>?_⟩<;>simp only[ltOf,decide_eq_true_eq,decide_eq_false_iff_not,UY]<;>omega
theorem U3 (a:World) (base:Nat) (v:Value) (l:List Sp) (h:LK a base v l) (j:l.length<=8796093022208) (b:∀s∈l,EZ s) :
 Bi prog 110 #[v,.func (.func 111) #[] #[]] a λr w=>r=.tuple #[]∧(∃c:List Sp,c.Perm l∧c.Pairwise (λs t=>s.1<=t.1)∧BD w v c)∧Chg (λx=>v.ownBlock=some x) a w:=
 (Uz SF X_ func111 kQ kQ Xp a base v l h j b).mono λr w ⟨i,⟨l',k,f,g⟩,e⟩=>
  ⟨i,⟨_,k,List.pairwise_map.2 (f.imp fun {s t} d=>by rw[UY] at d;omega),g⟩,e⟩
theorem I_ {w w':World} {base e size n cap g i:Nat} {xs:List Value} {b:Array Value} {v:Value} (h:w.ownsRow base e size (.slice (some ⟨g,0,none⟩) n cap) n xs) (o:BH w g b e) (hi:i<n*size) (c:BH w' g (b.setIfInBounds i v) e):w'.ownsRow base e size (.slice (some ⟨g,0,none⟩) n cap) n (xs.set i v):=by
 rcases h.2 with ⟨p,_⟩|⟨g',cap',cur',m,f,l,d,k,j,a⟩
 .simp at p
 .simp only[Value.slice.injEq,Option.some.injEq,Addr.mk.injEq,and_true] at m;obtain ⟨rfl,_,rfl⟩:=m;unfold BH at o c;rw[o] at l;simp only[Option.some.injEq,Obj.cells.injEq,and_true] at l;obtain ⟨rfl,_⟩:=l;refine ⟨by simpa using h.1,.inr ⟨g,cap,_,O,f,c,d,k,by simpa using j,?_⟩⟩;rw[<-a,Array.toList_setIfInBounds,List.take_set]
theorem J3 {w:World} {base e size n cap g:Nat} {xs:List Value} (h:w.ownsRow base e size (.slice (some ⟨g,0,none⟩) n cap) n xs):∃a,BH w g a e∧n*size<=a.size:=by
 rcases h.2 with ⟨i,_⟩|⟨g',cap',b,f,hbg,j,c,hcm,d,htake⟩
 .simp at i
 .simp only[Value.slice.injEq,Option.some.injEq,Addr.mk.injEq,and_true] at f;obtain ⟨rfl,_,rfl⟩:=f;exact ⟨b,j,by rw[d];exact Nat.mul_le_mul_right _ c⟩
theorem Lp (o:List Sp) (c:Sp):((o++[c]).map BK).flatten[o.length*2+1]?=some (.int .i64 c.2):=by
 rw[GY,List.getElem?_append_right (by rw[E7];omega),E7];rw[show o.length*2+1 - o.length*2=1 from qO];rfl
theorem Sf (o:List Sp) (c:Sp) (x:Int):((o++[c]).map BK).flatten.set (o.length*2+1) (.int .i64 x)=((o++[(c.1,x)]).map BK).flatten:=by
 rw[GY,GY,List.set_append,if_neg (by rw[E7];omega),E7,show o.length*2+1 - o.length*2=1 from qO];rfl
theorem Tz (Q:World) (v:Value) (l:List Sp) (h:BD Q v l) (hl:l.length<=8796093022208) (ac:∀s∈l,EZ s) :
 Bi prog 68 #[v] Q λr w=>(∃out,Ff l out∧LK w Q.heap.size r out)∧Ae Q w:=by
 refine qR func68 O ntmps68 O (λE=>(AA (qA _ O (AB (AA (qM v O (qE O (AI func74 kQ kQ O) (O4 _ v l h qO) ?_)))))));rintro _ w9 ⟨⟨⟨a9,c9,rfl⟩,O9⟩,X9⟩;replace E:=E.ext X9;refine qA _ O (AB (AA (qM _ O (qE O (AI func110 kQ kQ O) (U3 _ Q.heap.size (.slice a9 l.length c9) l ⟨⟨_,_,O⟩,O9⟩ qO ac) ?_))));rintro _ D ⟨rfl,⟨J,y,K,aj⟩,ak⟩;replace E:=E.step ak (λx hx hm=>absurd (O9.lt x hm).1 qO);have hlen:J.length=l.length:=y.length_eq;have ab:∀s∈J,EZ s:=λs M=>ac s (y.mem_iff.1 M);have hsz0:Q.heap.size<=D.heap.size:=E.size;obtain ⟨base,hbase⟩:∃base,base=D.heap.size:=⟨_,O⟩;have f:Chg Ak D D:=Chg.refl _ _;refine AB (AA (qA _ O (AB (AG (AA (qM _ O (qV (Aa underlying22 O) (qM _ O (AB (AU (Av (λnn_ σ W1=>∃(k:Nat) (U:Option Addr) (F:Nat) (m:Nat) (H:List Sp),(∃jj_,σ=Bj jj_ [(11,(.slice a9 l.length c9)),(12,(I6 (l.length:Int))),(13,(I6 (k:Int))),(3,(.slice U m F))])∧Chg Ak Q W1∧Chg Ak D W1∧(k<=l.length)∧(m=H.length)∧(m<=k)∧(∀s∈H,0<=s.2∧s.2<=1114111)∧((J.drop k).foldl Ks H=MN J)∧(W1.ownsRow base NW 2 (.slice U m F) m (H.map BK).flatten)∧(base<=W1.heap.size)∧nn_=l.length - k) (n:=l.length - 0) ?_ ?_)))))))))))
 .exact ⟨0,none,0,0,[],Am.out ⟨O,O,O,O,trivial⟩,E,f,Nat.zero_le _,O,Nat.le_refl _,(λs M=>absurd M List.not_mem_nil),O,World.ownsRow_nil _ _ _ _,qO,O⟩
 .clear E f;rintro _ _ W1 ⟨k,U,F,m,H,⟨j1,rfl⟩,E,f,hk,hm,hlo,L,B,a,e,rfl⟩;refine AA (qV (BE O O) (AB (AG (qC O (λad=>?_) (λad=>?_)))))
  .obtain ⟨s,M⟩:=AX (l:=J) (i:=k) qO;have hv:=ab s (List.mem_of_getElem? M);unfold EZ at hv;obtain ⟨b,o,ag,ao⟩:=Bd aj qO;subst ag;rw[C7 M,List.foldl_cons] at B;have A:=a;refine AO (AC (AG (AU (AA (qV (AN (b:=b) (o:=o) (len:=l.length) (cap:=c9) (i:=k) (o':=o+k*2) O O O underlying22 BU qO qO) (qV (AK O Ew BU O ((ao k s M).ext f)) (As (v:=(.agg #[(I6 s.1),(I6 s.2)])) (c:=#[(I6 s.1),(I6 s.2)]) (n:=2) qD Ed O BU O O O qS ?_)))))));intro bq wq I;replace a:=BG a I.ext;replace e:=Nat.le_trans e I.ext.size;replace E:=E.ext I.ext;have j:=I.blk;replace f:=f.ext I.ext;refine AB ?_;rcases Bool.eq_false_or_eq_true (decide ((0:Int)<((m:Nat):Int))) with d|d
   .have q:=d;replace q:=of_decide_eq_true q;obtain ⟨C,cc,af⟩:∃C cc,H=C++[cc]:=by rcases KR H with rfl|W;simp at hm;omega;exact W
    subst af;have hvc:=L cc qP;have X:m=C.length+1:=by simpa using hm
    obtain ⟨g,rfl,hgb,hgc⟩:=DZ a qO;have hgn:g≠bq:=λW=>by have:=(A.lt g O).2;have:=I.eq;omega
    refine AA (qM _ O (qV (Aa underlying22 O) (qA _ O (AB (El 13 mixed qK ?_)))));intro w3 X3 _;replace j:=X3.keep j;replace a:=BG a X3;replace e:=Nat.le_trans e X3.size;replace E:=E.ext X3;replace f:=f.ext X3;refine qT (Ai O) (qT (D0 O O) (qT (Ai O) (B_ (oj:=_) O O qD (BC d) (qT (AY O underlying80 O Ay O) (B_ (oj:=_) O O qD (BC d) (qT (AL O Al (j.cell O)) (B_ (oj:=_) O O qD (BC d) (qT (Ai O) (B_ (oj:=_) O O qD (BC d) (qT (Ai O) (B_ (oj:=_) O O qD (BC d) (qT (DI O O (A8 qO)) (B_ (oj:=_) O O qD (BC d) (qT (AN (b:=g) (o:=0) (len:=m) (cap:=F) (i:=m - 1) (o':=0+(m - 1)*2) O O qO underlying22 BU qO qO) ?_))))))))))))));refine B_ (oj:=_) O O qD (BC d) (qT (AY O underlying80 O Ay O) (B_ (oj:=_) O O qD (BC d) (qT (AL (v:=(I6 cc.2)) O Al ((by have W:=(a.cells (g:=g) O) (C.length*2+1) _ (Lp C cc);rwa [Addr.add_lit,show 0+(C.length*2+1)=0+(m - 1)*2+1 from qO] at W))) (B_ (oj:=_) O O qD (BC d) (qT (Ax O O (A8 qO)) (B_ (oj:=_) O O qD (BC d) (qT (Jf O O) (C8 (qV (Aq (v:=(.bool (decide ((s.1:Int)<=cc.2+1)))) O (by rw[d];rfl)) (AB (qC O (λhj=>?_) (λhj=>?_))))))))))))
    .obtain ⟨al,V,hcs⟩:=J3 a;refine E4 14 mixed qK ?_;intro w5 T _;replace j:=T.keep j;replace V:=T.keep V;replace a:=BG a T;replace e:=Nat.le_trans e T.size;replace E:=E.ext T;replace f:=f.ext T;refine qT (Ai O) (qT (Ai O) (qT (DI O O (A8 qO)) (qT (Ai O) (qT (Ai O) (qT (DI O O (A8 qO)) (qT (AN (b:=g) (o:=0) (len:=m) (cap:=F) (i:=m - 1) (o':=0+(m - 1)*2) O O qO underlying22 BU qO qO) (qT (AY O underlying80 O Ay O) (qT (AL (v:=(I6 cc.2)) O Al ((by have W:=(a.cells (g:=g) O) (C.length*2+1) _ (Lp C cc);rwa [Addr.add_lit,show 0+(C.length*2+1)=0+(m - 1)*2+1 from qO] at W))) (qT (AY O underlying80 O Ay O) (qT (AL O Al (j.cell O)) (qT (TJ O O O) (qT (AN (b:=g) (o:=0) (len:=m) (cap:=F) (i:=m - 1) (o':=0+(m - 1)*2) O O qO underlying22 BU qO qO) (qT (AY O underlying80 O Ay O) (C8 ?_))))))))))))));have ai:=V;refine Bb (b:=g) (o:=0+(m - 1)*2+1) (c':=al.setIfInBounds (0+(m - 1)*2+1) (I6 (max cc.2 s.2))) (v:=(I6 (max cc.2 s.2))) O O O Ay V qO (O) ?_;intro w6 S6;replace j:=S6.keep qO j;replace E:=S6.step E qQ;replace f:=S6.step f (Or.inl qO);replace V:=S6.blk;have z:=I_ a ai (i:=0+(m - 1)*2+1) qO V;refine AB (AQ (AC (AR (qV (Ax O O (A8 qO)) (qM _ O (AB (AC ?_)))))));exact ⟨l.length - (k+1),qO,k+1,some ⟨g,0,none⟩,F,m,C++[(cc.1,max cc.2 s.2)],Am.out ⟨O,O,O,O,trivial⟩,E,f,qO,(by simp[X]),qO,(λu t=>by rcases List.mem_append.1 t with t|t;exact L u (by simp[t]);rw[List.mem_singleton] at t;subst t;simp only;omega),(by rw[<-B,H0,if_pos hj]),(by rw[show 0+(m - 1)*2+1=C.length*2+1 from qO,Sf] at z;exact z),(by have:=z.lt g O;omega),O⟩
    .refine AR (qM _ O (qV (AK (vs:=[(I6 s.1),(I6 s.2)]) O Ew BU O (j.cells O)) (A3 (ps:=[(0,(.agg #[(I6 s.1),(I6 s.2)]))]) (c:=#[(I6 s.1),(I6 s.2)]) qD O underlying22 BU Ed qD qD qK ?_)));intro br wr S;replace j:=S.keep j;replace a:=BG a S.ext;replace e:=Nat.le_trans e S.ext.size;replace E:=E.ext S.ext;have Br:=S.blk;replace f:=f.ext S.ext;refine CQ (base:=base) (n:=m) (m:=1) (xs:=((C++[cc]).map BK).flatten) (news:=[(I6 s.1),(I6 s.2)]) (size:=2) (bytes:=16) (v:=(.slice (some ⟨g,0,none⟩) m F)) qD underlying22 BU O' Ed O qD O a O (O) (Br.cells O) qS (by unfold maxLen;omega) qO (e) ?_;intro v9 am G p ae;replace j:=p.keep (λh=>by have:=(A.lt _ h).2;have:=I.eq;omega) j;replace E:=E.step p (λx hx h=>absurd (a.lt x h).1 qO);replace f:=f.step p (λx hx h=>absurd (a.lt x h).1 qO);obtain ⟨N,P,rfl⟩:=Be G;refine qA _ O (AB (AQ (AC (AR (qV (Ax O O (A8 qO)) (qM _ O (AB (AC ?_))))))));exact ⟨l.length - (k+1),qO,k+1,N,P,m+1,C++[cc]++[s],Am.out ⟨O,O,O,O,trivial⟩,E,f,qO,(by simp[X]),qO,(λu t=>by rcases List.mem_append.1 t with t|t;exact L u t;rw[List.mem_singleton] at t;subst t;omega),(by rw[<-B,H0,if_neg hj]),(by rw[GY];exact G),Nat.le_trans e p.size,O⟩
   .have q:=d;replace q:=of_decide_eq_false q;have an:m=0:=qO
    have aa:H=[]:=List.eq_nil_of_length_eq_zero qO;subst aa;refine AA (qM _ O (qV (Aa underlying22 O) (qA _ O (AB (El 13 mixed qK ?_)))));intro w7 Z _;replace j:=Z.keep j;replace E:=E.ext Z;replace f:=f.ext Z;refine qT (Ai O) (qT (D0 O O) (qT (Ai O) (CI (oj:=_) O O qD (v:=.bool false) (BC d) (Or.inl O) (CI (oj:=_) O O qD (v:=.bool false) (BC d) (Or.inl O) (CI (oj:=_) O O qD (v:=.bool false) (BC d) (Or.inl O) (CI (oj:=_) O O qD (v:=.bool false) (BC d) (Or.inl O) (CI (oj:=_) O O qD (v:=.bool false) (BC d) (Or.inl O) (CI (oj:=_) O O qD (v:=.bool false) (BC d) (Or.inl O) (CI (oj:=_) O O qD (v:=.bool false) (BC d) (Or.inl O) (CI (oj:=_) O O qD (v:=.bool false) (BC d) (Or.inl O) (CI (oj:=_) O O qD (v:=.bool false) (BC d) (Or.inl O) (CI (oj:=_) O O qD (v:=.bool false) (BC d) (Or.inl O) (C8 (qV (Aq (v:=(.bool false)) O (by rw[d];rfl)) ?_))))))))))))));refine AB (Ah O (AR (qM _ O (qV (AK (vs:=[(I6 s.1),(I6 s.2)]) O Ew BU O (j.cells O)) (A3 (ps:=[(0,(.agg #[(I6 s.1),(I6 s.2)]))]) (c:=#[(I6 s.1),(I6 s.2)]) qD O underlying22 BU Ed qD qD qK ?_)))));intro b8 w8 R;replace j:=R.keep j;replace a:=BG (BG a Z) R.ext;replace e:=Nat.le_trans (Nat.le_trans e Z.size) R.ext.size;replace E:=E.ext R.ext;have B8:=R.blk;replace f:=f.ext R.ext;refine CQ (base:=base) (n:=m) (m:=1) (xs:=[]) (news:=[(I6 s.1),(I6 s.2)]) (size:=2) (bytes:=16) (v:=(.slice U m F)) qD underlying22 BU O' Ed O qD O a O (O) (B8.cells O) qS (by unfold maxLen;omega) qO (e) ?_;intro v9 am G p ae;replace j:=p.keep (λh=>by have:=(A.lt _ h).2;have:=I.eq;omega) j;replace E:=E.step p (λx hx h=>absurd (a.lt x h).1 qO);replace f:=f.step p (λx hx h=>absurd (a.lt x h).1 qO);obtain ⟨N,P,rfl⟩:=Be G;refine qA _ O (AB (AQ (AC (AR (qV (Ax O O (A8 qO)) (qM _ O (AB (AC ?_))))))));exact ⟨l.length - (k+1),qO,k+1,N,P,m+1,[s],Am.out ⟨O,O,O,O,trivial⟩,E,f,qO,(by simp[an]),qO,(λu t=>by rw[List.mem_singleton] at t;subst t;omega),(by rw[<-B,MM]),(by simpa[BK] using G),Nat.le_trans e p.size,O⟩
  .have ah:J.drop k=[]:=List.drop_eq_nil_of_le qO;rw[ah,List.foldl_nil] at B;refine Aw (AZ (AZ (Ap (AC (AA (qM _ O (qA _ O (AB (AJ (AV results68 (v:=(.slice U m F)) O ?_))))))))));subst B;subst hm;exact ⟨⟨MN J,⟨J,y,K,O⟩,⟨U,F,O⟩,M0 a qO⟩,E⟩
theorem Ij:∀(l:List Sp) (p:Option Int),EV p l=0->Canon l∧(∀h,p=some h->∀s∈l,h+2<=s.1)
 | [],_,_=>⟨Canon.nil,λ_ _ _ h=>absurd h List.not_mem_nil⟩
 | s::r,p,h0=>by
  rw[Ek] at h0;by_cases c:Fd s=false
  .rw[if_pos c] at h0;cases h0
  rw[if_neg c] at h0;have f:EV (some s.2) r=0∧∀h,p=some h->h+2<=s.1:=by
   cases p with
   | none=>exact ⟨by simpa using h0,λ_ a=>by cases a⟩
   | some q=>
    by_cases e:s.1<q+2
    .simp[e] at h0
    .simp[e] at h0;exact ⟨h0,λh a=>by cases a;omega⟩
  obtain ⟨i,j⟩:=Ij r (some s.2) f.1;have b:EZ s:=by unfold EZ;unfold Fd at c;simp at c;omega
  have g:=j s.2 O;refine ⟨Canon.cons b g i,λh a t d=>?_⟩;have h4:=f.2 h a;rcases List.mem_cons.1 d with rfl|d
  .omega
  .have:=g t d;unfold EZ at b;omega
theorem Gq {l:List Sp} (h:BT l=0):Canon l∧l.length<=16:=by
 unfold BT at h;split at h
 .cases h
 .exact ⟨(Ij l none h).1,qO⟩
def Fc (out:List Sp) (f:Int->Bool):Prop:=Canon out∧∀r,0<=r->r<=1114111->Cu out r=f r
theorem Fc.eq {a b:List Sp} {f g:Int->Bool} (e:Fc a f) (hb:Fc b g) (h:∀r,0<=r->r<=1114111->f r=g r):a=b:=
 SG e.1 hb.1 λr c d=>by rw[e.2 r c d,hb.2 r c d,h r c d]
theorem Fc.join {l out:List Sp} (h:Ff l out) (a:∀s∈l,EZ s):Fc out (Cu l)∧out.length<=l.length:=
 let ⟨h1,h2,h3⟩:=h.all a
 ⟨⟨h1,λr _ _=>h2 r⟩,h3⟩
end Go.Proofs
namespace Go.Eng
open Go
def Et (l:List Oper) (t u:Nat):Bool:=match l[t]? with
  | some o=>o.after.any λe=>Region.binds .any e && Nat.beq e.on u
  | none=>false
def JI (hd:List Bool) (o:Oper):Bool:=match o.guard with|some p=>hd.getD p.1 false|none=>true
def Ev (N:Nat) (hd:List Bool):Nat->List Oper->List Nat->List (List Nat)->List Bool->Bool
  | _,[],[],[],[]=>true
  | i,o::l,d::ds,ws::wss,h::hs=>(bif h then EG N i o d ws && ((o.after.all λe=>!Region.binds .any e || hd.getD e.on false) && JI hd o) else Nat.ble N d) && Ev N hd (i+1) l ds wss hs
  | _,_,_,_,_=>false
def WV (l:List Oper) (hd:List Bool) (ts:List Nat):Bool:=
 (List.range l.length).all λi=>hd.getD i false || (ts.contains i && ((List.range l.length).all (λu=>!hd.getD u false || Et l i u) || ts.any λp=>!hd.getD p true && Et l i p))
def II (ops:Array Oper):List Nat->Array Bool->Bool
  | [],listed=>(Region.ready .any ops listed).isEmpty
  | k::ks,listed=>decide (Region.ready .any ops listed=[k]) && II ops ks (listed.setIfInBounds k true)
theorem Do {P:Program} {ops:Array Oper} {Q':Exit->Act->World->Prop}:∀(b:List Nat) (listed:Array Bool) (a:Act) (w:World),II ops b listed=true->wpList P ops Q' (b.filterMap λk=>ops[k]?) a w->wpAny P .any ops Q' b.length listed a w
 | [],_,_,_,hB,h=>⟨by simpa[II] using hB,h⟩
 | k::b,listed,a,w,hB,h=>by
  simp only[II,Bool.and_eq_true,decide_eq_true_eq] at hB;refine ⟨λf=>(by rw[hB.1] at f;cases f),λi hi=>?_⟩;have c:=hi;rw[hB.1] at hi;have d:i=k:=by simpa using hi
  subst d;obtain ⟨_,o,e,_⟩:=mem_ready.1 c;have g:wpOp P ops Q' i (wpList P ops Q' (b.filterMap λk=>ops[k]?)) a w:=by
   rw[List.filterMap_cons,e] at h;unfold wpOp;simp only[e];exact h
  exact wpOp_mono (λa' w' j=>Do b _ a' w' hB.2 j) g
theorem ET {N:Nat} {hd:List Bool}:∀{i:Nat} {l:List Oper} {ds:List Nat} {a:List (List Nat)} {b:List Bool},Ev N hd i l ds a b=true->∀{j:Nat} {o:Oper},l[j]?=some o->∃d ws h,ds[j]?=some d∧a[j]?=some ws∧b[j]?=some h∧(bif h then EG N (i+j) o d ws && ((o.after.all λe=>!Region.binds .any e || hd.getD e.on false) && JI hd o) else Nat.ble N d)=true
 | _,[],_,_,_,_,j,o,h=>by simp at h
 | i,x::l,[],_,_,hB,_,_,_=>by simp[Ev] at hB
 | i,x::l,d::ds,[],_,hB,_,_,_=>by simp[Ev] at hB
 | i,x::l,d::ds,ws::a,[],hB,_,_,_=>by simp[Ev] at hB
 | i,x::l,d::ds,ws::a,h0::b,hB,j,o,h=>by
  simp only[Ev,Bool.and_eq_true] at hB;cases j with
  | zero=>simp at h;subst h;exact ⟨d,ws,h0,O,O,O,hB.1⟩
  | succ j=>
   simp at h;obtain ⟨k,c,p,m,n,f,g⟩:=ET hB.2 h;exact ⟨k,c,p,by simpa using m,by simpa using n,by simpa using f,by rw[show i+(j+1)=i+1+j from qO];exact g⟩
theorem JP {N:Nat} {hd:List Bool}:∀{i:Nat} {l:List Oper} {ds:List Nat} {a:List (List Nat)} {b:List Bool},Ev N hd i l ds a b=true->ds.length=l.length∧b.length=l.length
 | _,[],[],[],[],_=>⟨O,O⟩
 | _,[],[],[],_::_,hB=>by simp[Ev] at hB
 | _,[],[],_::_,_,hB=>by simp[Ev] at hB
 | _,[],_::_,_,_,hB=>by simp[Ev] at hB
 | i,x::l,[],_,_,hB=>by simp[Ev] at hB
 | i,x::l,d::ds,[],_,hB=>by simp[Ev] at hB
 | i,x::l,d::ds,ws::a,[],hB=>by simp[Ev] at hB
 | i,x::l,d::ds,ws::a,h0::b,hB=>by
  simp only[Ev,Bool.and_eq_true] at hB;have:=JP hB.2;simp[this.1,this.2]
inductive DagStepsP (P:Program) (N:Nat) (ds:List Nat) (Fs:List Fact) (σ:CC) (w:World):List Oper->List (List Nat)->List Bool->List Fact->Prop where
  | nil:DagStepsP P N ds Fs σ w [] [] [] []
  | cons {o:Oper} {ws:List Nat} {F:Fact} {l:List Oper} {wss:List (List Nat)} {hs:List Bool} {Gs:List Fact}:KB P N ds Fs σ w o ws F->DagStepsP P N ds Fs σ w l wss hs Gs->DagStepsP P N ds Fs σ w (o::l) (ws::wss) (true::hs) (F::Gs)
  | tail {o:Oper} {ws:List Nat} {F:Fact} {l:List Oper} {wss:List (List Nat)} {hs:List Bool} {Gs:List Fact}:DagStepsP P N ds Fs σ w l wss hs Gs->DagStepsP P N ds Fs σ w (o::l) (ws::wss) (false::hs) (F::Gs)
theorem DagStepsP.get {P:Program} {N:Nat} {ds:List Nat} {e:List Fact} {σ:CC} {w:World}:∀{l:List Oper} {d:List (List Nat)} {g:List Bool} {f:List Fact},DagStepsP P N ds e σ w l d g f->∀{j:Nat} {o:Oper},l[j]?=some o->g[j]?=some true->∃ws F,d[j]?=some ws∧f[j]?=some F∧KB P N ds e σ w o ws F
 | _,_,_,_,.nil,j,o,h,_=>by simp at h
 | _,_,_,_,.cons h1 h2,0,o,h,_=>by simp at h;subst h;exact ⟨_,_,O,O,h1⟩
 | _,_,_,_,.tail h2,0,o,h,ht=>by simp at ht
 | _,_,_,_,.cons h1 h2,j+1,o,h,ht=>by
  obtain ⟨ws,F,a,b,c⟩:=h2.get (j:=j) (by simpa using h) (by simpa using ht);exact ⟨ws,F,by simpa using a,by simpa using b,c⟩
 | _,_,_,_,.tail h2,j+1,o,h,ht=>by
  obtain ⟨ws,F,a,b,c⟩:=h2.get (j:=j) (by simpa using h) (by simpa using ht);exact ⟨ws,F,by simpa using a,by simpa using b,c⟩
def Cv (hd:List Bool) (listed:List Bool):Nat:=((hd.zip listed).filter λp=>p.1 && !p.2).length
theorem GH:∀{hd listed:List Bool} {i:Nat},hd[i]?=some true->listed[i]?=some false->Cv hd (listed.set i true)+1=Cv hd listed
 | [],_,_,h,_=>by simp at h
 | _::_,[],_,_,h=>by simp at h
 | h::hd,x::listed,0,h1,h2=>by
  simp at h1 h2;subst h1;subst h2;simp[Cv]
 | h::hd,x::listed,i+1,h1,h2=>by
  have:=GH (hd:=hd) (listed:=listed) (i:=i) (by simpa using h1) (by simpa using h2);simp only[Cv,List.set_cons_succ,List.zip_cons_cons,List.filter_cons] at this⊢;split
  .simp only[List.length_cons];omega
  .exact this
theorem Gj:∀{hd listed:List Bool},hd.length=listed.length->Cv hd listed=0->(∀(i:Nat),hd[i]?=some false->listed[i]?=some false)->listed=hd
 | [],[],_,_,_=>rfl
 | [],_::_,h,_,_=>by simp at h
 | _::_,[],h,_,_=>by simp at h
 | h::hd,x::listed,hl,h0,ht=>by
  have a:Cv hd listed=0:=by
   simp only[Cv,List.zip_cons_cons,List.filter_cons] at h0⊢;split at h0
   .simp at h0
   .exact h0
  have b:=Gj (by simpa using hl) a λi hi=>by have:=ht (i+1) (by simpa using hi);simpa using this
  have c:x=h:=by
   cases h with
   | false=>have:=ht 0 O;simpa using this
   | true=>
    cases x with
    | true=>rfl
    | false=>simp[Cv] at h0
  rw[b,c]
theorem HY:∀{hd listed:List Bool},0<Cv hd listed->∃i:Nat,hd[i]?=some true∧listed[i]?=some false
 | [],_,h=>by simp[Cv] at h
 | _::_,[],h=>by simp[Cv] at h
 | h::hd,x::listed,hp=>by
  simp only[Cv,List.zip_cons_cons,List.filter_cons] at hp;split at hp
  .rename_i a
   simp at a;exact ⟨0,by simp[a.1],by simp[a.2]⟩
  .obtain ⟨i,c,b⟩:=HY (hd:=hd) (listed:=listed) hp;exact ⟨i+1,by simpa using c,by simpa using b⟩
theorem CN {listed:Array Bool} {i:Nat} {b d:Bool} (h:listed.toList[i]?=some b):listed.getD i d=b:=by
 have:listed[i]?=some b:=by simpa using h
 simp[Array.getD_eq_getD_getElem?,this]
theorem Iq {P:Program} {N:Nat} {Q:Dn} {σ:CC} {w:World} {id:Nat} {l:List Oper} (hd:List Bool) (H:List Nat) (ds:List Nat) (ax:List (List Nat)) (Fs:List Fact) {Gs:List Fact} (hG:Fs=Gs) (hm:P.follows .mixedOrders=true) (hB:Ev N hd 0 l ds ax hd=true) (hn:Ge ds=true)
 (hT:(WV l hd H && II l.toArray H hd.toArray)=true) (hN:Nat.beq (Cv hd (List.replicate l.length false)+H.length) l.length=true)
 (af:∀M,Ae w M->DagStepsP P N ds Fs σ M l ax hd Gs)
 (k:∀σ' w',Ae w w'->(∀t,ds.contains t=false->σ' t=σ t)->(∀j,hd[j]?=some true->Holds ds Fs j σ' w')->DT P N l.toArray (Q .normal) Q (H.filterMap λk=>l[k]?) σ' w'):Wp P N (.region id l.toArray true) Q σ w:=by
 intro dz a J T;have eQ:Dk dz N (Li (Q .normal) Q)=Dk dz N Q:=by funext e a w;cases e<;>rfl
 refine wp_region_any hm ?_;obtain ⟨M,an⟩:∃M:World,M={w with drawn:=w.drawn+1}:=⟨_,O⟩;have ao:Ae w M:=by rw[an];exact GO w
 rw[<-an];have au:=af M ao;rw[<-hG] at au;rw[Bool.and_eq_true] at hT;obtain ⟨a9,a8⟩:=hT;obtain ⟨hlen,hlen2⟩:=JP hB;have a5:∀(m:Nat) (listed:Array Bool) (a:Act) (w':World),Cv hd listed.toList=m->listed.size=l.length->(∀(t:Nat),hd[t]?=some false->listed.toList[t]?=some false)->Ok dz N a->Ae M w'->(∀t,ds.contains t=false->DQ a t=σ t)->(∀j,hd[j]?=some true->listed.getD j false=true->Holds ds Fs j (DQ a) w')->
  wpAny P .any l.toArray (Dk dz N Q) (m+H.length) listed a w':=by
  intro m
  induction m with
  | zero=>
   intro listed a w' a2 ay G J hx hu hh;have hl:listed=hd.toArray:=by
    apply Array.ext';exact Gj (by simp;omega) a2 G
   rw[Nat.zero_add];have h1:=k (DQ a) w' (ao.trans hx) hu (λj n=>hh j n (CN (by rw[hl];exact n))) dz a J O;rw[eQ] at h1;exact Do H listed a w' (by rw[hl];exact a8) (by simpa using h1)
  | succ m ih=>
   intro listed a w' hcm ay G J hx hu hh;obtain ⟨i0,ai,ar⟩:=HY (hd:=hd) (listed:=listed.toList) qO;rw[show m+1+H.length=(m+H.length)+1 by omega];refine ⟨λhr=>?_,λi hi=>?_⟩
   .exfalso;have aw:∀i:Nat,hd[i]?=some true->listed.getD i true=true:=by
     intro i
     induction i using Nat.strongRecOn with
     | _ i ihi=>
      intro hi;cases hv:listed.getD i true with
      | true=>rfl
      | false=>
       exfalso;obtain ⟨o,ho⟩:=AX (l:=l) (i:=i) (by have:=AM hi;omega);obtain ⟨d,ws,h,_,_,R,h3⟩:=ET hB ho;rw[hi] at R;cases R;simp only[cond_true,Bool.and_eq_true,Nat.zero_add] at h3;have:i∈Region.ready .any l.toArray listed:=by
        refine mem_ready.2 ⟨hv,o,by simpa using ho,λe T hb=>?_⟩;have C:=h3.1;simp only[EG,Bool.and_eq_true,Array.all_eq_true_iff_forall_mem,Bool.or_eq_true,Bool.not_eq_true'] at C;have V:=h3.2.1;simp only[Array.all_eq_true_iff_forall_mem,Bool.or_eq_true,Bool.not_eq_true'] at V;have g:=(C.1.2 e T).resolve_left (by simp[hb]);have s:e.on<i:=by simpa[Nat.blt_eq] using g
        have h7:=(V e T).resolve_left (by simp[hb]);have ap:e.on<hd.length:=by have:=AM hi;omega
        have h8:hd[e.on]?=some true:=by
         rw[List.getD_eq_getElem?_getD,List.getElem?_eq_getElem ap,Option.getD_some] at h7;rw[List.getElem?_eq_getElem ap,h7]
        have I:=ihi e.on s h8;have n:e.on<listed.size:=qO
        simpa only[Array.getD_eq_getD_getElem?,Array.getElem?_eq_getElem n,Option.getD_some] using I
       rw[hr] at this;cases this
    have:=aw i0 ai;rw[CN ar] at this;cases this
   .obtain ⟨h1,o,R,h3⟩:=mem_ready.1 hi;have ho:l[i]?=some o:=by simpa using R
    have a1:i<l.length:=AM ho;have L:hd[i]?=some true:=by
     obtain ⟨b,hb⟩:=AX (l:=hd) (i:=i) qO;cases b with
     | true=>exact hb
     | false=>
      exfalso;have C:=List.all_eq_true.1 a9 i (List.mem_range.2 a1);rw[List.getD_eq_getElem?_getD,hb,Option.getD_some,Bool.false_or,Bool.and_eq_true,Bool.or_eq_true] at C;have aa:∀u,Et l i u=true->listed.getD u false=true:=λu K=>by
       unfold Et at K;rw[ho] at K;simp only[Array.any_eq_true',Bool.and_eq_true] at K;obtain ⟨e,T,ab,al⟩:=K;have:=Nat.eq_of_beq_eq_true al;rw[<-this];exact h3 e T ab
      rcases C.2 with V|V
      .have g:=List.all_eq_true.1 V i0 (List.mem_range.2 (by have:=AM ai;omega));rw[List.getD_eq_getElem?_getD,ai,Option.getD_some,Bool.not_true,Bool.false_or] at g;have:=aa i0 g;rw[CN ar] at this;cases this
      .obtain ⟨p,_,g⟩:=List.any_eq_true.1 V;rw[Bool.and_eq_true,Bool.not_eq_true'] at g;have h7:=aa p g.2;have hp:hd[p]?=some false:=by
        have h8:=g.1;rw[List.getD_eq_getElem?_getD] at h8;cases I:hd[p]? with
        | none=>rw[I] at h8;cases h8
        | some b=>rw[I,Option.getD_some] at h8;rw[h8]
       rw[CN (G p hp)] at h7;cases h7
    obtain ⟨d,ws,h,ak,az,av,C⟩:=ET hB ho;rw[L] at av;cases av;obtain ⟨ws',F,Z,hF,aj⟩:=au.get ho L;rw[az] at Z;cases Z;simp only[cond_true,Bool.and_eq_true,Nat.zero_add] at C;have E:=C.2.2;have C:=C.1;simp only[EG,Bool.and_eq_true,List.all_eq_true,Array.any_eq_true',Array.all_eq_true_iff_forall_mem,Bool.or_eq_true,Bool.not_eq_true'] at C;obtain ⟨⟨⟨q,ad⟩,_⟩,ac⟩:=C;have q:o.dst=some d:=by
     split at q
     .rename_i d' h;rw[h,Nat.eq_of_beq_eq_true q]
     .cases q
    have ad:d<N:=by simpa[Nat.blt_eq] using ad
    have hH:∀j,ws.contains j=true->Holds ds Fs j (DQ a) w':=by
     intro j n;have a6:j∈ws:=by simpa using n
     obtain ⟨e,T,hb⟩:=ac j a6;obtain ⟨ab,al⟩:=hb;have a7:e.on=j:=Nat.eq_of_beq_eq_true al;have D:=h3 e T ab;rw[a7] at D;refine hh j ?_ D;obtain ⟨b,hb⟩:=AX (l:=hd) (i:=j) (by
      rcases Nat.lt_or_ge j listed.size with I|I
      .omega
      .simp[Array.getD_eq_getD_getElem?,Array.getElem?_eq_none I] at D)
     cases b with
     | true=>exact hb
     | false=>rw[CN (G j hb)] at D;cases D
    have gd:∀j b,o.guard=some (j,b)->∀z,ds[j]?=some z->(∃oj,l[j]?=some oj∧oj.dst=some z)∧z<N:=λj b f z B=>by
     obtain ⟨oj,x⟩:=AX (l:=l) (i:=j) (by have:=AM B;omega);obtain ⟨dj',_,n,S,_,V,g⟩:=ET hB x;rw[B] at S;cases S;unfold JI at E;rw[f] at E;simp only at E;have h7:n=true:=by rw[List.getD_eq_getElem?_getD,V,Option.getD_some] at E;exact E
     rw[h7] at g;simp only[cond_true,Bool.and_eq_true,EG] at g;obtain ⟨⟨⟨c,r⟩,_⟩,_⟩:=g.1;refine ⟨⟨oj,x,?_⟩,by simpa[Nat.blt_eq] using r⟩;split at c
     .rename_i d' h;rw[h,Nat.eq_of_beq_eq_true c]
     .cases c
    have X:∀v w2,Ae w' w2->F.In v w2->wpAny P .any l.toArray (Dk dz N Q) (m+H.length) (listed.setIfInBounds i true) (a.put o.dst v) w2:=by
     intro v w2 am hv;have W:DQ (a.put o.dst v)=Eo (DQ a) d v:=by rw[q];exact EF J ad v
     have a0:listed.toList[i]?=some false:=by
      have n:i<listed.size:=qO
      simp only[Array.getD_eq_getD_getElem?,Array.getElem?_eq_getElem n,Option.getD_some] at h1;rw[Array.getElem?_toList,Array.getElem?_eq_getElem n,h1]
     refine ih _ _ _ ?_ (by simpa using ay) (λt U=>?_) (J.put _ _) (hx.trans am) ?_ ?_
     .rw[Array.toList_setIfInBounds];have:=GH L a0;omega
     .rw[Array.toList_setIfInBounds,List.getElem?_set];have ag:i≠t:=λe=>by rw[<-e,L] at U;cases U
      rw[if_neg ag];exact G t U
     .intro t U;rw[W,<-hu t U];simp only[Eo];cases hb:Nat.beq t d
      .rfl
      .exfalso;have:t=d:=Nat.eq_of_beq_eq_true hb;subst this;have:=List.mem_of_getElem? ak;simp[this] at U
     .intro j a3 n d' F' A ah;rw[W];by_cases ae:j=i
      .subst ae;rw[ak] at A;cases A;rw[hF] at ah;cases ah;simp only[Eo,Nat.beq_refl,cond_true];exact hv
      .have ag:Nat.beq d' d=false:=by
        cases hb:Nat.beq d' d
        .rfl
        .exfalso;have:d'=d:=Nat.eq_of_beq_eq_true hb;subst this;exact ae (Ct hn A ak)
       simp only[Eo,ag,cond_false];rw[getD_set_ne _ (Ne.symm ae)] at n;exact Fact.ext (hh j a3 n d' F' A ah) am
    rcases aj (DQ a) w' hx hu hH with ⟨hg,a4⟩|⟨⟨j,b,z,f,B,y⟩,aq⟩
    .have hw:Region.wanted o (yielded l.toArray a.tmps)=true:=by
      cases f:o.guard with
      | none=>simp[Region.wanted,f]
      | some p=>
       obtain ⟨j,b⟩:=p;obtain ⟨z,B,y⟩:=hg j b f;obtain ⟨c,r⟩:=gd j b f z B;have g:a.tmps[z]?=some (Value.bool b):=by
        have R:a.tmps.getD z undef=.bool b:=y;have s:z<a.tmps.size:=by rw[J.size];exact r
        rw[Array.getElem?_eq_getElem s];simpa[s] using R
       obtain ⟨oj,x,c⟩:=c;simp[Region.wanted,f,yielded,x,c,g]
     unfold wpOp;simp only[R,hw,if_true];exact Or.inl (a4 _ a J O _ _ X)
    .have hw:Region.wanted o (yielded l.toArray a.tmps)=false:=by
      obtain ⟨c,r⟩:=gd j b f z B;have s:z<a.tmps.size:=by rw[J.size];exact r
      have g:a.tmps[z]?=some (DQ a z):=by
       rw[Array.getElem?_eq_getElem s];simp[DQ,s]
      obtain ⟨oj,x,c⟩:=c;rcases y with y|y
      .rw[y] at g;cases b<;>simp[Region.wanted,f,yielded,x,c,g]
      .rw[y] at g;simp[Region.wanted,f,yielded,x,c,g,undef]
     unfold wpOp;simp only[R,hw,Bool.false_eq_true,if_false];exact X undef w' (Ae.refl _) aq
 have h1:=a5 (Cv hd (Array.replicate l.toArray.size false).toList) (Array.replicate l.toArray.size false) a M O qP (λt U=>by have I:=AM U;rw[Array.toList_replicate,List.getElem?_replicate,if_pos (by rw[List.size_toArray];omega)]) J (Ae.refl _) (λt _=>by rw[T]) (λj _ n=>by rw[getD_replicate_false] at n;cases n);have e3:Cv hd (Array.replicate l.toArray.size false).toList+H.length=l.toArray.size:=by have I:=Nat.eq_of_beq_eq_true hN;simpa using I
 rw[e3] at h1;exact h1
theorem Xh {x y z u p a b c d e:Value} (h:x=a) (j:y=b) (f:z=c) (g:u=d) (i:p=e):[x,y,z,u,p]=[a,b,c,d,e]:=by rw[h,j,f,g,i]
section
variable {P : Program} {N : Nat} {σ : CC} {w : World} {dst : Option Tmp} {ty : TypeId} {pos : String} {af : Array Edge} {g : Option (Nat × Bool)} {t : TypeId} {x y z u : Operand} {a b c d : Value} {i j k m : Nat}
theorem Ya (h:ev σ x=a):([(i,x)].map λ(i,x)=>(i,ev σ x))=[(i,a)]:=by simp only[List.map,h]
theorem Xs (h:ev σ x=a) (c:ev σ y=b):([(i,x),(j,y)].map λ(i,x)=>(i,ev σ x))=[(i,a),(j,b)]:=by simp only[List.map,h,c]
def RD (e:Nat) (c:Array Value) (hs:Nat):G2:=λv w=>∃b,v=.pointer (some ⟨b,0,none⟩)∧BH w b c e∧hs<=b
theorem Fb (e:Nat) (c:Array Value) (f:Nat):EI (RD e c f):=by
 rintro v w w' x ⟨b,a,d,g⟩;exact ⟨b,a,Ae.keep x d,g⟩
theorem H_ {d a:Nat} {z:Value} {c:Array Value} (f:Ex P t z) (b:z.cells=c) (e:a<=w.heap.size):Jy P N ⟨some d,.alloc t,ty,pos,af,g⟩ (RD t c a) σ w:=by
 subst b;have hn:=New.mk' w z.cells t;exact AW (v:=.pointer (some ⟨w.heap.size,0,none⟩)) (by simp[execOp,Instr.alloc,f.run,newVar,newRow]) hn.ext ⟨_,O,hn.blk,e⟩
end
end Go.Eng
namespace Go.Eng
open Go
def two (c1 c2:Nat) (M1 M2:Nat->Prop) (p:Nat):Nat->Prop:=bif Nat.beq p c1 then M1 else bif Nat.beq p c2 then M2 else Ak
def XE (wss cl:List (List Nat)) (i:Nat):Bool:=(cl.getD i []).all λc=>(wss.getD i []).contains c || (wss.getD i []).any λe=>(cl.getD e []).contains c
def UW (wss cl:List (List Nat)):Bool:=(List.range wss.length).all (XE wss cl)
theorem Ma {b d:List (List Nat)} (h:UW b d=true) {i c:Nat} {ws:List Nat} (f:b[i]?=some ws) (g:(d.getD i []).contains c=true):c∈ws∨∃e∈ws,(d.getD e []).contains c=true:=by
 have k:=List.all_eq_true.1 h i (List.mem_range.2 (AM f));have a:=List.all_eq_true.1 k c (by simpa using g);rw[List.getD_eq_getElem?_getD,f,Option.getD_some,Bool.or_eq_true] at a;rcases a with a|a
 .exact .inl (by simpa using a)
 .obtain ⟨e,j,l⟩:=List.any_eq_true.1 a;exact .inr ⟨e,j,l⟩
end Go.Eng
namespace Go.Eng
open Go
abbrev CJ:=(Nat->Bool)->CC->G2
abbrev eF (u:Value):CJ:=λ_ _ v _=>v=u
def H' (ds:List Nat) (Fs:List CJ) (S:Nat->Bool) (j:Nat) (σ:CC) (w:World):Prop:=∀d F,ds[j]?=some d->Fs[j]?=some F->F S σ (σ d) w
def Jv (S:Nat->Bool) (i:Nat):Nat->Bool:=λj=>bif Nat.beq j i then true else S j
theorem Rx (S:Nat->Bool) (i:Nat):Jv S i i=true:=by simp[Jv]
theorem Vd {S:Nat->Bool} {i j:Nat} (h:j≠i):Jv S i j=S j:=by
 have:Nat.beq j i=false:=by cases hb:Nat.beq j i;rfl;exact absurd (Nat.eq_of_beq_eq_true hb) h
 simp[Jv,this]
def NT:List (Nat×(Nat->Prop))->Nat->Nat->Prop
  | [],_,_=>False
  | p::r,j,y=>(j=p.1∧p.2 y)∨NT r j y
theorem JW {c:Nat} {M:Nat->Prop} {r:List (Nat×(Nat->Prop))} {j y:Nat} (h:NT ((c,M)::r) j y):(j=c∧M y)∨NT r j y:=h
theorem CK {S:Nat->Bool} {w w':World} (X:Chg (λy=>∃j,S j=true∧NT [] j y) w w'):Chg Ak w w':=X.mono λy _ ⟨_,_,h⟩=>h.elim
theorem xN1 {S:Nat->Bool} {w w':World} {c:Nat} {M:Nat->Prop} (a:S c=false) (X:Chg (λy=>∃j,S j=true∧NT [(c,M)] j y) w w'):Chg Ak w w':=X.mono λy _ ⟨j,d,h⟩=>by
 rcases JW h with ⟨rfl,_⟩|b
 .rw[d] at a;cases a
 .exact b.elim
theorem xN2 {S:Nat->Bool} {w w':World} {c d:Nat} {M g:Nat->Prop} (e:S c=false) (a:S d=false) (X:Chg (λy=>∃j,S j=true∧NT [(c,M),(d,g)] j y) w w'):Chg Ak w w':=X.mono λy _ ⟨j,b,h⟩=>by
 rcases JW h with ⟨rfl,_⟩|h
 .rw[b] at e;cases e
 rcases JW h with ⟨rfl,_⟩|f
 .rw[b] at a;cases a
 .exact f.elim
theorem xM1 {S:Nat->Bool} {w w':World} {c:Nat} {M:Nat->Prop} (X:Chg (λy=>∃j,S j=true∧NT [(c,M)] j y) w w'):Chg M w w':=X.mono λy _ ⟨j,hj,h⟩=>by
 rcases JW h with ⟨_,h⟩|a
 .exact h
 .exact a.elim
theorem xM2 {S:Nat->Bool} {w w':World} {c d:Nat} {M f:Nat->Prop} (a:S d=false) (X:Chg (λy=>∃j,S j=true∧NT [(c,M),(d,f)] j y) w w'):Chg M w w':=X.mono λy _ ⟨j,e,h⟩=>by
 rcases JW h with ⟨_,h⟩|h
 .exact h
 rcases JW h with ⟨rfl,_⟩|b
 .rw[e] at a;cases a
 .exact b.elim
def Hd (N i:Nat) (hd:List Bool) (o:Oper) (d:Nat) (ws:List Nat):Bool:=
 (match o.dst with|some d'=>Nat.beq d' d && Nat.blt d N|none=>Nat.ble N d) && (o.after.all λe=>!Region.binds .any e || (Nat.blt e.on i && hd.getD e.on false)) && (ws.all λj=>o.after.any λe=>Region.binds .any e && Nat.beq e.on j) && JI hd o
def Eu (N:Nat) (hd:List Bool):Nat->List Oper->List Nat->List (List Nat)->List Bool->Bool
  | _,[],[],[],[]=>true
  | i,o::l,d::ds,ws::wss,h::hs=>(bif h then Hd N i hd o d ws else Nat.ble N d) && Eu N hd (i+1) l ds wss hs
  | _,_,_,_,_=>false
theorem GP {N:Nat} {hd:List Bool}:∀{i:Nat} {l:List Oper} {ds:List Nat} {a:List (List Nat)} {b:List Bool},Eu N hd i l ds a b=true->∀{j:Nat} {o:Oper},l[j]?=some o->∃d ws h,ds[j]?=some d∧a[j]?=some ws∧b[j]?=some h∧(bif h then Hd N (i+j) hd o d ws else Nat.ble N d)=true
 | _,[],_,_,_,_,j,o,h=>by simp at h
 | i,x::l,[],_,_,hB,_,_,_=>by simp[Eu] at hB
 | i,x::l,d::ds,[],_,hB,_,_,_=>by simp[Eu] at hB
 | i,x::l,d::ds,ws::a,[],hB,_,_,_=>by simp[Eu] at hB
 | i,x::l,d::ds,ws::a,h0::b,hB,j,o,h=>by
  simp only[Eu,Bool.and_eq_true] at hB;cases j with
  | zero=>simp at h;subst h;exact ⟨d,ws,h0,O,O,O,hB.1⟩
  | succ j=>
   simp at h;obtain ⟨g,c,n,k,m,e,f⟩:=GP hB.2 h;exact ⟨g,c,n,by simpa using k,by simpa using m,by simpa using e,by rw[show i+(j+1)=i+1+j from qO];exact f⟩
theorem MU {N:Nat} {hd:List Bool}:∀{i:Nat} {l:List Oper} {ds:List Nat} {a:List (List Nat)} {b:List Bool},Eu N hd i l ds a b=true->ds.length=l.length∧b.length=l.length∧a.length=l.length
 | _,[],[],[],[],_=>⟨O,O,O⟩
 | _,[],[],[],_::_,hB=>by simp[Eu] at hB
 | _,[],[],_::_,_,hB=>by simp[Eu] at hB
 | _,[],_::_,_,_,hB=>by simp[Eu] at hB
 | i,x::l,[],_,_,hB=>by simp[Eu] at hB
 | i,x::l,d::ds,[],_,hB=>by simp[Eu] at hB
 | i,x::l,d::ds,ws::a,[],hB=>by simp[Eu] at hB
 | i,x::l,d::ds,ws::a,h0::b,hB=>by
  simp only[Eu,Bool.and_eq_true] at hB;have:=MU hB.2;simp[this.1,this.2.1,this.2.2]
def LP (P:Program) (N:Nat) (ds:List Nat) (Fs:List CJ) (σ:CC) (w:World) (Ms:Nat->Nat->Prop) (cl:List (List Nat)) (i:Nat) (o:Oper) (ws:List Nat) (F:CJ):Prop:=
 ∀(S:Nat->Bool) σ' w',S i=false->(∀j,(cl.getD j []).contains i=true->S j=false)->Chg (λy=>∃j,S j=true∧Ms j y) w w'->(∀t,ds.contains t=false->σ' t=σ t)->(∀j d,ds[j]?=some d->S j=false->σ' d=σ d)->(∀j,ws.contains j=true->S j=true∧H' ds Fs S j σ' w')->
  (KA ds o σ'∧En (Ms i) P N o (λv w=>F (Jv S i) σ' (Go.Eng.valOf o v) w) σ' w')∨(Uj ds o σ'∧F (Jv S i) σ' undef w')
def Em (Ms:Nat->Nat->Prop) (i:Nat) (ws:List Nat) (F:CJ):Prop:=∀p,p≠i->ws.contains p=false->∀S σ v w w',S i=true->S p=false->Chg (Ms p) w w'->F S σ v w->F (Jv S p) σ v w'
def HJ (ds:List Nat) (ws:List Nat) (F:CJ):Prop:=∀S (σ1 σ2:CC),(∀j d,ws.contains j=true->ds[j]?=some d->σ2 d=σ1 d)->∀v w,F S σ1 v w->F S σ2 v w
inductive DagStepsS (P:Program) (N:Nat) (ds:List Nat) (Fs:List CJ) (σ:CC) (w:World) (Ms:Nat->Nat->Prop) (cl:List (List Nat)):Nat->List Oper->List (List Nat)->List Bool->List CJ->Prop where
  | nil {i:Nat}:DagStepsS P N ds Fs σ w Ms cl i [] [] [] []
  | cons {i:Nat} {o:Oper} {ws:List Nat} {F:CJ} {l:List Oper} {wss:List (List Nat)} {hs:List Bool} {Gs:List CJ} (s:Em Ms i ws F) (lc:HJ ds ws F) (h:LP P N ds Fs σ w Ms cl i o ws F) (t:DagStepsS P N ds Fs σ w Ms cl (i+1) l wss hs Gs):DagStepsS P N ds Fs σ w Ms cl i (o::l) (ws::wss) (true::hs) (F::Gs)
  | tail {i:Nat} {o:Oper} {ws:List Nat} {F:CJ} {l:List Oper} {wss:List (List Nat)} {hs:List Bool} {Gs:List CJ} (t:DagStepsS P N ds Fs σ w Ms cl (i+1) l wss hs Gs):DagStepsS P N ds Fs σ w Ms cl i (o::l) (ws::wss) (false::hs) (F::Gs)
def PH (hd:List Bool):Nat->Bool:=λj=>hd.getD j false
def PL (M:Nat->Prop) (ch:List PanicEntry) (X:World->Prop) (P:Program) (N:Nat) (o:Oper) (R:G2) (σ:CC) (w:World):Prop:=
 ∀dz a,Ok dz N a->DQ a=σ->∀(Q:Exit->Act->World->Prop) (K:Act->World->Prop),(∀v w',Chg M w w'->R v w'->K (a.put o.dst v) w')->(∀w',Chg M w w'->X w'->Q (.panic ch) a w')->o.wp P a w K Q
theorem En.x {M:Nat->Prop} {f:List PanicEntry} {X:World->Prop} {P:Program} {N:Nat} {o:Oper} {R:G2} {σ:CC} {w:World} (h:En M P N o R σ w):PL M f X P N o R σ w:=λe a c b Q K d _=>h e a c b Q K d
theorem PL.weak {M:Nat->Prop} {b:List PanicEntry} {X:World->Prop} {P:Program} {N:Nat} {o:Oper} {R R':G2} {σ:CC} {w:World} (h:PL M b X P N o R σ w) (f:∀v w',Chg M w w'->R v w'->R' v w'):PL M b X P N o R' σ w:=λg a i d Q K j e=>h g a i d Q K (λv w' c r=>j v w' c (f v w' c r)) e
def LQ (P:Program) (N:Nat) (ds:List Nat) (Fs:List CJ) (σ:CC) (w:World) (Ms:Nat->Nat->Prop) (Rs:Nat->World->World->Prop) (ch:List PanicEntry) (X:World->Prop) (cl:List (List Nat)) (i:Nat) (o:Oper) (ws:List Nat) (F:CJ):Prop:=
 ∀(S:Nat->Bool) σ' w',S i=false->(∀j,(cl.getD j []).contains i=true->S j=false)->Chg (λy=>∃j,S j=true∧Ms j y) w w'->(∀t,ds.contains t=false->σ' t=σ t)->(∀j d,ds[j]?=some d->S j=false->σ' d=σ d)->(∀j,ws.contains j=true->S j=true∧H' ds Fs S j σ' w')->
  (KA ds o σ'∧PL (Ms i) ch X P N o (λv w=>F (Jv S i) σ' (Go.Eng.valOf o v) w∧Rs i w' w) σ' w')∨(Uj ds o σ'∧F (Jv S i) σ' undef w'∧Rs i w' w')
def WL (Ms:Nat->Nat->Prop) (Rs:Nat->World->World->Prop) (cl:List (List Nat)) (i:Nat) (ws:List Nat) (F:CJ):Prop:=∀p,p≠i->ws.contains p=false->∀S σ v w w',S i=true->S p=false->(∀j,(cl.getD p []).contains j=true->S j=true)->Chg (Ms p) w w'->Rs p w w'->F S σ v w->F (Jv S p) σ v w'
inductive DagStepsG (P:Program) (N:Nat) (ds:List Nat) (Fs:List CJ) (σ:CC) (w:World) (Ms:Nat->Nat->Prop) (Rs:Nat->World->World->Prop) (ch:List PanicEntry) (X:World->Prop) (cl:List (List Nat)):Nat->List Oper->List (List Nat)->List Bool->List CJ->Prop where
  | nil {i:Nat}:DagStepsG P N ds Fs σ w Ms Rs ch X cl i [] [] [] []
  | cons {i:Nat} {o:Oper} {ws:List Nat} {F:CJ} {l:List Oper} {wss:List (List Nat)} {hs:List Bool} {Gs:List CJ} (s:WL Ms Rs cl i ws F) (lc:HJ ds ws F) (h:LQ P N ds Fs σ w Ms Rs ch X cl i o ws F) (t:DagStepsG P N ds Fs σ w Ms Rs ch X cl (i+1) l wss hs Gs):DagStepsG P N ds Fs σ w Ms Rs ch X cl i (o::l) (ws::wss) (true::hs) (F::Gs)
  | tail {i:Nat} {o:Oper} {ws:List Nat} {F:CJ} {l:List Oper} {wss:List (List Nat)} {hs:List Bool} {Gs:List CJ} (t:DagStepsG P N ds Fs σ w Ms Rs ch X cl (i+1) l wss hs Gs):DagStepsG P N ds Fs σ w Ms Rs ch X cl i (o::l) (ws::wss) (false::hs) (F::Gs)
theorem DagStepsG.get {P:Program} {N:Nat} {ds:List Nat} {n:List CJ} {σ:CC} {w:World} {Ms:Nat->Nat->Prop} {d:Nat->World->World->Prop} {m:List PanicEntry} {X:World->Prop} {f:List (List Nat)}:∀{i:Nat} {l:List Oper} {a:List (List Nat)} {q:List Bool} {p:List CJ},DagStepsG P N ds n σ w Ms d m X f i l a q p->∀{j:Nat} {o:Oper},l[j]?=some o->q[j]?=some true->∃ws F,a[j]?=some ws∧p[j]?=some F∧WL Ms d f (i+j) ws F∧HJ ds ws F∧LQ P N ds n σ w Ms d m X f (i+j) o ws F
 | _,_,_,_,_,.nil,j,o,h,_=>by simp at h
 | i,_,_,_,_,.cons s lc h t,0,o,ho,_=>by
  simp at ho;subst ho;exact ⟨_,_,O,O,s,lc,h⟩
 | _,_,_,_,_,.tail t,0,o,h,ht=>by simp at ht
 | i,_,_,_,_,.cons s lc h t,j+1,o,ho,ht=>by
  obtain ⟨ws,F,g,k,c,b,e⟩:=t.get (j:=j) (by simpa using ho) (by simpa using ht);exact ⟨ws,F,by simpa using g,by simpa using k,by rw[show i+(j+1)=i+1+j from qO];exact c,b,by rw[show i+(j+1)=i+1+j from qO];exact e⟩
 | i,_,_,_,_,.tail t,j+1,o,ho,ht=>by
  obtain ⟨ws,F,g,k,c,b,e⟩:=t.get (j:=j) (by simpa using ho) (by simpa using ht);exact ⟨ws,F,by simpa using g,by simpa using k,by rw[show i+(j+1)=i+1+j from qO];exact c,b,by rw[show i+(j+1)=i+1+j from qO];exact e⟩
def I7 (l:List Oper):Nat->Nat->Nat->Bool
  | 0,i,u=>Et l i u
  | k+1,i,u=>Et l i u || (List.range l.length).any λv=>Et l i v && I7 l k v u
def SW (l:List Oper) (hd:List Bool) (ts:List Nat):Bool:=
 (List.range l.length).all λi=>hd.getD i false || (ts.contains i && ((List.range l.length).all (λu=>!hd.getD u false || I7 l 4 i u) || ts.any λp=>!hd.getD p true && Et l i p))
theorem Mx {l:List Oper} {listed:Array Bool} (d:∀(j:Nat) oj,l[j]?=some oj->listed.getD j false=true->∀e∈oj.after,Region.binds .any e=true->listed.getD e.on false=true) :
 ∀(k j u:Nat),listed.getD j false=true->I7 l k j u=true->listed.getD u false=true:=by
 have a:∀j u,listed.getD j false=true->Et l j u=true->listed.getD u false=true:=λj u b c=>by
  unfold Et at c;cases ho:l[j]? with
  | none=>rw[ho] at c;cases c
  | some o=>
   rw[ho] at c;simp only[Array.any_eq_true',Bool.and_eq_true] at c;obtain ⟨e,m,f,i⟩:=c;have:=Nat.eq_of_beq_eq_true i;rw[<-this];exact d j o ho b e m f
 intro k
 induction k with
 | zero=>intro j u b h;exact a j u b h
 | succ k ih=>
  intro j u b h;simp only[I7,Bool.or_eq_true] at h;rcases h with h|h
  .exact a j u b h
  .obtain ⟨v,_,g⟩:=List.any_eq_true.1 h;rw[Bool.and_eq_true] at g;exact ih v u (a j v b g.1) g.2
theorem V3 {P:Program} {N:Nat} {Q:Dn} {σ:CC} {w:World} {id:Nat} {l:List Oper} (Ms:Nat->Nat->Prop) (Rs:Nat->World->World->Prop) (ch:List PanicEntry) (X:World->Prop) (hd:List Bool) (ts:List Nat) (ds:List Nat) (ba cl:List (List Nat)) (Fs:List CJ) {Gs:List CJ} (hG:Fs=Gs) (hC:UW ba cl=true) (hm:P.follows .mixedOrders=true) (hB:Eu N hd 0 l ds ba hd=true) (hn:Ge ds=true)
 (hT:(SW l hd ts && II l.toArray ts hd.toArray)=true) (hN:Nat.beq (Cv hd (List.replicate l.length false)+ts.length) l.length=true)
 (aw:∀D,Ae w D->DagStepsG P N ds Fs σ D Ms Rs ch X cl 0 l cl hd Gs)
 (hX:∀σ' D w',Ae w D->Chg (λy=>∃j,Ms j y) D w'->X w'->Q (.panic ch) σ' w')
 (k:∀σ' D w',Ae w D->Chg (λy=>∃j,hd.getD j false=true∧Ms j y) D w'->(∀t,ds.contains t=false->σ' t=σ t)->(∀j,hd[j]?=some true->H' ds Fs (PH hd) j σ' w')->DT P N l.toArray (Q .normal) Q (ts.filterMap λk=>l[k]?) σ' w'):Wp P N (.region id l.toArray true) Q σ w:=by
 intro dz a ha E;have eQ:Dk dz N (Li (Q .normal) Q)=Dk dz N Q:=by funext e a w;cases e<;>rfl
 refine wp_region_any hm ?_;obtain ⟨D,bf⟩:∃D:World,D={w with drawn:=w.drawn+1}:=⟨_,O⟩;have az:Ae w D:=by rw[bf];exact GO w
 rw[<-bf];have a2:=aw D az;rw[<-hG] at a2;rw[Bool.and_eq_true] at hT;obtain ⟨br,b3⟩:=hT;obtain ⟨hlen,hlen2,hlen3⟩:=MU hB
 let W:Array Bool->Nat->Bool:=λlisted j=>listed.getD j false
 have b1:∀(m:Nat) (listed:Array Bool) (a:Act) (w':World),Cv hd listed.toList=m->listed.size=l.length->(∀(t:Nat),hd[t]?=some false->listed.toList[t]?=some false)->(∀(j:Nat) oj,l[j]?=some oj->listed.getD j false=true->∀e∈oj.after,Region.binds .any e=true->listed.getD e.on false=true)->Ok dz N a->Chg (λy=>∃j,listed.getD j false=true∧Ms j y) D w'->(∀t,ds.contains t=false->DQ a t=σ t)->(∀j d,ds[j]?=some d->listed.getD j false=false->DQ a d=σ d)->(∀j,hd[j]?=some true->listed.getD j false=true->H' ds Fs (W listed) j (DQ a) w')->
  wpAny P .any l.toArray (Dk dz N Q) (m+ts.length) listed a w':=by
  intro m
  induction m with
  | zero=>
   intro listed a w' bm bl ai al ha hx hu ar hh;have hl:listed=hd.toArray:=by
    apply Array.ext';exact Gj (by simp;omega) bm ai
   have bb:W listed=PH hd:=by
    funext j;show listed.getD j false=hd.getD j false;rw[hl];simp[List.getD_eq_getElem?_getD]
   rw[Nat.zero_add];have h1:=k (DQ a) D w' az (hx.mono λy _ h=>by
    obtain ⟨j,h1,h2⟩:=h;have:PH hd j=true:=by rw[<-bb];exact h1
    exact ⟨j,this,h2⟩) hu (λj r=>by rw[<-bb];exact hh j r (CN (by rw[hl];exact r))) dz a ha O
   rw[eQ] at h1;exact Do ts listed a w' (by rw[hl];exact b3) (by simpa using h1)
  | succ m ih=>
   intro listed a w' hcm bl ai al ha hx hu ar hh;obtain ⟨i0,a0,a4⟩:=HY (hd:=hd) (listed:=listed.toList) qO;rw[show m+1+ts.length=(m+ts.length)+1 by omega];refine ⟨λhr=>?_,λi hi=>?_⟩
   .exfalso;have bk:∀i:Nat,hd[i]?=some true->listed.getD i true=true:=by
     intro i
     induction i using Nat.strongRecOn with
     | _ i ihi=>
      intro hi;cases hv:listed.getD i true with
      | true=>rfl
      | false=>
       exfalso;obtain ⟨o,ho⟩:=AX (l:=l) (i:=i) (by have:=AM hi;omega);obtain ⟨d,ws,h,_,_,h2,h3⟩:=GP hB ho;rw[hi] at h2;cases h2;simp only[cond_true,Hd,Bool.and_eq_true,Nat.zero_add] at h3;have:i∈Region.ready .any l.toArray listed:=by
        refine mem_ready.2 ⟨hv,o,by simpa using ho,λe E hb=>?_⟩;have h4:=h3.1.1.2;simp only[Array.all_eq_true_iff_forall_mem,Bool.or_eq_true,Bool.not_eq_true',Bool.and_eq_true] at h4;have g:=(h4 e E).resolve_left (by simp[hb]);have S:e.on<i:=by simpa[Nat.blt_eq] using g.1
        have T:=g.2;have a8:e.on<hd.length:=by have:=AM hi;omega
        have h8:hd[e.on]?=some true:=by
         rw[List.getD_eq_getElem?_getD,List.getElem?_eq_getElem a8,Option.getD_some] at T;rw[List.getElem?_eq_getElem a8,T]
        have h9:=ihi e.on S h8;have r:e.on<listed.size:=qO
        simpa only[Array.getD_eq_getD_getElem?,Array.getElem?_eq_getElem r,Option.getD_some] using h9
       rw[hr] at this;cases this
    have:=bk i0 a0;rw[CN a4] at this;cases this
   .obtain ⟨h1,o,h2,h3⟩:=mem_ready.1 hi;have ho:l[i]?=some o:=by simpa using h2
    have bw:i<l.length:=AM ho;have ak:hd[i]?=some true:=by
     obtain ⟨b,hb⟩:=AX (l:=hd) (i:=i) qO;cases b with
     | true=>exact hb
     | false=>
      exfalso;have h4:=List.all_eq_true.1 br i (List.mem_range.2 bw);rw[List.getD_eq_getElem?_getD,hb,Option.getD_some,Bool.false_or,Bool.and_eq_true,Bool.or_eq_true] at h4;have af:∀u,Et l i u=true->listed.getD u false=true:=λu am=>by
       unfold Et at am;rw[ho] at am;simp only[Array.any_eq_true',Bool.and_eq_true] at am;obtain ⟨e,E,Z,aj⟩:=am;have:=Nat.eq_of_beq_eq_true aj;rw[<-this];exact h3 e E Z
      rcases h4.2 with h5|h5
      .have g:=List.all_eq_true.1 h5 i0 (List.mem_range.2 (by have:=AM a0;omega));rw[List.getD_eq_getElem?_getD,a0,Option.getD_some,Bool.not_true,Bool.false_or] at g;have:listed.getD i0 false=true:=by
        simp only[I7,Bool.or_eq_true] at g;rcases g with g|g
        .exact af i0 g
        .obtain ⟨v,_,T⟩:=List.any_eq_true.1 g;rw[Bool.and_eq_true] at T;refine Mx al 3 v i0 (af v T.1) ?_;simp only[I7];exact T.2
       rw[CN a4] at this;cases this
      .obtain ⟨p,_,g⟩:=List.any_eq_true.1 h5;rw[Bool.and_eq_true,Bool.not_eq_true'] at g;have T:=af p g.2;have hp:hd[p]?=some false:=by
        have h8:=g.1;rw[List.getD_eq_getElem?_getD] at h8;cases h9:hd[p]? with
        | none=>rw[h9] at h8;cases h8
        | some b=>rw[h9,Option.getD_some] at h8;rw[h8]
       rw[CN (ai p hp)] at T;cases T
    obtain ⟨d,ws,h,ac,bo,bj,h4⟩:=GP hB ho;rw[ak] at bj;cases bj;obtain ⟨ci,F,a7,hF,ay,a9,ah⟩:=a2.get ho ak;rw[Nat.zero_add] at ay ah;simp only[cond_true,Hd,Bool.and_eq_true,List.all_eq_true,Array.any_eq_true',Nat.zero_add] at h4;obtain ⟨⟨⟨A,_⟩,a1⟩,ae⟩:=h4;have J:∀j,listed.getD j false=true->hd[j]?=some true:=λj r=>by
     obtain ⟨b,hb⟩:=AX (l:=hd) (i:=j) (by
      rcases Nat.lt_or_ge j listed.size with h9|h9
      .omega
      .simp[Array.getD_eq_getD_getElem?,Array.getElem?_eq_none h9] at r)
     cases b with
     | true=>exact hb
     | false=>rw[CN (ai j hb)] at r;cases r
    have a6:∀j,listed.getD j false=true->∀c,(cl.getD j []).contains c=true->listed.getD c false=true:=by
     intro j
     induction j using Nat.strongRecOn with
     | _ j ihj=>
      intro C c hc;have ab:=J j C;obtain ⟨oc,a3⟩:=AX (l:=l) (i:=j) (by have:=AM ab;omega);obtain ⟨dc,bn,hb,_,bc,bd,h5⟩:=GP hB a3;rw[ab] at bd;cases bd;simp only[cond_true,Hd,Bool.and_eq_true,List.all_eq_true,Array.any_eq_true',Array.all_eq_true_iff_forall_mem,Bool.or_eq_true,Bool.not_eq_true',Nat.zero_add] at h5;have z:∀I∈bn,listed.getD I false=true∧I<j:=by
       intro I H;obtain ⟨e,E,Z,aj⟩:=h5.1.2 I H;have b5:e.on=I:=Nat.eq_of_beq_eq_true aj;have g:=al j oc a3 C e E Z;have T:=(h5.1.1.2 e E).resolve_left (by simp[Z]);rw[b5] at g T;exact ⟨g,by simpa[Nat.blt_eq] using T.1⟩
      rcases Ma hC bc hc with g|⟨I,H,g⟩
      .exact (z c g).1
      .exact ihj I (z I H).2 (z I H).1 c g
    have L:∀j,ci.contains j=true->listed.getD j false=true:=by
     intro j r;have G:(cl.getD i []).contains j=true:=by rw[List.getD_eq_getElem?_getD,a7,Option.getD_some];exact r
     have z:∀I∈ws,listed.getD I false=true:=by
      intro I H;obtain ⟨e,E,Z,aj⟩:=a1 I H;have:e.on=I:=Nat.eq_of_beq_eq_true aj;exact this▸h3 e E Z
     rcases Ma hC bo G with g|⟨I,H,g⟩
     .exact z j g
     .exact a6 I (z I H) j g
    have av:∀j,(cl.getD i []).contains j=true->W listed j=true:=λj r=>L j (by rw[List.getD_eq_getElem?_getD,a7,Option.getD_some] at r;exact r);have bh:W listed i=false:=getD_both h1;have a5:∀j,(cl.getD j []).contains i=true->W listed j=false:=by
     intro j r;cases C:W listed j with
     | false=>rfl
     | true=>
      exfalso;have:=a6 j C i r;rw[getD_both h1] at this;cases this
    have hH:∀j,ci.contains j=true->W listed j=true∧H' ds Fs (W listed) j (DQ a) w':=λj r=>⟨L j r,hh j (J j (L j r)) (L j r)⟩;have M:i<listed.size:=qO
    have bp:W (listed.setIfInBounds i true)=Jv (W listed) i:=by
     funext j;by_cases n:j=i
     .subst n;rw[Rx];show (listed.setIfInBounds j true).getD j false=true;simp[Array.getD_eq_getD_getElem?,M]
     .rw[Vd n];exact getD_set_ne _ (Ne.symm n)
    have V:∀w2,Chg (Ms i) w' w2->Chg (λy=>∃j,(listed.setIfInBounds i true).getD j false=true∧Ms j y) D w2:=by
     intro w2 aa;have hg:(listed.setIfInBounds i true).getD i false=true:=by simp[Array.getD_eq_getD_getElem?,M]
     refine Chg.step (hx.mono λy _ h=>?_) aa (λy _ h=>⟨i,hg,h⟩);obtain ⟨j,h5,g⟩:=h;by_cases n:j=i
     .exact ⟨i,hg,n▸g⟩
     .exact ⟨j,by rw[getD_set_ne _ (Ne.symm n)];exact h5,g⟩
    have aq:∀v w2,Chg (Ms i) w' w2->F (Jv (W listed) i) (DQ a) (Go.Eng.valOf o v) w2∧Rs i w' w2->wpAny P .any l.toArray (Dk dz N Q) (m+ts.length) (listed.setIfInBounds i true) (a.put o.dst v) w2:=by
     rintro v w2 aa ⟨hv,au⟩;have B:(∀t,t≠d->DQ (a.put o.dst v) t=DQ a t)∧DQ (a.put o.dst v) d=Go.Eng.valOf o v:=by
      cases hod:o.dst with
      | none=>
       rw[hod] at A;have bt:N<=d:=Nat.le_of_ble_eq_true A;refine ⟨λt _=>rfl,?_⟩;simp only[Go.Eng.valOf,hod];show a.tmps.getD d undef=undef;have:a.tmps.size<=d:=by rw[ha.size];exact bt
       simp[Array.getElem?_eq_none this]
      | some d'=>
       rw[hod] at A;simp only[Bool.and_eq_true] at A;have b4:d'=d:=Nat.eq_of_beq_eq_true A.1;have x:d<N:=by simpa[Nat.blt_eq] using A.2
       subst b4;rw[EF ha x v];refine ⟨λt ht=>?_,?_⟩
       .have:Nat.beq t d'=false:=by cases hb:Nat.beq t d';rfl;exact absurd (Nat.eq_of_beq_eq_true hb) ht
        simp[Eo,this]
       .simp[Eo,Go.Eng.valOf,hod]
     have bu:listed.toList[i]?=some false:=by
      simp only[Array.getD_eq_getD_getElem?,Array.getElem?_eq_getElem M,Option.getD_some] at h1;rw[Array.getElem?_toList,Array.getElem?_eq_getElem M,h1]
     refine ih _ _ _ ?_ (by simpa using bl) (λt ht=>?_) (λj oj q C e E hb=>?_) (ha.put _ _) (V w2 aa) ?_ ?_ ?_
     .rw[Array.toList_setIfInBounds];have:=GH ak bu;omega
     .rw[Array.toList_setIfInBounds,List.getElem?_set];have ax:i≠t:=λe=>by rw[<-e,ak] at ht;cases ht
      rw[if_neg ax];exact ai t ht
     .refine getD_set_true ?_;by_cases n:j=i
      .subst n;rw[ho] at q;cases q;exact h3 e E hb
      .rw[getD_set_ne _ (Ne.symm n)] at C;exact al j oj q C e E hb
     .intro t ht;rw[B.1 t (λh=>by
       subst h;have:=List.mem_of_getElem? ac;simp[this] at ht),hu t ht]
     .intro j d2 x an;by_cases n:j=i
      .subst n;have b2:(listed.setIfInBounds j true).getD j false=true:=by simp[Array.getD_eq_getD_getElem?,M]
       rw[b2] at an;cases an
      .rw[getD_set_ne _ (Ne.symm n)] at an;rw[B.1 d2 (λh=>by subst h;exact n (Ct hn x ac)),ar j d2 x an]
     .intro j ab r d2 F2 x ao;rw[bp];by_cases n:j=i
      .subst n;rw[ac] at x;cases x;rw[hF] at ao;cases ao;rw[B.2];refine a9 _ (DQ a) _ (λj' d2 G x=>B.1 d2 λE=>?_) _ _ hv;have:=Ct hn (E▸x) ac;subst this;have:=L j' G;rw[getD_both h1] at this;cases this
      .have ax:d2≠d:=by
        intro h;subst h;exact n (Ct hn x ac)
       rw[B.1 d2 ax];rw[getD_set_ne _ (Ne.symm n)] at r;have g:=hh j ab r d2 F2 x ao;obtain ⟨oj,q⟩:=AX (l:=l) (i:=j) (by have:=AM ab;omega);obtain ⟨cj,Fj,bs,bi,be,C,_⟩:=a2.get q ab;rw[ao] at bi;cases bi;rw[Nat.zero_add] at be;have bv:cl.getD j []=cj:=by rw[List.getD_eq_getElem?_getD,bs,Option.getD_some]
       have U:cj.contains i=false:=by
        cases U:cj.contains i with
        | false=>rfl
        | true=>
         exfalso;have:=a5 j (by rw[bv];exact U);have G:W listed j=true:=r;rw[G] at this;cases this
       refine C _ (DQ a) _ (λj' d3 G b0=>B.1 d3 λE=>?_) _ _ (be i (Ne.symm n) U (W listed) (DQ a) _ _ _ r bh av aa au g);have h8:=Ct hn (E▸b0) ac;subst h8;rw[U] at G;cases G
    have gd:∀j b,o.guard=some (j,b)->∀K,ds[j]?=some K->((∃oj,l[j]?=some oj∧oj.dst=some K)∧K<N)∨(N<=K∧∃oj,l[j]?=some oj∧oj.dst=none):=λj b s K ad=>by
     obtain ⟨oj,q⟩:=AX (l:=l) (i:=j) (by have:=AM ad;omega);obtain ⟨dj',_,r,ap,_,h5,g⟩:=GP hB q;rw[ad] at ap;cases ap;unfold JI at ae;rw[s] at ae;simp only at ae;have T:r=true:=by rw[List.getD_eq_getElem?_getD,h5,Option.getD_some] at ae;exact ae
     rw[T] at g;simp only[cond_true,Bool.and_eq_true,Hd] at g;have f:=g.1.1.1;split at f
     .rename_i d2 hq
      rw[Bool.and_eq_true] at f;exact .inl ⟨⟨oj,q,by rw[hq,Nat.eq_of_beq_eq_true f.1]⟩,by simpa[Nat.blt_eq] using f.2⟩
     .rename_i hq
      exact .inr ⟨Nat.le_of_ble_eq_true f,oj,q,hq⟩
    rcases ah (W listed) (DQ a) w' bh a5 hx hu ar hH with ⟨hg,bx⟩|⟨⟨j,b,K,s,ad,R⟩,bg,au⟩
    .have hw:Region.wanted o (yielded l.toArray a.tmps)=true:=by
      cases s:o.guard with
      | none=>simp[Region.wanted,s]
      | some p=>
       obtain ⟨j,b⟩:=p;obtain ⟨K,ad,R⟩:=hg j b s;rcases gd j b s K ad with ⟨f,ag⟩|⟨bq,_⟩
       .have g:a.tmps[K]?=some (Value.bool b):=by
         have h2:a.tmps.getD K undef=.bool b:=R;have S:K<a.tmps.size:=by rw[ha.size];exact ag
         rw[Array.getElem?_eq_getElem S];simpa[S] using h2
        obtain ⟨oj,q,f⟩:=f;simp[Region.wanted,s,yielded,q,f,g]
       .exfalso;have h2:a.tmps.getD K undef=.bool b:=R;have:a.tmps.size<=K:=by rw[ha.size];exact bq
        simp[Array.getElem?_eq_none this,undef] at h2
     unfold wpOp;simp only[h2,hw,if_true];exact Or.inl (bx _ a ha O _ _ aq (λw2 aa bz=>⟨ha,hX (DQ a) D w2 az ((V w2 aa).mono λy _ h=>h.imp λj h=>h.2) bz⟩))
    .have hw:Region.wanted o (yielded l.toArray a.tmps)=false:=by
      rcases gd j b s K ad with ⟨f,ag⟩|⟨_,oj,q,hq⟩
      .have S:K<a.tmps.size:=by rw[ha.size];exact ag
       have g:a.tmps[K]?=some (DQ a K):=by
        rw[Array.getElem?_eq_getElem S];simp[DQ,S]
       obtain ⟨oj,q,f⟩:=f;rcases R with R|R
       .rw[R] at g;cases b<;>simp[Region.wanted,s,yielded,q,f,g]
       .rw[R] at g;simp[Region.wanted,s,yielded,q,f,g,undef]
      .simp[Region.wanted,s,yielded,q,hq]
     unfold wpOp;simp only[h2,hw,Bool.false_eq_true,if_false];exact aq undef w' (Chg.refl _ _) (by
      have:Go.Eng.valOf o undef=undef:=by unfold Go.Eng.valOf;split<;>rfl
      rw[this];exact ⟨bg,au⟩)
 have h1:=b1 (Cv hd (Array.replicate l.toArray.size false).toList) (Array.replicate l.toArray.size false) a D O qP (λt ht=>by have h9:=AM ht;rw[Array.toList_replicate,List.getElem?_replicate,if_pos (by rw[List.size_toArray];omega)]) (λj oj _ hl=>(by rw[getD_replicate_false] at hl;cases hl)) ha (Chg.refl _ _) (λt _=>by rw[E]) (λj d _ _=>by rw[E]) (λj _ r=>by rw[getD_replicate_false] at r;cases r);have e3:Cv hd (Array.replicate l.toArray.size false).toList+ts.length=l.toArray.size:=by have h9:=Nat.eq_of_beq_eq_true hN;simpa using h9
 rw[e3] at h1;exact h1
theorem LP.toG {P:Program} {N:Nat} {ds:List Nat} {j:List CJ} {σ:CC} {w:World} {Ms:Nat->Nat->Prop} {k:List (List Nat)} {i:Nat} {o:Oper} {ws:List Nat} {F:CJ} (h:LP P N ds j σ w Ms k i o ws F):LQ P N ds j σ w Ms (λ_ _ _=>True) [] (λ_=>False) k i o ws F:=λS σ' w' a b c d e f=>
 (h S σ' w' a b c d e f).imp (λ⟨g,h⟩=>⟨g,(En.x h).weak λ_ _ _ r=>⟨r,trivial⟩⟩) λ⟨u,f⟩=>⟨u,f,trivial⟩
theorem DagStepsS.toG {P:Program} {N:Nat} {ds:List Nat} {b:List CJ} {σ:CC} {w:World} {Ms:Nat->Nat->Prop} {d:List (List Nat)}:∀{i:Nat} {l:List Oper} {a:List (List Nat)} {e:List Bool} {c:List CJ},DagStepsS P N ds b σ w Ms d i l a e c->DagStepsG P N ds b σ w Ms (λ_ _ _=>True) [] (λ_=>False) d i l a e c
 | _,_,_,_,_,.nil=>.nil
 | _,_,_,_,_,.cons s lc h t=>.cons (λp g m S σ v w w' hi j _ k _ f=>s p g m S σ v w w' hi j k f) lc h.toG t.toG
 | _,_,_,_,_,.tail t=>.tail t.toG
theorem EH {P:Program} {N:Nat} {Q:Dn} {σ:CC} {w:World} {m:Nat} {l:List Oper} (Ms:Nat->Nat->Prop) (hd:List Bool) (d:List Nat) (ds:List Nat) (b g:List (List Nat)) (f:List CJ) {i:List CJ} (s:f=i) (p:UW b g=true) (q:P.follows .mixedOrders=true) (r:Eu N hd 0 l ds b hd=true) (hn:Ge ds=true)
 (n:(SW l hd d && II l.toArray d hd.toArray)=true) (o:Nat.beq (Cv hd (List.replicate l.length false)+d.length) l.length=true)
 (c:∀a,Ae w a->DagStepsS P N ds f σ a Ms g 0 l g hd i)
 (k:∀σ' a w',Ae w a->Chg (λy=>∃j,hd.getD j false=true∧Ms j y) a w'->(∀t,ds.contains t=false->σ' t=σ t)->(∀j,hd[j]?=some true->H' ds f (PH hd) j σ' w')->DT P N l.toArray (Q .normal) Q (d.filterMap λk=>l[k]?) σ' w'):Wp P N (.region m l.toArray true) Q σ w:=
 V3 Ms (λ_ _ _=>True) [] (λ_=>False) hd d ds b g f s p q r hn n o (λa e=>(c a e).toG) (λ_ _ _ _ _ h=>h.elim) k
section
variable {Ms : Nat → Nat → Prop} {i : Nat} {ws ds : List Nat}
theorem Em.eq {u:Value}:Em Ms i ws (λ_ _ v _=>v=u):=λ_ _ _ _ _ _ _ _ _ _ _ h=>h
theorem Em.chg {F:G2} {U:Nat->Prop} (a:∀v w w',Chg U w w'->F v w->F v w') (e:∀p y,p≠i->ws.contains p=false->Ms p y->U y):Em Ms i ws (λ_ _=>F):=
 λp c d _ _ v w w' _ _ x h=>a v w w' (x.mono λy _ b=>e p y c d b) h
theorem HJ.const {G:(Nat->Bool)->G2}:HJ ds ws (λS _=>G S):=λ_ _ _ _ _ _ h=>h
end
theorem qZ {P:Program} {N:Nat} {ds:List Nat} {k:List CJ} {σ:CC} {w:World} {Ms:Nat->Nat->Prop} {m:List (List Nat)} {i:Nat} {dst:Option Tmp} {op:Op} {ty:TypeId} {pos:String} {af:Array Edge} {ws:List Nat} {u:Value} {l:List Oper} {g:List (List Nat)} {n:List Bool} {o:List CJ}
 (h:∀(S:Nat->Bool) σ' w',S i=false->(∀j,(m.getD j []).contains i=true->S j=false)->Chg (λy=>∃j,S j=true∧Ms j y) w w'->(∀t,ds.contains t=false->σ' t=σ t)->(∀j d,ds[j]?=some d->S j=false->σ' d=σ d)->(∀j,ws.contains j=true->S j=true∧H' ds k S j σ' w')->En (Ms i) P N ⟨dst,op,ty,pos,af,none⟩ (λv _=>Go.Eng.valOf ⟨dst,op,ty,pos,af,none⟩ v=u) σ' w')
 (t:DagStepsS P N ds k σ w Ms m (i+1) l g n o):DagStepsS P N ds k σ w Ms m i (⟨dst,op,ty,pos,af,none⟩::l) (ws::g) (true::n) ((eF u)::o):=
 .cons Em.eq HJ.const (λS p w' a b c d e f=>.inl ⟨AD O,h S p w' a b c d e f⟩) t
section
variable {M : Nat → Prop} {P : Program} {N : Nat} {o : Oper} {R : G2} {σ : CC} {w : World} {dst : Option Tmp} {ty : TypeId} {pos : String} {af : Array Edge} {g : Option (Nat × Bool)} {t : TypeId}
theorem AT {v:Value} (a:(execOp (ev σ) o).run P w=.ok (.value v) w) (h:R v w):En M P N o R σ w:=Ba a (Chg.refl _ _) h
theorem Cr {f:FuncId} {args:Array Value} (b:(execOp (ev σ) o).run P w=.ok (.enter f args) w) (a:Bi P f args w λv w'=>R v w'∧Ae w w'):En M P N o R σ w:=
 HK b (a.mono λ_ _ h=>⟨h.1,Ae.chg h.2⟩)
theorem PM {d a:Nat} {z:Value} {c:Array Value} (f:Ex P t z) (b:z.cells=c) (e:a<=w.heap.size):En M P N ⟨some d,.alloc t,ty,pos,af,g⟩ (RD t c a) σ w:=by
 subst b;have hn:=New.mk' w z.cells t;exact Ba (v:=.pointer (some ⟨w.heap.size,0,none⟩)) (by simp[execOp,Instr.alloc,f.run,newVar,newRow]) (Ae.chg hn.ext) ⟨_,O,hn.blk,e⟩
end
end Go.Eng
namespace Go.Eng
open Go
def bS (l:List UInt8):ByteArray:=⟨l.toArray⟩
theorem XJ (l m:List UInt8):bS l++bS m=bS (l++m):=by
 unfold bS;apply ByteArray.ext;simp
theorem RC (l:List UInt8):(bS l).size=l.length:=by simp[bS,ByteArray.size]
theorem D8 {P:Program} {σ:CC} {w:World} {dst:Option Tmp} {ty t t':TypeId} {pos:String} {af:Array Edge} {g:Option (Nat×Bool)} {x y:Operand} {l m n:List UInt8} (b:ev σ x=.string (bS l)) (c:ev σ y=.string (bS m)) (a:l++m=n) (hn:n.length<=1000000000):(execOp (ev σ) ⟨dst,.binOp .add t x y t',ty,pos,af,g⟩).run P w=.ok (.value (.string (bS n))) w:=by
 subst a;have d:((bS l).size:Int)+((bS m).size:Int)<=9223372036854775807:=by rw[RC,RC];rw[List.length_append] at hn;omega
 simp only[execOp,b,c,eqGuard,binOp];simp[Op.stringOp,XJ,d]
end Go.Eng
namespace Go.Proofs
open Go Go.Eng Go.Sort Go.Lib
set_option maxRecDepth 100000
theorem XI {l m:Mj} (h:bS l=bS m):l=m:=by
 unfold bS at h;have:=congrArg (λx=>x.data.toList) h;simpa using this
def EC (t:Re):ByteArray:=bS (Hz t)
def Dj (w:World):Prop:=∃t fr,w.heap[1]?=some (.cells (pow10Tab.map λz=>Value.int .u64 z).toArray t fr)
theorem Qf : prog.globalNamed "internal/strconv.uint64pow10" = some 1 := by kernel_rfl
theorem Dj.of {w : World} (h : TabIs prog w "internal/strconv.uint64pow10" .u64 pow10Tab) : Dj w := by
 unfold TabIs World.var? at h;rw[Qf,Option.bind_some] at h;split at h
 .rename_i cs t fr hh
  cases h;exact ⟨t,fr,hh⟩
 .cases h
theorem Dj.tab {w : World} (h : Dj w) : TabIs prog w "internal/strconv.uint64pow10" .u64 pow10Tab := by
 obtain ⟨t,fr,a⟩:=h;unfold TabIs World.var?;rw[Qf,Option.bind_some,a]
theorem Dj.lt {w:World} (h:Dj w):1<w.heap.size:=by
 obtain ⟨t,fr,a⟩:=h;exact (Array.getElem?_eq_some_iff.1 a).1
theorem Dj.chg {M:Nat->Prop} {w w':World} (h:Dj w) (c:Chg M w w') (d:¬M 1):Dj w':=by
 have a:=h.lt;obtain ⟨t,e,b⟩:=h;exact ⟨t,e,(c.blk _ a d).trans b⟩
theorem Dj.ext {w w':World} (h:Dj w) (c:Ae w w'):Dj w':=h.chg c λf=>f
theorem Kt (a:World) (n:Int) (h0:0<=n) (h1:n<=2000000) (b:Dj a):Bi prog 118 #[.int .i64 n] a λv w=>v=.string (bS (itoa n))∧Ae a w:=by
 refine (Any.strconv_Itoa Tryz.itoaS n qO qO a b.tab).mono ?_;rintro e w' ⟨rfl,k,os,rfl⟩;refine ⟨_,O,O,Ae.of_below ?_ (by show a.drawn<=a.drawn+k;omega)⟩;exact below_grow _ _ (Nat.le_refl _) k os
def XP (t:Re):Mj:=((((([40]++itoa t.kind)++[32])++itoa t.mn)++[32])++itoa t.mx)
def NA (t:Re) (j:Nat):Mj:=XP t++Dh (t.set.take j)
def Rq (t:Re) (j:Nat):Mj:=(XP t++Dh t.set)++C0 (t.args.take j)
theorem MK:∀(l m:List (Int×Int)),Dh (l++m)=Dh l++Dh m
 | [],m=>rfl
 | p::l,m=>by rw[List.cons_append,Dh,Dh,MK l m];simp
theorem JE:∀(l m:List Re),C0 (l++m)=C0 l++C0 m
 | [],m=>by rw[List.nil_append,C0];rfl
 | p::l,m=>by rw[List.cons_append,C0,C0,JE l m];simp
theorem Tv {t:Re} {j:Nat} {p:Int×Int} (h:t.set[j]?=some p):NA t j++((([32]++itoa p.1)++[45])++itoa p.2)=NA t (j+1):=by
 unfold NA;rw[List.take_add_one,h,Option.toList_some,MK,Dh,Dh];simp
theorem Tu {t x:Re} {j:Nat} (h:t.args[j]?=some x):Rq t j++Hz x=Rq t (j+1):=by
 unfold Rq;rw[List.take_add_one,h,Option.toList_some,JE,C0,C0];simp
theorem Oh (t:Re):NA t 0=XP t:=by unfold NA;rw[List.take_zero,Dh,List.append_nil]
theorem Tt (t:Re) {j:Nat} (h:j=t.set.length):NA t j=Rq t 0:=by unfold NA Rq;rw[h,List.take_length,List.take_zero,C0,List.append_nil]
theorem M_ (t:Re) {j:Nat} (h:j=t.args.length):Rq t j++[41]=Hz t:=by
 obtain ⟨k,s,a,m,x,g⟩:=t;unfold Rq XP;rw[h,List.take_length,Hz];simp[Re.kind,Re.mn,Re.mx,Re.set,Re.args]
theorem HO {t:Re} (h:Au t):(0<=t.kind∧t.kind<=8)∧(0<=t.mn∧t.mn<=8)∧(0<=t.mx∧t.mx<=8)∧∀p∈t.set,(0<=p.1∧p.1<=1114111)∧(0<=p.2∧p.2<=1114111):=by
 have hn:=h.n;have hk:=hn.ks;refine ⟨qO,?_,?_,λp c=>?_⟩
 .by_cases a:t.kind=6
  .obtain ⟨y,_,_,_,d,b,e,_⟩:=hn.k6 a;omega
  .have:=hn.mm a;omega
 .by_cases a:t.kind=6
  .obtain ⟨y,_,_,_,d,b,e,_⟩:=hn.k6 a;omega
  .have:=hn.mm a;omega
 .by_cases b:t.kind=2
  .have:=(Gq (hn.k2 b).2).1.ok p c;unfold EZ at this;omega
  .rw[hn.st b] at c;cases c
mutual
theorem I1:∀{t:Re},Au t->JX t
 | .mk k s a m x g,h=>by
  have b:=HO h;refine ⟨b.1.1,b.2.1.1,b.2.2.1.1,λp c=>?_,h.1.ng,KV h.2⟩;have:=b.2.2.2 p c;exact ⟨this.1.1,this.2.1⟩
theorem KV:∀{a:List Re},EX a->Is a
 | [],_=>trivial
 | _::_,h=>⟨I1 h.1,KV h.2⟩
end
theorem VX {t t':Re} (h:Au t) (a:Au t') (e:EC t=EC t'):t=t':=Tx (I1 h) (I1 a) (XI e)
theorem Q3:∀(k u:Nat),u<10 ^ (k+1)->(decDigits u).length<=k+1
 | 0,u,h=>by
  rw[decDigits,dif_pos (by simpa using h)];exact Nat.le_refl 1
 | k+1,u,h=>by
  rw[decDigits];split
  .simp
  .have a:u / 10<10 ^ (k+1):=by rw[Nat.pow_succ] at h;omega
   have h2:=Q3 k _ a;simp only[List.length_append,List.length_singleton];omega
theorem ED {n:Int} (h0:0<=n) (h:n<=2000000):(itoa n).length<=7:=by
 unfold itoa;rw[if_neg qO];exact Q3 6 _ qO
theorem MJ:∀{l:List (Int×Int)},(∀p∈l,(0<=p.1∧p.1<=1114111)∧(0<=p.2∧p.2<=1114111))->(Dh l).length<=16*l.length
 | [],_=>Nat.zero_le _
 | p::l,h=>by
  have a:=h p List.mem_cons_self;have h2:=ED a.1.1 qO;have h3:=ED a.2.1 qO;have h4:=MJ (l:=l) λq b=>h q (List.mem_cons_of_mem _ b);simp only[Dh,List.length_cons,List.length_append];omega
theorem Qq {t:Re} (h:Au t):(XP t).length<=24:=by
 obtain ⟨b,c,a,_⟩:=HO h;have h4:=ED b.1 qO;have h5:=ED c.1 qO;have h6:=ED a.1 qO;unfold XP;simp only[List.length_append,List.length_cons,List.length_nil];omega
theorem Ls {t:Re} (h:Au t):t.set.length<=16:=by
 by_cases a:t.kind=2
 .exact (Gq (h.n.k2 a).2).2
 .rw[h.n.st a];exact Nat.zero_le _
theorem Qp {t:Re} (h:Au t) (j:Nat):(NA t j).length<=280:=by
 have h1:=Qq h;have h2:=Ls h;have a:=MJ (l:=t.set.take j) λp b=>(HO h).2.2.2 p (List.mem_of_mem_take b);rw[List.length_take] at a;unfold NA;rw[List.length_append];omega
mutual
theorem Kr:∀{t:Re},Au t->(Hz t).length<=400*t.size
 | .mk k s a m x g,h=>by
  have h1:=ML h.2;have b:=Qp h s.length;have e:=M_ (.mk k s a m x g) (j:=a.length) O;rw[<-e];unfold NA at b;unfold Rq;rw[show (Re.mk k s a m x g).args=a from O,show (Re.mk k s a m x g).set=s from rfl] at *;rw[List.take_length] at *;simp only[List.length_append,List.length_cons,List.length_nil,Re.size] at *;omega
theorem ML:∀{a:List Re},EX a->(C0 a).length<=400*Re.sizes a
 | [],_=>Nat.zero_le _
 | t::a,h=>by
  have h1:=Kr h.1;have h2:=ML h.2;simp only[C0,List.length_append,Re.sizes];omega
end
theorem VY {t:Re} (h:Au t) (j:Nat):(Rq t j).length<=400*t.size:=by
 have a:=Kr h;rw[<-M_ t (j:=t.args.length) rfl] at a;unfold Rq at *;rw[List.take_length] at a;have h2:(C0 (t.args.take j)).length<=(C0 t.args).length:=by
  conv=>rhs;rw[<-List.take_append_drop j t.args,JE,List.length_append]
  omega
 simp only[List.length_append] at *;omega
theorem Tj:∀(n:Nat),n<=1000000->∀(t:Re) (z:World) (vs:List Value),t.size<=n->Au t->Dj z->A4 z t vs->
 Bi prog 89 #[.agg vs.toArray] z λv w=>v=.string (EC t)∧Ae z w:=by
 intro n
 induction n with
 | zero=>intro _ t z vs hn;have:=t.size_pos;omega
 | succ n ih=>
 intro hnn t z vs hn G P ht;have ht0:=ht;obtain ⟨sa,sc,aa,ac,rfl,ab,hlen,F⟩:=ht.form;obtain ⟨ad,Z,a7,a2⟩:=HO G;have l1:=ED ad.1 qO;have l2:=ED Z.1 qO;have l3:=Qq G;have l4:=Kr G;have l7:=Ls G;have l8:=CR t;refine qR func89 O ntmps89 O (λE=>(AA (BL (v:=(.agg (R6 t sa sc aa ac))) (c:=(R6 t sa sc aa ac)) qD O O ?_)));intro r wr Nr;replace E:=E.ext Nr.ext;have g:=Nr.blk;refine qA _ O (AB ?_);have hz_1:z.heap.size<=wr.heap.size:=E.size;have lz_1_br:r<wr.heap.size:=g.lt;refine AG ?_;obtain ⟨az,d⟩:∃Fs:List CJ,Fs=[(eF (P6 r 0)),(eF (I6 t.kind)),(eF (.string (bS (itoa t.kind)))),(eF (.string (bS ([40]++itoa t.kind)))),(eF (.string (bS (([40]++itoa t.kind)++[32])))),(eF (P6 r 3)),(eF (I6 t.mn)),(eF (.string (bS (itoa t.mn)))),(eF (.string (bS ((([40]++itoa t.kind)++[32])++itoa t.mn)))),(eF (.string (bS (((([40]++itoa t.kind)++[32])++itoa t.mn)++[32])))),(eF (P6 r 4)),(eF (I6 t.mx)),(eF (.string (bS (itoa t.mx)))),(eF (.string (bS (NA t 0)))),(eF undef)]:=⟨_,O⟩;refine EH (NT []) [true,true,true,true,true,true,true,true,true,true,true,true,true,true,false] [14] [8,9,10,11,12,13,14,15,16,17,18,19,20,21,69] [[],[0],[1],[2],[3],[],[5],[2,6],[4,7],[8],[],[10],[7,11],[9,12],[]] [[],[0],[1,0],[2,1,0],[3,2,1,0],[],[5],[2,1,0,6,5],[4,3,2,1,0,7,6,5],[8,4,3,2,1,0,7,6,5],[],[10],[7,2,1,0,6,5,11,10],[9,8,4,3,2,1,0,7,6,5,12,11,10],[]] az d qK mixed qK qK qK qK ?_ ?_
 .intro wd q;refine qZ (λS f w' hi p X U V H=>?_) ?_
  .replace X:=CK X;exact AT (AY (U 1 O) underlying25 O Ay O) O
  refine qZ (λS f w' hi p X U V H=>?_) ?_
  .replace X:=CK X;have e8:=(H 0 O).2 8 _ O (by rw[d];rfl);exact AT (AL e8 Al (((q.trans X).keep g).cell O)) O
  refine qZ (λS f w' hi p X U V H=>?_) ?_
  .replace X:=CK X;have e9:=(H 1 O).2 9 _ O (by rw[d];rfl);exact Cr (AI func118 kQ kQ (G9 e9)) ((Kt _ t.kind ad.1 qO (P.ext (Ae.trans E (q.trans X)))).mono (λv w h=>h))
  refine qZ (λS f w' hi p X U V H=>?_) ?_
  .replace X:=CK X;have av:=(H 2 O).2 10 _ O (by rw[d];rfl);exact AT (D8 (n:=([40]++itoa t.kind)) O av O (by simp only[List.length_append,List.length_cons,List.length_nil];omega)) O
  refine qZ (λS f w' hi p X U V H=>?_) ?_
  .replace X:=CK X;have a1:=(H 3 O).2 11 _ O (by rw[d];rfl);exact AT (D8 (n:=(([40]++itoa t.kind)++[32])) a1 O O (by simp only[List.length_append,List.length_cons,List.length_nil];omega)) O
  refine qZ (λS f w' hi p X U V H=>?_) ?_
  .replace X:=CK X;exact AT (AY (U 1 O) underlying25 O Ay O) O
  refine qZ (λS f w' hi p X U V H=>?_) ?_
  .replace X:=CK X;have ag:=(H 5 O).2 13 _ O (by rw[d];rfl);exact AT (AL ag Al (((q.trans X).keep g).cell O)) O
  refine qZ (λS f w' hi p X U V H=>?_) ?_
  .replace X:=CK X;have aj:=(H 6 O).2 14 _ O (by rw[d];rfl);exact Cr (AI func118 kQ kQ (G9 aj)) ((Kt _ t.mn Z.1 qO (P.ext (Ae.trans E (q.trans X)))).mono (λv w h=>h))
  refine qZ (λS f w' hi p X U V H=>?_) ?_
  .replace X:=CK X;have ak:=(H 4 O).2 12 _ O (by rw[d];rfl);have am:=(H 7 O).2 15 _ O (by rw[d];rfl);exact AT (D8 (n:=((([40]++itoa t.kind)++[32])++itoa t.mn)) ak am O (by simp only[List.length_append,List.length_cons,List.length_nil];omega)) O
  refine qZ (λS f w' hi p X U V H=>?_) ?_
  .replace X:=CK X;have ah:=(H 8 O).2 16 _ O (by rw[d];rfl);exact AT (D8 (n:=(((([40]++itoa t.kind)++[32])++itoa t.mn)++[32])) ah O O (by simp only[List.length_append,List.length_cons,List.length_nil];omega)) O
  refine qZ (λS f w' hi p X U V H=>?_) ?_
  .replace X:=CK X;exact AT (AY (U 1 O) underlying25 O Ay O) O
  refine qZ (λS f w' hi p X U V H=>?_) ?_
  .replace X:=CK X;have ap:=(H 10 O).2 18 _ O (by rw[d];rfl);exact AT (AL ap Al (((q.trans X).keep g).cell O)) O
  refine qZ (λS f w' hi p X U V H=>?_) ?_
  .replace X:=CK X;have aw:=(H 11 O).2 19 _ O (by rw[d];rfl);exact Cr (AI func118 kQ kQ (G9 aw)) ((Kt _ t.mx a7.1 qO (P.ext (Ae.trans E (q.trans X)))).mono (λv w h=>h))
  refine qZ (λS f w' hi p X U V H=>?_) ?_
  .replace X:=CK X;have a0:=(H 9 O).2 17 _ O (by rw[d];rfl);have ax:=(H 12 O).2 20 _ O (by rw[d];rfl);exact AT (D8 (n:=NA t 0) a0 ax (Oh t).symm (by rw[Oh];omega)) O
  refine DagStepsS.tail ?_;exact DagStepsS.nil
 .intro f wd1 w1 q N U H;replace N:=N.mono (M':=Ak) (λy _ h=>by
   obtain ⟨j,hj,h⟩:=h;exact h.elim)
  have an:=H 13 O 21 _ O (by rw[d];rfl);obtain ⟨j1,rfl⟩:=Am.out (σ:=f) (l:=[(1,(.pointer (some ⟨r,0,none⟩))),(21,(.string (bS (NA t 0))))]) ⟨U 1 O,an,trivial⟩;clear U H;replace g:=(q.trans N).keep g;replace N:=q.trans N;replace E:=E.ext N;refine qA _ O (AB (AC (AG (AA (qF r 0 1 O underlying25 O CM O (qV (AL O Cb (g.cell O)) (qV (Aa underlying22 O) (qM _ O (AB (AU (Av (λnn_ σ W2=>∃(k:Nat),(∃jj_,σ=Bj jj_ [(1,(P6 r 0)),(23,(.slice sa t.set.length sc)),(24,(I6 (t.set.length:Int))),(25,(I6 (k:Int))),(3,(.string (bS (NA t k))))])∧Chg Ak z W2∧BH W2 r (R6 t sa sc aa ac) 25∧(k<=t.set.length)∧nn_=t.set.length - k) (n:=t.set.length - 0) ?_ ?_)))))))))))
  .exact ⟨0,Am.out ⟨O,O,O,O,O,trivial⟩,E,g,Nat.zero_le _,O⟩
  .clear E g;rintro _ _ W2 ⟨k,⟨j2,rfl⟩,E,g,hk,rfl⟩;refine AA (qV (BE O O) (AB (AG (qC O (λae=>?_) (λae=>?_)))))
   .obtain ⟨s,L⟩:=AX (l:=t.set) (i:=k) qO;have A:=a2 s (List.mem_of_getElem? L);have l5:=ED A.1.1 qO;have l6:=ED A.2.1 qO;obtain ⟨b,o,rfl,a9⟩:=Bd ab qO;refine AO (AC (AG (AU (AA (qV (AN (b:=b) (o:=o) (len:=t.set.length) (cap:=sc) (i:=k) (o':=o+k*2) O O O underlying22 BU qO qO) (qV (AK O Ew BU O ((a9 k s L).ext E)) (As (v:=(.agg #[(I6 s.1),(I6 s.2)])) (c:=#[(I6 s.1),(I6 s.2)]) (n:=2) qD Ed O BU O O O qS ?_)))))));intro bz wz u;have Fz:=u.ge E;have D:=u.lt g;replace g:=u.keep g;replace E:=E.ext u.ext;have B:=u.blk;refine AB ?_;have hz_4:z.heap.size<=wz.heap.size:=E.size;have lz_4_br:r<wz.heap.size:=g.lt;have lz_4_bz:bz<wz.heap.size:=B.lt;obtain ⟨a6,e⟩:∃Fs:List CJ,Fs=[(eF (.string (bS (NA t k)))),(eF (P6 bz 0)),(eF (I6 s.1)),(eF (.string (bS (itoa s.1)))),(eF (.string (bS ([32]++itoa s.1)))),(eF (.string (bS (([32]++itoa s.1)++[45])))),(eF (P6 bz 1)),(eF (I6 s.2)),(eF (.string (bS (itoa s.2)))),(eF (.string (bS ((([32]++itoa s.1)++[45])++itoa s.2)))),(eF (.string (bS (NA t (k+1))))),(eF undef)]:=⟨_,O⟩;refine EH (NT []) [true,true,true,true,true,true,true,true,true,true,true,false] [11] [29,30,31,32,33,34,35,36,37,38,39,66] [[],[],[1],[2],[3],[4],[],[6],[3,7],[5,8],[0,9],[]] [[],[],[1],[2,1],[3,2,1],[4,3,2,1],[],[6],[3,2,1,7,6],[5,4,3,2,1,8,7,6],[0,9,5,4,3,2,1,8,7,6],[]] a6 e qK mixed qK qK qK qK ?_ ?_
    .intro wd q;refine qZ (λS f w' hi p X U V H=>?_) ?_
     .replace X:=CK X;exact AT (Ai (U 3 O)) O
     refine qZ (λS f w' hi p X U V H=>?_) ?_
     .replace X:=CK X;exact AT (AY (U 5 O) underlying80 O Ay O) O
     refine qZ (λS f w' hi p X U V H=>?_) ?_
     .replace X:=CK X;have a4:=(H 1 O).2 30 _ O (by rw[e];rfl);exact AT (AL a4 Al (((q.trans X).keep B).cell O)) O
     refine qZ (λS f w' hi p X U V H=>?_) ?_
     .replace X:=CK X;have a8:=(H 2 O).2 31 _ O (by rw[e];rfl);exact Cr (AI func118 kQ kQ (G9 a8)) ((Kt _ s.1 A.1.1 qO (P.ext (Ae.trans E (q.trans X)))).mono (λv w h=>h))
     refine qZ (λS f w' hi p X U V H=>?_) ?_
     .replace X:=CK X;have af:=(H 3 O).2 32 _ O (by rw[e];rfl);exact AT (D8 (n:=([32]++itoa s.1)) O af O (by simp only[List.length_append,List.length_cons,List.length_nil];omega)) O
     refine qZ (λS f w' hi p X U V H=>?_) ?_
     .replace X:=CK X;have ai:=(H 4 O).2 33 _ O (by rw[e];rfl);exact AT (D8 (n:=(([32]++itoa s.1)++[45])) ai O O (by simp only[List.length_append,List.length_cons,List.length_nil];omega)) O
     refine qZ (λS f w' hi p X U V H=>?_) ?_
     .replace X:=CK X;exact AT (AY (U 5 O) underlying80 O Ay O) O
     refine qZ (λS f w' hi p X U V H=>?_) ?_
     .replace X:=CK X;have aq:=(H 6 O).2 35 _ O (by rw[e];rfl);exact AT (AL aq Al (((q.trans X).keep B).cell O)) O
     refine qZ (λS f w' hi p X U V H=>?_) ?_
     .replace X:=CK X;have ay:=(H 7 O).2 36 _ O (by rw[e];rfl);exact Cr (AI func118 kQ kQ (G9 ay)) ((Kt _ s.2 A.2.1 qO (P.ext (Ae.trans E (q.trans X)))).mono (λv w h=>h))
     refine qZ (λS f w' hi p X U V H=>?_) ?_
     .replace X:=CK X;have au:=(H 5 O).2 34 _ O (by rw[e];rfl);have ao:=(H 8 O).2 37 _ O (by rw[e];rfl);exact AT (D8 (n:=((([32]++itoa s.1)++[45])++itoa s.2)) au ao O (by simp only[List.length_append,List.length_cons,List.length_nil];omega)) O
     refine qZ (λS f w' hi p X U V H=>?_) ?_
     .replace X:=CK X;have ar:=(H 0 O).2 29 _ O (by rw[e];rfl);have a5:=(H 9 O).2 38 _ O (by rw[e];rfl);exact AT (D8 (n:=NA t (k+1)) ar a5 (Tv L) (by have:=Qp G (k+1);omega)) O
     refine DagStepsS.tail ?_;exact DagStepsS.nil
    .intro f wd4 w4 q K U H;replace K:=K.mono (M':=Ak) (λy _ h=>by
      obtain ⟨j,hj,h⟩:=h;exact h.elim)
     have al:=H 10 O 39 _ O (by rw[e];rfl);obtain ⟨j4,rfl⟩:=Am.out (σ:=f) (l:=[(1,(.pointer (some ⟨r,0,none⟩))),(23,(.slice (some ⟨b,o,none⟩) t.set.length sc)),(24,(.int .i64 ((t.set.length:Nat):Int))),(25,(.int .i64 ((k:Nat):Int))),(39,(.string (bS (NA t (k+1)))))]) ⟨U 1 O,U 23 O,U 24 O,U 25 O,al,trivial⟩;clear U H;replace g:=(q.trans K).keep g;replace B:=(q.trans K).keep B;replace K:=q.trans K;replace E:=E.ext K;refine qA _ O (AB (AQ (AC (AR (qV (Ax O O (A8 qO)) (qM _ O (AB (AC ?_))))))));exact ⟨t.set.length - (k+1),qO,k+1,Am.out ⟨O,O,O,O,O,trivial⟩,E,g,qO,O⟩
   .refine Aw (AZ (AZ (Ap (AC (AG (AA (qF r 0 2 O underlying25 O CG O (qV (AL O B0 (g.cell O)) (qV (Aa underlying23 O) (qM _ O (AB (AU (Av (λnn_ σ W5=>∃(j:Nat) (l:Mj),(∃jj_,σ=Bj jj_ [(42,(.slice aa t.args.length ac)),(43,(I6 (t.args.length:Int))),(44,(I6 (j:Int))),(3,(.string (bS l)))])∧Chg Ak z W5∧BH W5 r (R6 t sa sc aa ac) 25∧(j<=t.args.length)∧(l=Rq t j)∧nn_=t.args.length - j) (n:=t.args.length - 0) ?_ ?_)))))))))))))
    .exact ⟨0,NA t k,Am.out ⟨O,O,O,O,trivial⟩,E,g,Nat.zero_le _,Tt t qO,O⟩
    .clear E g;rintro _ _ W5 ⟨j,l,⟨j5,rfl⟩,E,g,hj,hl,rfl⟩;refine AA (qV (BE O O) (AB (AG (qC O (λT=>?_) (λT=>?_)))))
     .obtain ⟨x,hx⟩:=AX (l:=t.args) (i:=j) qO;obtain ⟨b,o,rfl,Q⟩:=NO F qO;obtain ⟨us,a3,W⟩:=Q.get hx;have R:=W;obtain ⟨M,I,J,C,rfl,_,_,_⟩:=W.form;have hxz:=Re.size_arg hx;refine AO (AC (AG (AU (AA (qV (AN (b:=b) (o:=o) (len:=t.args.length) (cap:=ac) (i:=j) (o':=o+j*6) O O O underlying23 AH qO qO) (qV (AK O Ad AH O (a3.ext E)) (As (v:=(.agg (R6 x M I J C))) (c:=(R6 x M I J C)) (n:=6) qD A9 O AH O O O qS ?_)))))));intro bz wz u;have Fz:=u.ge E;have D:=u.lt g;replace E:=E.ext u.ext;have B:=u.blk;refine AB (AR (qM _ O (qV (AK (vs:=[(I6 x.kind),(.slice M x.set.length I),(.slice J x.args.length C),(I6 x.mn),(I6 x.mx),(.bool x.neg)]) O Ad AH O (B.cells O)) (qE O (AI func89 kQ kQ O) (ih qO x _ _ qO (G.a x (List.mem_of_getElem? hx)) (P.ext E) (A4.ext E x R)) ?_))));rintro _ w9 ⟨rfl,X9⟩;replace g:=X9.keep (u.keep g);replace B:=X9.keep B;replace E:=E.ext X9;refine qV (D8 (l:=l) (m:=Hz x) (n:=Rq t (j+1)) O O (by rw[hl];exact Tu hx) (by have:=VY G (j+1);omega)) (qA _ O (AB (AQ (AC (AR (qV (Ax O O (A8 qO)) (qM _ O (AB (AC ?_)))))))));exact ⟨t.args.length - (j+1),qO,j+1,Rq t (j+1),Am.out ⟨O,O,O,O,trivial⟩,E,g,qO,O,O⟩
     .refine Aw (AZ (AZ (Ap (AC (AA (qM _ O (qV (D8 (l:=l) (m:=[41]) (n:=Hz t) O O (by rw[hl];exact M_ t qO) qO) (qA _ O (AB (AJ (AV results89 (v:=(.string (EC t))) O ?_)))))))))));exact ⟨O,E⟩
end Go.Proofs
namespace Go.Eng
open Go
section
variable {κ ν : Type} [DecidableEq κ]
def CT:List (κ×ν)->κ->Option ν
  | [],_=>none
  | p::r,k=>if p.1=k then some p.2 else CT r k
def D9:List (κ×ν)->κ->ν->List (κ×ν)
  | [],k,v=>[(k,v)]
  | p::r,k,v=>if p.1=k then (k,v)::r else p::D9 r k v
def Hl (eV:ν->Value):List (κ×ν)->κ->Nat->Option (Nat×Value)
  | [],_,_=>none
  | p::r,k,i=>if p.1=k then some (i,eV p.2) else Hl eV r k (i+1)
theorem H2 {eV:ν->Value}:∀{es:List (κ×ν)} {k:κ} {i:Nat},CT es k=none->Hl eV es k i=none
 | [],_,_,_=>rfl
 | p::r,k,i,h=>by
  unfold CT at h;unfold Hl;split at h
  .cases h
  .rename_i a;rw[if_neg a];exact H2 h
theorem FN {eV:ν->Value}:∀{es:List (κ×ν)} {k:κ} {i:Nat} {v:ν},CT es k=some v->∃j,Hl eV es k i=some (i+j,eV v)∧es[j]?=some (k,v)∧∀u,D9 es k u=es.set j (k,u)
 | [],_,_,_,h=>by cases h
 | p::r,k,i,v,h=>by
  unfold CT at h;unfold Hl;split at h
  .rename_i d
   cases h;rw[if_pos d];exact ⟨0,O,by obtain ⟨a,b⟩:=p;simp at d;subst d;rfl,λu=>by unfold D9;rw[if_pos d];rfl⟩
  .rename_i c
   rw[if_neg c];obtain ⟨j,e,f,g⟩:=FN (eV:=eV) (i:=i+1) h;exact ⟨j+1,by rw[e];congr 2;omega,by simpa using f,λu=>by unfold D9;rw[if_neg c,g u];rfl⟩
theorem EO:∀{es:List (κ×ν)} {k:κ} (v:ν),CT es k=none->D9 es k v=es++[(k,v)]
 | [],_,_,_=>rfl
 | p::r,k,v,h=>by
  unfold CT at h;unfold D9;split at h
  .cases h
  .rename_i a;rw[if_neg a,EO v h];rfl
theorem Kw (es:List (κ×ν)) (k:κ) (v:ν) (q:κ):CT (D9 es k v) q=if k=q then some v else CT es q:=by
 induction es with
 | nil=>unfold D9 CT CT;rfl
 | cons p r ih=>
  unfold D9;split
  .rename_i b
   unfold CT;by_cases h:k=q
   .rw[if_pos h,if_pos h]
   .rw[if_neg h,if_neg h,if_neg (by rw[b];exact h)]
  .rename_i a
   unfold CT;rw[ih];by_cases h:k=q
   .rw[if_pos h,if_neg (by rw[<-h];exact a),if_pos h]
   .rw[if_neg h,if_neg h]
theorem Hk {es:List (κ×ν)} {k:κ} {v:ν} (h:CT es k=some v):(k,v)∈es:=by
 obtain ⟨j,_,a,_⟩:=FN (eV:=λ_=>undef) (i:=0) h;exact List.mem_of_getElem? a
theorem Jl {es:List (κ×ν)} {k:κ}:(CT es k).isSome=true↔k∈es.map (·.1):=by
 induction es with
 | nil=>simp[CT]
 | cons p r ih=>
  unfold CT;by_cases h:p.1=k
  .simp[h]
  .rw[if_neg h,ih];simp[Ne.symm h]
def Gw (es:List (κ×ν)):Prop:=(es.map (·.1)).Nodup
omit [DecidableEq κ] in
theorem Gw.nil:Gw ([]:List (κ×ν)):=List.nodup_nil
theorem Gw.put {es:List (κ×ν)} (h:Gw es) (k:κ) (v:ν):Gw (D9 es k v):=by
 cases hg:CT es k with
 | none=>
  rw[EO v hg];unfold Gw;rw[List.map_append,List.nodup_append];refine ⟨h,qP,λa f b hb=>?_⟩;simp at hb;subst hb;intro e;subst e;have:=Jl.2 f;rw[hg] at this;cases this
 | some u=>
  obtain ⟨j,_,d,g⟩:=FN (eV:=λ_=>undef) (i:=0) hg;rw[g v];unfold Gw;have:(es.set j (k,v)).map (·.1)=es.map (·.1):=by
   apply List.ext_getElem?;intro i;rw[List.getElem?_map,List.getElem?_map,List.getElem?_set];by_cases hi:j=i
   .subst hi;have c:=AM d;rw[if_pos O,if_pos c,d];rfl
   .simp[hi]
  rw[this];exact h
end
def Dz {κ ν:Type} (ek:κ->Value) (eV:ν->Value) (es:List (κ×ν)):List MapEntry:=es.zipIdx.map λp=>{key:=ek p.1.1,val:=eV p.1.2,born:=p.2}
def BS {κ ν:Type} (w:World) (b:Nat) (ek:κ->Value) (eV:ν->Value) (es:List (κ×ν)):Prop:=w.heap[b]?=some (.map (Dz ek eV es).toArray es.length)
theorem Ib {κ ν:Type} (ek:κ->Value) (eV:ν->Value) (es:List (κ×ν)):(Dz ek eV es).length=es.length:=by simp[Dz]
theorem Ej {κ ν:Type} {ek:κ->Value} {eV:ν->Value} {es:List (κ×ν)} {i:Nat}:(Dz ek eV es)[i]?=(es[i]?).map λp=>{key:=ek p.1,val:=eV p.2,born:=i}:=by
 unfold Dz;rw[List.getElem?_map,List.getElem?_zipIdx];cases es[i]?<;>simp
theorem Q1 {κ ν:Type} (ek:κ->Value) (eV:ν->Value) (es:List (κ×ν)):(Dz ek eV es).map (λe=>(e.key,e.val))=es.map λp=>(ek p.1,eV p.2):=by
 apply List.ext_getElem?;intro i;rw[List.getElem?_map,Ej,List.getElem?_map];cases es[i]?<;>rfl
section
variable {κ ν : Type} {ek : κ → Value} {eV : ν → Value} {es : List (κ × ν)} {w w' : World} {b : Nat}
theorem BS.lt (h:BS w b ek eV es):b<w.heap.size:=(Array.getElem?_eq_some_iff.1 h).1
theorem Chg.keepM {M:Nat->Prop} (h:Chg M w w') (a:¬M b) (hb:BS w b ek eV es):BS w' b ek eV es:=(h.blk b hb.lt a).trans hb
theorem Ae.keepM (h:Ae w w') (hb:BS w b ek eV es):BS w' b ek eV es:=Chg.keepM h (λf=>f) hb
theorem New.keepM {n:Nat} {c:Array Value} {t:TypeId} (h:New w w' n c t) (hb:BS w b ek eV es):BS w' b ek eV es:=h.ext.keepM hb
theorem New.ltM {n:Nat} {c:Array Value} {t:TypeId} (h:New w w' n c t) (hb:BS w b ek eV es):b<n:=by rw[h.eq];exact hb.lt
theorem Put.keepM {n:Nat} {c:Array Value} {t:TypeId} (h:Put w w' n c t) (a:b≠n) (hb:BS w b ek eV es):BS w' b ek eV es:=h.chg.keepM a hb
end
structure NewO (w w':World) (b:Nat) (o:Obj):Prop where
 at':w'.heap[b]?=some o
 ext:Ae w w'
 eq:b=w.heap.size
 size:w'.heap.size=w.heap.size+1
theorem NewO.mk' (w:World) (o:Obj):NewO w {w with heap:=w.heap.push o} w.heap.size o:=
 ⟨qP,⟨O,O,O,Nat.le_refl _,qP,λx a _=>by simp[Array.getElem?_push,Nat.ne_of_lt a]⟩,O,qP⟩
section
variable {w w' : World} {b : Nat} {o : Obj}
theorem NewO.keep (h:NewO w w' b o) {b':Nat} {c':Array Value} {t':TypeId} (hb:BH w b' c' t'):BH w' b' c' t':=h.ext.keep hb
theorem NewO.lt (h:NewO w w' b o) {b':Nat} {c':Array Value} {t':TypeId} (hb:BH w b' c' t'):b'<b:=by rw[h.eq];exact hb.lt
theorem NewO.ge (h:NewO w w' b o) {a:World} {M:Nat->Prop} (e:Chg M a w):a.heap.size<=b:=by rw[h.eq];exact e.size
variable {κ ν : Type} {ek : κ → Value} {eV : ν → Value} {es : List (κ × ν)} {b' : Nat}
theorem NewO.keepM (h:NewO w w' b o) (hb:BS w b' ek eV es):BS w' b' ek eV es:=h.ext.keepM hb
theorem NewO.ltM (h:NewO w w' b o) (hb:BS w b' ek eV es):b'<b:=by rw[h.eq];exact hb.lt
end
structure PutO (w w':World) (b:Nat) (o:Obj):Prop where
 at':w'.heap[b]?=some o
 chg:Chg (λx=>x=b) w w'
 size:w'.heap.size=w.heap.size
theorem PutO.mk' {w:World} {b:Nat} (o:Obj) (hb:b<w.heap.size):PutO w {w with heap:=w.heap.setIfInBounds b o} b o:=
 ⟨by simp[hb],⟨O,O,O,Nat.le_refl _,qP,λx hx a=>by simp[Array.getElem?_setIfInBounds,Ne.symm a]⟩,qP⟩
section
variable {w w' : World} {b : Nat} {o : Obj}
theorem PutO.keep (h:PutO w w' b o) {b':Nat} {c':Array Value} {t':TypeId} (a:b'≠b) (hb:BH w b' c' t'):BH w' b' c' t':=h.chg.keep a hb
theorem PutO.step (h:PutO w w' b o) {a:World} {M:Nat->Prop} (e:Chg M a w) (hb:a.heap.size<=b∨M b):Chg M a w':=
 e.step h.chg λx hx c=>by subst c;rcases hb with hb|hb;omega;exact hb
variable {κ ν : Type} {ek : κ → Value} {eV : ν → Value} {es : List (κ × ν)} {b' : Nat}
theorem PutO.keepM (h:PutO w w' b o) (a:b'≠b) (hb:BS w b' ek eV es):BS w' b' ek eV es:=h.chg.keepM a hb
end
structure KeyOk (P:Program) (kt:TypeId) {κ:Type} [DecidableEq κ] (ek:κ->Value):Prop where
 check:∀(b:Bool) (w:World) (k:κ),(Instr.checkKey b 10000 kt (ek k)).run P w=.ok () w
 find:∀(ν:Type) (w:World) (k:κ) (es:List (κ×ν)) (eV:ν->Value) (L:List MapEntry),L.map (λe=>(e.key,e.val))=es.map (λp=>(ek p.1,eV p.2))->(Instr.findKey kt (ek k) L).run P w=.ok (Hl eV es k 0) w
 same:∀k,Instr.sameBits 10000 (ek k) (ek k)=true
def Ei (x:Int):Value:=.int .i64 x
def Dl (s:ByteArray):Value:=.string s
theorem Ty {P:Program} {kt:TypeId} (d:P.underlying kt=some (.int .i64)):KeyOk P kt Ei where
 check:=λb w k=>by rw[show (10000:Nat)=9999+1 from O,Instr.checkKey];simp only[Sem.run_bind,run_underlying d,Result.andThen_ok,Ei];rfl
 find:=λν w k es eV L l=>by
  have c:∀(L:List MapEntry) (es:List (Int×ν)) (i:Nat),L.map (λe=>(e.key,e.val))=es.map (λp=>(Ei p.1,eV p.2))->Instr.findNow (.int .i64) (Ei k) L i=some (Hl eV es k i):=by
   intro L
   induction L with
   | nil=>
    intro es i h;cases es with
    | nil=>rfl
    | cons _ _=>simp at h
   | cons e L ih=>
    intro es i h;cases es with
    | nil=>simp at h
    | cons p es=>
     simp only[List.map_cons,List.cons.injEq,Prod.mk.injEq] at h;obtain ⟨⟨j,f⟩,g⟩:=h;unfold Instr.findNow Hl;rw[j];simp only[Ei,Instr.sameNow,if_true];by_cases a:p.1=k
     .rw[if_pos a,a];simp[f]
     .have:(k == p.1)=false:=by simp;exact λh=>a h.symm
      rw[if_neg a,this];exact ih es (i+1) g
  simp[Instr.findKey,run_underlying d,c L es 0 l]
 same:=λk=>by unfold Ei;rw[Instr.sameBits];simp
theorem G_ {P:Program} {kt:TypeId} (d:P.underlying kt=some .string):KeyOk P kt Dl where
 check:=λb w k=>by rw[show (10000:Nat)=9999+1 from O,Instr.checkKey];simp only[Sem.run_bind,run_underlying d,Result.andThen_ok,Dl];rfl
 find:=λν w k es eV L l=>by
  have c:∀(L:List MapEntry) (es:List (ByteArray×ν)) (i:Nat),L.map (λe=>(e.key,e.val))=es.map (λp=>(Dl p.1,eV p.2))->Instr.findNow .string (Dl k) L i=some (Hl eV es k i):=by
   intro L
   induction L with
   | nil=>
    intro es i h;cases es with
    | nil=>rfl
    | cons _ _=>simp at h
   | cons e L ih=>
    intro es i h;cases es with
    | nil=>simp at h
    | cons p es=>
     simp only[List.map_cons,List.cons.injEq,Prod.mk.injEq] at h;obtain ⟨⟨j,f⟩,g⟩:=h;unfold Instr.findNow Hl;rw[j];simp only[Dl,Instr.sameNow];by_cases a:p.1=k
     .rw[if_pos a,a,(MapKept.bytes_beq k k).2 rfl];simp[f]
     .have:(k == p.1)=false:=by rw[Bool.eq_false_iff];exact λh=>a ((MapKept.bytes_beq _ _).1 h).symm
      rw[if_neg a,this];exact ih es (i+1) g
  simp[Instr.findKey,run_underlying d,c L es 0 l]
 same:=λk=>by unfold Dl;rw[Instr.sameBits];exact (MapKept.bytes_beq k k).2 O
section
variable {P : Program} {N : Nat} {Q : Dn} {σ : CC} {w : World} {K : CC → World → Prop} {ops : Array Oper} {rest : List Oper} {d : Nat} {ty : TypeId} {pos : String} {af : Array Edge} {g : Option (Nat × Bool)} {dst : Option Tmp} {t kt et : TypeId} {m x y : Operand} {b : Nat}
variable {κ ν : Type} [DecidableEq κ] {ek : κ → Value} {eV : ν → Value} {es : List (κ × ν)} {k : κ} {v : ν}
omit [DecidableEq κ] in
theorem HQ (ek:κ->Value) (eV:ν->Value) (a:d<N) (c:∀b w',NewO w w' b (.map #[] 0)->BS w' b ek eV []->DT P N ops K Q rest (Eo σ d (.map (some b))) w') :
 DT P N ops K Q (⟨some d,.makeMap t none,ty,pos,af,none⟩::rest) σ w:=by
 refine Bn (v:=.map (some w.heap.size)) (w':={w with heap:=w.heap.push (.map #[] 0)}) O O a ?_ (c _ _ (NewO.mk' w _) (NewO.mk' w _).at');simp[execOp,Instr.makeMap]
theorem LU (p:P.underlying t=some (.map kt et)) (c:KeyOk P kt ek) (a:BS w b ek eV es) :
 (Instr.mapUpdate t (.map (some b)) (ek k) (eV v)).run P w=.ok () {w with heap:=w.heap.setIfInBounds b (.map (Dz ek eV (D9 es k v)).toArray (D9 es k v).length)}:=by
 have hlt:=a.lt;unfold BS at a;have n:(getObj b).run P w=.ok (.map (Dz ek eV es).toArray es.length) w:=by simp[getObj,Sem.run,a]
 have f:∀o,(setObj b o).run P w=.ok () {w with heap:=w.heap.setIfInBounds b o}:=λo=>by simp[setObj,Sem.run,a]
 have h:=c.find ν w k es eV (Dz ek eV es) (Q1 ek eV es);simp only[Instr.mapUpdate,Sem.run_bind,run_underlying p,Result.andThen_ok,n,c.check,h];cases hgm:CT es k with
 | none=>
  rw[H2 hgm];simp only[f];congr 4
  .apply Array.ext';rw[EO v hgm];simp[Dz,List.zipIdx_append]
  .rw[EO v hgm];simp
 | some u=>
  obtain ⟨j,e,d,g⟩:=FN (eV:=eV) (i:=0) hgm;rw[Nat.zero_add] at e;rw[e];have m:=AM d;have l:(Dz ek eV es).toArray[j]?=some {key:=ek k,val:=eV u,born:=j}:=by rw[List.getElem?_toArray,Ej,d];rfl
  simp only[l,Option.map_some,Option.getD_some,Instr.keyThatStays,c.same,if_true,Sem.run_bind,Sem.run_pure,Result.andThen_ok,f];congr 4
  .apply Array.ext';rw[g v];apply List.ext_getElem?;intro i;rw[List.getElem?_toArray.symm.trans (by rfl)]<;>simp only[Array.getElem?_toList,Array.getElem?_modify,List.getElem?_toArray,Ej,List.getElem?_set];by_cases hi:j=i
   .subst hi;simp[d,m]
   .simp[hi]
  .rw[g v];simp
theorem FW (d:P.underlying t=some (.map kt et)) (f:KeyOk P kt ek) (a:BS w b ek eV es) (g:ev σ m=.map (some b)) (h:ev σ x=ek k) (e:ev σ y=eV v)
 (i:∀w',PutO w w' b (.map (Dz ek eV (D9 es k v)).toArray (D9 es k v).length)->BS w' b ek eV (D9 es k v)->DT P N ops K Q rest σ w') :
 DT P N ops K Q (⟨none,.mapUpdate t m x y,ty,pos,af,none⟩::rest) σ w:=by
 have c:=LU (k:=k) (v:=v) d f a;refine Ir O O (w':={w with heap:=w.heap.setIfInBounds b (.map (Dz ek eV (D9 es k v)).toArray (D9 es k v).length)}) ?_ (i _ (PutO.mk' _ a.lt) (PutO.mk' _ a.lt).at');simp[execOp,g,h,e,c]
theorem KX (c:Bool) {z:ν} (l:P.underlying t=some (.map kt et)) (a:KeyOk P kt ek) (g:Ex P et (eV z)) (d:BS w b ek eV es) :
 (Instr.lookup t (.map (some b)) (ek k) c).run P w=.ok (if c then .tuple #[eV ((CT es k).getD z),.bool (CT es k).isSome] else eV ((CT es k).getD z)) w:=by
 unfold BS at d;have h:(getObj b).run P w=.ok (.map (Dz ek eV es).toArray es.length) w:=by simp[getObj,Sem.run,d]
 have e:=a.find ν w k es eV (Dz ek eV es) (Q1 ek eV es);simp only[Instr.lookup,Sem.run_bind,run_underlying l,Result.andThen_ok,h,Sem.run_pure,a.check,e];cases hgm:CT es k with
 | none=>rw[H2 hgm];simp[g.run]
 | some u=>
  obtain ⟨j,f,_,_⟩:=FN (eV:=eV) (i:=0) hgm;rw[f];simp
theorem IG {z:ν} (e:P.underlying t=some (.map kt et)) (c:KeyOk P kt ek) (h:Ex P et (eV z)) (a:BS w b ek eV es) (d:ev σ m=.map (some b)) (f:ev σ x=ek k) :
 (execOp (ev σ) ⟨dst,.lookup t m x false,ty,pos,af,g⟩).run P w=.ok (.value (eV ((CT es k).getD z))) w:=by
 simp[execOp,d,f,KX false e c h a]
theorem Lw {z:ν} (e:P.underlying t=some (.map kt et)) (c:KeyOk P kt ek) (h:Ex P et (eV z)) (a:BS w b ek eV es) (d:ev σ m=.map (some b)) (f:ev σ x=ek k) :
 (execOp (ev σ) ⟨dst,.lookup t m x true,ty,pos,af,g⟩).run P w=.ok (.value (.tuple #[eV ((CT es k).getD z),.bool (CT es k).isSome])) w:=by
 simp[execOp,d,f,KX true e c h a]
omit [DecidableEq κ] in
theorem OC (c:P.underlying t=some (.map kt et)) (a:BS w b ek eV es) (e:ev σ m=.map (some b)) :
 (execOp (ev σ) ⟨dst,.call ⟨.builtin .len,#[m],#[t]⟩,ty,pos,af,g⟩).run P w=.ok (.value (.int .i64 es.length)) w:=by
 unfold BS at a;have d:(getObj b).run P w=.ok (.map (Dz ek eV es).toArray es.length) w:=by simp[getObj,Sem.run,a]
 simp[execOp,resolve,e,invoke,builtin,Builtin.len_,run_underlying c,d,goInt,Ib]
end
def Cg (w:World) (it b n:Nat) (seen:List Nat):Prop:=w.heap[it]?=some (.mapIter (some b) n seen.toArray n)
theorem Cg.lt {w:World} {it b n:Nat} {seen:List Nat} (h:Cg w it b n seen):it<w.heap.size:=(Array.getElem?_eq_some_iff.1 h).1
theorem Cg.chg {M:Nat->Prop} {w w':World} {it b n:Nat} {seen:List Nat} (h:Cg w it b n seen) (c:Chg M w w') (a:¬M it):Cg w' it b n seen:=(c.blk it h.lt a).trans h
theorem Cg.ext {w w':World} {it b n:Nat} {seen:List Nat} (h:Cg w it b n seen) (c:Ae w w'):Cg w' it b n seen:=h.chg c λf=>f
section
variable {w w' : World} {it b n : Nat} {seen : List Nat} (hb : Cg w it b n seen)
include hb
theorem Ae.keepI (h:Ae w w'):Cg w' it b n seen:=hb.ext h
theorem PutO.keepI {q:Nat} {o:Obj} (h:PutO w w' q o) (a:it≠q):Cg w' it b n seen:=hb.chg h.chg a
end
section
variable {P : Program} {N : Nat} {Q : Dn} {σ : CC} {w : World} {K : CC → World → Prop} {ops : Array Oper} {rest : List Oper} {d : Nat} {ty : TypeId} {pos : String} {af : Array Edge} {g : Option (Nat × Bool)} {dst : Option Tmp} {t kt et : TypeId} {x : Operand} {b it : Nat}
variable {κ ν : Type} {ek : κ → Value} {eV : ν → Value} {es : List (κ × ν)} {seen : List Nat}
theorem U9 (c:d<N) (h:P.underlying t=some (.map kt et)) (a:BS w b ek eV es) (e:ev σ x=.map (some b))
 (f:∀it w',NewO w w' it (.mapIter (some b) es.length #[] es.length)->DT P N ops K Q rest (Eo σ d (.pointer (some ⟨it,0,none⟩))) w') :
 DT P N ops K Q (⟨some d,.range t x,ty,pos,af,none⟩::rest) σ w:=by
 unfold BS at a;have g:(getObj b).run P w=.ok (.map (Dz ek eV es).toArray es.length) w:=by simp[getObj,Sem.run,a]
 refine Bn (v:=.pointer (some ⟨w.heap.size,0,none⟩)) (w':={w with heap:=w.heap.push (.mapIter (some b) es.length #[] es.length)}) O O c ?_ (f _ _ (NewO.mk' w _));simp[execOp,e,Instr.range,run_underlying h,g]
theorem JN {e:MapEntry} (h:e∈Dz ek eV es):∃p,es[e.born]?=some p∧e.key=ek p.1∧e.val=eV p.2:=by
 obtain ⟨i,hi⟩:=List.mem_iff_getElem?.1 h;rw[Ej] at hi;cases hp:es[i]? with
 | none=>rw[hp] at hi;cases hi
 | some p=>
  rw[hp] at hi;simp at hi;subst hi;exact ⟨p,hp,O,O⟩
theorem Wa (hN:d<N) (hm:BS w b ek eV es) (hi:Cg w it b es.length seen) (h1:ev σ x=.pointer (some ⟨it,0,none⟩))
 (k1:(∀i,i<es.length->i∈seen)->DT P N ops K Q rest (Eo σ d (.tuple #[.bool false])) w)
 (k2:∀i p w',es[i]?=some p->i∉seen->PutO w w' it (.mapIter (some b) es.length (seen++[i]).toArray es.length)->DT P N ops K Q rest (Eo σ d (.tuple #[.bool true,ek p.1,eV p.2])) w') :
 DT P N ops K Q (⟨some d,.next x false,ty,pos,af,none⟩::rest) σ w:=by
 have a1:=hi.lt;have am:(getObj b).run P w=.ok (.map (Dz ek eV es).toArray es.length) w:=by unfold BS at hm;simp[getObj,Sem.run,hm]
 have ao:(getObj it).run P w=.ok (.mapIter (some b) es.length seen.toArray es.length) w:=by unfold Cg at hi;simp[getObj,Sem.run,hi]
 have ah:((!seen.toArray.isEmpty && !(Dz ek eV es).toArray.isEmpty) && (Dz ek eV es).toArray.all (λe=>decide (e.born ≥ es.length)))=false:=by
  cases es with
  | nil=>simp[Dz]
  | cons p r=>
   have ap:({key:=ek p.1,val:=eV p.2,born:=0}:MapEntry)∈Dz ek eV (p::r):=List.mem_of_getElem? (i:=0) (by rw[Ej];rfl);have:(Dz ek eV (p::r)).toArray.all (λe=>decide (e.born ≥ (p::r).length))=false:=by
    rw[List.all_toArray,List.all_eq_false];exact ⟨_,ap,qP⟩
   rw[this,Bool.and_false]
 obtain ⟨aa,ab⟩:∃aa,aa=(Dz ek eV es).toArray.filter λe=>!seen.toArray.contains e.born:=⟨_,O⟩;have ac:∀e,e∈aa->e∈Dz ek eV es∧e.born∉seen:=λe he=>by rw[ab] at he;simpa using he
 have ad:aa.filter (λe=>decide (e.born<es.length))=aa:=by
  rw[Array.filter_eq_self];intro e he;obtain ⟨p,hp,_⟩:=JN (ac e he).1;simpa using AM hp
 have ai:aa.filter (λe=>decide (e.born ≥ es.length))=#[]:=by
  rw[Array.filter_eq_empty_iff];intro e he;obtain ⟨p,hp,_⟩:=JN (ac e he).1;have:=AM hp;simp;omega
 by_cases hemp:aa=#[]
 .have ar:=k1 λi aw=>by
   by_cases hin:i∈seen
   .exact hin
   .exfalso;obtain ⟨p,hp⟩:∃p,es[i]?=some p:=⟨_,List.getElem?_eq_getElem aw⟩;have he:({key:=ek p.1,val:=eV p.2,born:=i}:MapEntry)∈Dz ek eV es:=List.mem_of_getElem? (i:=i) (by rw[Ej,hp];rfl);have:({key:=ek p.1,val:=eV p.2,born:=i}:MapEntry)∈aa:=by rw[ab];simpa using ⟨he,hin⟩
    rw[hemp] at this;simp at this
  refine Bn (v:=.tuple #[.bool false]) (w':=w) O O hN ?_ ar;have az:Question.forced (.mapNext 1)=true:=rfl;have ak:(choose (.mapNext 1)).run P w=.ok 0 w:=by simp[choose,Sem.run,az]
  simp only[execOp,h1,Instr.next,Sem.run_bind,ao,Result.andThen_ok,am,ah,Bool.false_eq_true,if_false,Sem.run_pure,<-ab,ad,ai,hemp];have a0:Array.filter (λx:MapEntry=>decide (x.born<es.length)) #[]=#[]:=qP
  have au:Array.filter (λx:MapEntry=>decide (x.born ≥ es.length)) #[]=#[]:=qP
  have ax:((if (#[]:Array MapEntry).isEmpty=true then #[none] else #[])++Array.map some ((#[]:Array MapEntry)++#[]):Array (Option MapEntry))=#[none]:=qP
  simp only[a0,au,ax];rw[show (#[none]:Array (Option MapEntry)).size=1 from O,ak];rfl
 .have an:0<aa.size:=by rcases Nat.eq_zero_or_pos aa.size with h|h;exact absurd (Array.eq_empty_of_size_eq_zero h) hemp;exact h
  have ae:aa.isEmpty=false:=by simpa using hemp
  obtain ⟨j,dr,hj,ak⟩:∃j dr,j<aa.size∧(choose (.mapNext aa.size)).run P w=.ok j {w with drawn:=w.drawn+dr}:=by
   by_cases hf:Question.forced (.mapNext aa.size)=true
   .exact ⟨0,0,an,by simp[choose,Sem.run,hf]⟩
   .exact ⟨_,1,Nat.mod_lt (w.tape w.drawn (.mapNext aa.size)) an,by simp[choose,Sem.run,hf,Question.cut]⟩
  obtain ⟨e,he⟩:∃e,aa[j]?=some e:=⟨_,Array.getElem?_eq_getElem hj⟩;obtain ⟨al,ay⟩:=ac e (Array.mem_of_getElem? he);obtain ⟨p,hp,hk,hv⟩:=JN al;have aq:({w with drawn:=w.drawn+dr}:World).heap[it]?=some (.mapIter (some b) es.length seen.toArray es.length):=hi;refine Bn (v:=.tuple #[.bool true,ek p.1,eV p.2]) (w':={w with drawn:=w.drawn+dr,heap:=w.heap.setIfInBounds it (.mapIter (some b) es.length (seen++[e.born]).toArray es.length)}) O O hN ?_ (k2 e.born p _ hp ay ?_)
  .have a2:(setObj it (.mapIter (some b) es.length (seen.toArray.push e.born) es.length)).run P {w with drawn:=w.drawn+dr}=.ok () {w with drawn:=w.drawn+dr,heap:=w.heap.setIfInBounds it (.mapIter (some b) es.length (seen.toArray.push e.born) es.length)}:=by simp[setObj,Sem.run,aq]
   have ag:((#[]:Array (Option MapEntry))++(aa++#[]).map some)[j]?=some (some e):=by simp[he]
   have aj:((#[]:Array (Option MapEntry))++(aa++#[]).map some).size=aa.size:=qP
   simp only[execOp,h1,Instr.next,Sem.run_bind,ao,Result.andThen_ok,am,ah,Bool.false_eq_true,if_false,Sem.run_pure,<-ab,ad,ai,ae,aj,ak,ag,a2,hk,hv];simp
  .refine ⟨by simp[a1],⟨O,O,O,Nat.le_add_right _ _,qP,λy hy av=>by simp[Array.getElem?_setIfInBounds,Ne.symm av]⟩,qP⟩
theorem VH {i:Nat} {p:κ×ν} (l:BS w b ek eV es) (hi:Cg w it b es.length (seen++[i])) (m:es[i]?=some p) (o:ev σ x=.pointer (some ⟨it,0,none⟩)) :
 (execOp (ev σ) ⟨dst,.entry x,ty,pos,af,g⟩).run P w=.ok (.value (.tuple #[ek p.1,eV p.2])) w:=by
 have h:(getObj b).run P w=.ok (.map (Dz ek eV es).toArray es.length) w:=by unfold BS at l;simp[getObj,Sem.run,l]
 have k:(getObj it).run P w=.ok (.mapIter (some b) es.length (seen++[i]).toArray es.length) w:=by unfold Cg at hi;simp[getObj,Sem.run,hi]
 have hb:(seen++[i]).toArray.back?=some i:=by simp[Array.back?]
 have a:=AM m;have n:(Dz ek eV es).find? (λe=>e.born == i)=some {key:=ek p.1,val:=eV p.2,born:=i}:=by
  rw[List.find?_eq_some_iff_getElem];refine ⟨qP,i,by rw[Ib];exact a,?_,λj hj=>?_⟩
  .have:=Ej (ek:=ek) (eV:=eV) (es:=es) (i:=i);rw[m,List.getElem?_eq_getElem (by rw[Ib];exact a)] at this;simpa using this
  .have d:=Ej (ek:=ek) (eV:=eV) (es:=es) (i:=j);have c:j<es.length:=qO
   rw[List.getElem?_eq_getElem (by rw[Ib];exact c),List.getElem?_eq_getElem c] at d;simp at d;rw[d];simp;omega
 have f:(Dz ek eV es).toArray.find? (λe=>e.born == i)=some {key:=ek p.1,val:=eV p.2,born:=i}:=by simpa using n
 simp only[execOp,o,Instr.entry,Sem.run_bind,k,Result.andThen_ok,hb,h,f,Sem.run_pure];simp
end
theorem Sr {n:Nat} {seen:List Nat} (hd:seen.Nodup) (a:∀i∈seen,i<n):seen.length<=n:=by
 have h:seen.Subset (List.range n):=λi hi=>List.mem_range.2 (a i hi);have:=hd.length_le_of_subset h;simpa using this
end Go.Eng
namespace Go.Proofs
open Go Go.Eng Go.Sort
set_option maxRecDepth 100000
theorem QN {l:List Re} (h:∀x∈l,Au x) (a:∀y∈l,y.kind≠0∧y.kind≠1∧y.kind≠3):Au (Bv 3 BP l):=by
 match l,h,a with
 | [],_,_=>exact F7
 | [x],h,_=>exact h x qP
 | x::y::l,h,a=>exact .mk' ⟨qP,O,qP,qP,qP,qP,λ_=>⟨qP,a⟩,qP,qP,qP,qP,qP⟩ h
theorem Hr (c:Int):∀a:List Re,(CL c a).length=a.length
 | []=>rfl
 | t::a=>by simp only[CL,List.length_cons,Hr c a]
theorem Hq (c:Int) (a:List Re):CL c a=a.map (A6 c):=by
 induction a with
 | nil=>rfl
 | cons t a ih=>simp[CL,ih]
mutual
theorem Ds (c:Int):∀{t:Re},Au t->Au (A6 c t)
 | .mk k s a m x g,h=>by
  have hn:=h.1;have f:=FD.1 h.2;have e:=Nd c h.2;simp only[A6];split
  .split
   .exact F7
   .exact Fw
  split
  .rename_i d
   exact Nf c h.2 (hn.k3 d).2
  split
  .rename_i h1 h2 d
   refine IN ⟨qO,O,λ_=>rfl,λ_=>⟨O,O⟩,qO,qO,λh8=>?_,qO⟩ e;rw[Hr];obtain ⟨y,rfl,_⟩:=hn.k8 qO;rfl
  split
  .rename_i d
   obtain ⟨y,rfl,hy⟩:=hn.k5 d;refine Ik λz b=>?_;simp only[CL,List.headD_cons,List.mem_cons,List.not_mem_nil,or_false] at b;rcases b with rfl|rfl
   .exact e _ (by simp[CL])
   .exact h
  split
  .rename_i d
   obtain ⟨y,rfl,hy1,hy2,h3,h4,h5,h6,h7⟩:=hn.k6 d;refine Ik λz b=>?_;simp only[CL,List.headD_cons,List.mem_cons,List.not_mem_nil,or_false] at b;rcases b with rfl|rfl
   .exact e _ (by simp[CL])
   .exact IN ⟨qO,O,λ_=>rfl,qO,qO,qO,λ_=>rfl,λ_=>qO⟩ (by intro z b;simp at b;subst b;exact f _ qP)
  .exact Fw
theorem Nd (c:Int):∀{b:List Re},EX b->∀x∈CL c b,Au x
 | [],_,x,a=>by simp[CL] at a
 | t::b,h,x,a=>by
  simp only[CL,List.mem_cons] at a;rcases a with rfl|a
  .exact Ds c h.1
  .exact Nd c h.2 x a
theorem Nf (c:Int):∀{b:List Re},EX b->(∀y∈b,y.kind≠0∧y.kind≠1∧y.kind≠3)->Au (EK c b)
 | [],_,_=>by simp only[EK];exact Fw
 | t::b,h,hk=>by
  simp only[EK];split
  .exact Ds c h.1
  .have e:Au (De [A6 c t,Bv 3 BP b]):=Ik λz a=>by
    simp only[List.mem_cons,List.not_mem_nil,or_false] at a;rcases a with rfl|rfl
    .exact Ds c h.1
    .exact QN (FD.1 h.2) λy d=>hk y (by simp[d])
   split
   .exact IN ⟨qO,O,λ_=>rfl,λ_=>⟨O,O⟩,qO,qO,qO,qO⟩ λz a=>by
     simp only[List.mem_cons,List.not_mem_nil,or_false] at a;rcases a with rfl|rfl
     .exact e
     .exact Nf c h.2 λy d=>hk y (by simp[d])
   .exact e
end
theorem Iz (p:Re->Bool):∀l:List Re,Re.sizes (EJ p l)<=Re.sizes l
 | []=>by simp[EJ]
 | x::l=>by
  have ih:=Iz p l;unfold EJ at ih⊢;rw[List.filter_cons];split
  .simp only[Re.sizes];omega
  .simp only[Re.sizes];omega
theorem I0 (k:Int) (z:Re) (l:List Re):(Bv k z l).size<=if l=[] then z.size else Re.sizes l+1:=by
 match l with
 | []=>exact Nat.le_refl _
 | [x]=>simp[Bv,Re.sizes]
 | x::y::l=>simp[Bv,Re.sizes,Re.size]
theorem GT (l:List Re):(De l).size<=Re.sizes l+1:=by
 unfold De;have h1:=Iz CZ (BI 3 l);have h2:=GZ 3 l;split
 .show 1<=_;omega
 .have a:=I0 3 BP (EJ CZ (BI 3 l));split at a
  .have:BP.size=1:=rfl;omega
  .omega
theorem Lr:∀l:List Re,Re.sizes (ES l)<=Re.sizes l
 | []=>Nat.le_refl _
 | [x]=>Nat.le_refl _
 | x::y::l=>by
  have ih:=Lr (y::l);simp only[ES];split
  .simp only[Re.sizes] at ih⊢;omega
  .simp only[Re.sizes] at ih⊢;omega
theorem PZ {l m:List Re} (h:l.Perm m):Re.sizes l=Re.sizes m:=by
 induction h with
 | nil=>rfl
 | cons x _ ih=>simp only[Re.sizes,ih]
 | swap x y l=>simp only[Re.sizes];omega
 | trans _ _ ih1 ih2=>omega
theorem Lq {l:List Re} {x:Re} (h:x∈l):x.size<=Re.sizes l:=by
 obtain ⟨i,hi⟩:=List.mem_iff_getElem?.1 h;exact Re.sizes_get hi
theorem Mb (k:Int) (l:List Re) (b a:Re->Bool) (z:Re):(GS k l b a z).size<=max (Re.sizes l+1) z.size:=by
 unfold GS;cases hf:l.find? b with
 | some x=>have:=Lq (List.mem_of_find?_eq_some hf);show x.size<=_;omega
 | none=>
  have h1:=Iz a (BI k l);have h2:=GZ k l;have h3:=PZ (List.mergeSort_perm (EJ a (BI k l)) VV);have d:=Lr (Dp (EJ a (BI k l)));have c:=I0 k z (ES (Dp (EJ a (BI k l))));unfold Dp at d c;show (Bv k z (ES (Dp (EJ a (BI k l))))).size<=_;unfold Dp;split at c<;>omega
theorem GE {k:Int} {s:List (Int×Int)} {a:List Re} {m x:Int} {g:Bool} (e:k=7->a≠[]) (f:k=8->a≠[]):(Cz k s a m x g).size<=Re.sizes a+1:=by
 have hh:∀y,a.head?=some y->y.size<=Re.sizes a:=λy b=>Lq (List.mem_of_mem_head? (by rw[b];rfl));have hd:(a.headD BB).size<=Re.sizes a+1:=by
  cases a with
  | nil=>simp[BB,Re.size,Re.sizes]
  | cons y r=>simp only[List.headD_cons,Re.sizes];omega
 have c:(Re.mk k s a m x g).size=Re.sizes a+1:=by simp[Re.size]
 unfold Cz;dsimp only;split
 .exact GT a
 split
 .have:=Mb 4 a Ca BX BB;have:BB.size=1:=rfl;omega
 split
 .rename_i d
  have h1:=Mb 7 a BX Ca FS;have h2:FS.size=2:=rfl;have h3:1<=Re.sizes a:=by
   cases a with
   | nil=>exact absurd O (e d)
   | cons y r=>have:=y.size_pos;simp only[Re.sizes];omega
  omega
 split
 .split
  .show 1<=_;omega
  split
  .exact hd
  .exact Nat.le_of_eq c
 split
 .split
  .show 1<=_;omega
  split
  .exact hd
  .exact Nat.le_of_eq c
 split
 .rename_i d
  split
  .cases a with
   | nil=>exact absurd O (f d)
   | cons y r=>
    simp only[List.headD_cons,Re.sizes];have b:=Re.size_eq y;cases hya:y.args with
    | nil=>simp[BB,Re.size,Re.sizes]
    | cons z q=>rw[hya] at b;simp only[List.headD_cons,Re.sizes] at b⊢;omega
  .exact Nat.le_of_eq c
 .exact Nat.le_of_eq c
theorem La (l:List Re):(Bv 3 BP l).size<=Re.sizes l+1:=by
 have h:=I0 3 BP l;split at h
 .have:BP.size=1:=rfl;omega
 .exact h
theorem KM (c:Int):∀(l:List Re) (M:Nat),Re.sizes l<=M->(EK c l).size<=Re.sizes (CL c l)+l.length*(M+4)+1
 | [],M,_=>by simp[EK,BB,Re.size,Re.sizes]
 | t::ts,M,hM=>by
  simp only[Re.sizes] at hM;have ih:=KM c ts M qO;have b:=GT [A6 c t,Bv 3 BP ts];have h2:=La ts;simp only[Re.sizes] at b;simp only[EK,CL,Re.sizes,List.length_cons,Nat.succ_mul];split
  .omega
  .split
   .have d:=GE (k:=4) (s:=[]) (a:=[De [A6 c t,Bv 3 BP ts],EK c ts]) (m:=0) (x:=0) (g:=false) qO qO;simp only[Re.sizes] at d;omega
   .omega
mutual
theorem Ll (c:Int) (N:Nat):∀{t:Re},Au t->t.size<=N->(A6 c t).size+(N+6)<=(N+6)*(2*t.size)
 | .mk k s a m x g,h,hN=>by
  have hn:=h.1;have l:(Re.mk k s a m x g).size=Re.sizes a+1:=by simp[Re.size]
  have ih:=Hp c N h.2 qO;have e:(N+6)*(2*(Re.sizes a+1))=(N+6)*(2*Re.sizes a)+2*(N+6):=by rw[Nat.mul_add 2,Nat.mul_add];omega
  have b:1+(N+6)<=(N+6)*(2*(Re.sizes a+1)):=by rw[e];omega
  rw[l] at hN⊢;have f:=Hr c a;simp only[A6];split
  .split<;>exact b
  split
  .have d:=KM c a N qO;have n:a.length*(N+4)<=(N+6)*a.length:=by rw[Nat.mul_comm (N+6)];exact Nat.mul_le_mul_left _ qO
   rw[e];omega
  split
  .rename_i h1 h2 i
   have d:=GE (k:=k) (s:=[]) (a:=CL c a) (m:=0) (x:=0) (g:=false) (λo j=>by rw[j] at f;have:=(hn.k7 o).1;simp at f;rw[<-f] at this;simp at this) (λp j=>by rw[j] at f;obtain ⟨y,rfl,_⟩:=hn.k8 p;simp at f);rw[e];omega
  split
  .rename_i i
   obtain ⟨y,rfl,_⟩:=hn.k5 i;have d:=GT [A6 c y,.mk k s [y] m x g];simp only[Re.sizes,Re.size,CL,List.headD_cons,List.length_cons,List.length_nil] at d ih hN e⊢;rw[e];omega
  split
  .rename_i i
   obtain ⟨y,rfl,_⟩:=hn.k6 i;have d:=GT [A6 c y,Cz 6 [] [y] (max 0 (m - 1)) (x - 1) false];have n:=GE (k:=6) (s:=[]) (a:=[y]) (m:=max 0 (m - 1)) (x:=x - 1) (g:=false) qO qO;simp only[Re.sizes,CL,List.headD_cons,List.length_cons,List.length_nil] at d n ih hN e⊢;rw[e];omega
  .exact b
theorem Hp (c:Int) (N:Nat):∀{a:List Re},EX a->Re.sizes a<=N->Re.sizes (CL c a)+(N+6)*a.length<=(N+6)*(2*Re.sizes a)
 | [],_,_=>by simp[CL,Re.sizes]
 | t::a,h,hN=>by
  simp only[Re.sizes] at hN;have h1:=Ll c N h.1 qO;have h2:=Hp c N h.2 qO;simp only[CL,Re.sizes,List.length_cons];have e1:(N+6)*(2*(t.size+Re.sizes a))=(N+6)*(2*t.size)+(N+6)*(2*Re.sizes a):=by rw[Nat.mul_add 2,Nat.mul_add]
  have e2:(N+6)*(a.length+1)=(N+6)*a.length+(N+6):=by rw[Nat.mul_add,Nat.mul_one]
  omega
end
theorem FA {c:Int} {t:Re} (h:Au t) (a:t.size<=300):(A6 c t).size<=200000:=by
 have h1:=Ll c 300 h a;have h2:(300+6)*(2*t.size)<=(300+6)*600:=Nat.mul_le_mul_left _ qO;omega
mutual
theorem Lt:∀{t:Re},CY t->(CS t).size<=t.size
 | .mk k s a m x g,h=>by
  have ih:Re.sizes (FC a)<=Re.sizes a:=Ht (DL h);have b:(FC a).length=a.length:=by rw[F_,List.length_map]
  have e:=@OO _ h;have d:=@GC _ h;simp only[Re.kind,Re.args] at d e;have hn:=GE (k:=k) (s:=s) (a:=FC a) (m:=m) (x:=x) (g:=g) (λh7 c=>by have:=e qO;rw[c] at b;simp at b;omega) (λh8 c=>by have:=d qO;rw[c] at b;simp at b;omega);simp only[CS,Re.size];omega
theorem Ht:∀{a:List Re},DB a->Re.sizes (FC a)<=Re.sizes a
 | [],_=>Nat.le_refl _
 | t::a,h=>by
  simp only[DB] at h;have h1:=Lt h.1;have h2:=Ht h.2;simp only[FC,Re.sizes];omega
end
end Go.Proofs
