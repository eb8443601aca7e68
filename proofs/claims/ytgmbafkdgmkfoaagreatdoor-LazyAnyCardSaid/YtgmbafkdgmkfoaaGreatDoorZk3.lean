/- Contracts and plain lemmas, part 3. -/
import Derived.Test.YtgmbafkdgmkfoaaGreatDoorZk2
open Go.Proofs.Tryz
set_option maxHeartbeats 16000000
namespace Go.Proofs
open Go Go.Eng
set_option maxRecDepth 100000
mutual
def C_ (ks:List Int):Re->Bool
  | .mk k _ args _ _ _=>ks.contains k || DO ks args
def DO (ks:List Int):List Re->Bool
  | []=>false
  | t::ts=>C_ ks t || DO ks ts
end
def KI (ks:List Int):Unit->Re->Bool×Unit:=λ_ t=>(!ks.contains t.kind,())
mutual
theorem NZ (a:List Int):∀(t:Re),(CU (KI a) t ()).1 = !C_ a t
 | .mk k set args mn mx ng=>by
  have h:=Lc a args;rw[Ee];split
  .rename_i b
   have b:a.contains k=false:=by simpa only[KI,Re.kind,Bool.not_eq_true'] using b
   show (CO (KI a) args ()).1=_;rw[h];simp only[C_,b,Bool.false_or]
  .rename_i b
   have b:a.contains k=true:=by
    cases hc:a.contains k with
    | true=>rfl
    | false=>exact absurd (show (KI a () (.mk k set args mn mx ng)).1=true by simp only[KI,Re.kind,hc,Bool.not_false]) b
   simp only[C_,b,Bool.true_or,Bool.not_true]
theorem Lc (a:List Int):∀(b:List Re),(CO (KI a) b ()).1 = !DO a b
 | []=>rfl
 | t::b=>by
  have c:=NZ a t;have h:=Lc a b;rw[C'];split
  .rename_i d
   rw[d] at c;have e:C_ a t=false:=by simpa using c.symm
   show (CO (KI a) b ()).1=_;rw[h];simp only[DO,e,Bool.false_or]
  .rename_i d
   have e:C_ a t=true:=by
    cases hc:C_ a t with
    | true=>rfl
    | false=>rw[hc] at c;exact absurd c d
   simp only[DO,e,Bool.true_or,Bool.not_true]
end
theorem Up (w0:World) (t:Re) (vs:List Value) (ks:List Int) (v:Value) (b:Nat) (ht:A4 w0 t vs) (hB:BH w0 b #[v] 46) (hks:BZ w0 v ks) :
 Bi prog 103 #[.agg vs.toArray,.pointer (some ⟨b,0,none⟩)] w0 λr w=>r=.bool (!ks.contains t.kind)∧Ae w0 w:=by
 obtain ⟨sa,sc,aa,ac,rfl,_,_,_⟩:=ht.form;refine qR func103 O ntmps103 O (λE=>(AA (BL (v:=(.agg (R6 t sa sc aa ac))) (c:=(R6 t sa sc aa ac)) qD O O ?_)));intro b1 w1 N1;replace hB:=N1.keep hB;replace E:=E.ext N1.ext;have B1:=N1.blk;refine qA _ O (AB (AA (qV (AL O K1 (hB.cell O)) (qF b1 0 0 O underlying25 O Ay O (qV (AL O Al (B1.cell O)) (qE O (AI func104 kQ kQ O) (W_ _ v t.kind ks (hks.ext E)) ?_))))));rintro _ w9 ⟨rfl,X9⟩;replace hB:=X9.keep hB;replace B1:=X9.keep B1;replace E:=E.ext X9;refine qV (Dg O) (qA _ O (AB (AJ (AV results103 (v:=(.bool (!(ks.contains t.kind)))) O ?_))));exact ⟨O,E⟩
theorem WR (k:World) (t:Re) (vs:List Value) (a:List Int) (v:Value) (l:A4 k t vs) (f:BZ k v a) :
 Bi prog 63 #[.agg vs.toArray,v] k λr w=>r=.bool (C_ a t)∧Ae k w:=by
 have p:=l;obtain ⟨sa,sc,aa,ac,rfl,_,_,_⟩:=l.form;obtain ⟨i,g,rfl⟩:=BR.form f;simp only[List.length_map] at f⊢;refine qR func63 O ntmps63 O (λE=>(AA (BL (v:=(.agg (R6 t sa sc aa ac))) (c:=(R6 t sa sc aa ac)) qD O O ?_)));intro br wr x;replace E:=E.ext x.ext;have j:=x.blk;refine BL (v:=(.slice i a.length g)) (c:=#[(.slice i a.length g)]) qD O O ?_;intro d m q;replace j:=q.keep j;replace E:=E.ext q.ext;have o:=q.blk;refine qA _ O (AB (AA (qV (AK (vs:=[(I6 t.kind),(.slice sa t.set.length sc),(.slice aa t.args.length ac),(I6 t.mn),(I6 t.mx),(.bool t.neg)]) O Ad AH O (j.cells O)) (qV (Dx O O) ?_))));have z:∀(s:Unit) (w:World) (t:Re) (vs:List Value),d+1<=w.heap.size->Ae m w->BH w d #[.slice i a.length g] 46->A4 m t vs->Bh prog (.func (.func 103) #[] #[.pointer (some ⟨d,0,none⟩)]) #[.agg vs.toArray] w λr w'=>r=.bool (KI a s t).1∧Chg Ak w w'∧BH w' d #[.slice i a.length g] 46:=λs w t vs _ y n l=>Bh.mk (first:=#[]) (cap:=#[.pointer (some ⟨d,0,none⟩)]) func103 kQ kQ O ((Up w t vs a (.slice i a.length g) d (A4.ext y t l) n ((f.ext E).ext y)).mono λr w' h=>⟨h.1,h.2,Ae.keep h.2 n⟩);refine qE O (AI func69 kQ kQ O) ((PP (KI a) (λ_ w=>BH w d #[.slice i a.length g] 46) Ak (d+1) _ m (λb hb=>hb.elim) (λs w w' n e=>e.keep n) z t.size t (Nat.le_refl _) () _ _ (by have:=o.lt;omega) (Ae.refl _) o (A4.ext E t p)).mono (R':=λr w=>r=.bool (CU (KI a) t ()).1∧Ae m w) (λr w h=>⟨h.1,h.2.1⟩)) ?_;rintro _ w9 ⟨rfl,u⟩;replace j:=u.keep j;replace o:=u.keep o;replace E:=E.ext u;refine qV (Dg O) (qA _ O (AB (AJ (AV results63 (v:=(.bool (!((CU (KI a) t ()).1)))) O ?_))));exact ⟨BO (by rw[NZ];simp),E⟩
structure NodeI (t:Re):Prop where
 k:0<=t.kind∧t.kind<=10
 two:t.kind=3∨t.kind=4∨t.kind=7->2<=t.args.length
 one:t.kind=5∨t.kind=6∨t.kind=8∨t.kind=9∨t.kind=10->t.args.length=1
 rep:t.kind=6->0<=t.mn∧t.mn<=t.mx∧t.mx<=8
 grp:t.kind=9->0<=t.mn∧t.mn<=9
 sett:t.kind=2->t.set≠[]
theorem Km {t:Re} (h:CH t=0):NodeI t:=by
 unfold CH at h;split at h
 .cases h
 rename_i h1
 split at h
 .cases h
 rename_i d
 have c:EM t=true:=by simpa using d
 unfold EM at c;simp only[Bool.and_eq_true] at c;have b:=c.1.1.1.1;unfold J5 at b;refine ⟨qO,λa=>?_,λa=>?_,λa=>?_,λa=>?_,λa=>?_⟩
 .rw[if_pos a] at b;have:=of_decide_eq_true b;omega
 .rw[if_neg qO,if_pos a] at b;have:=of_decide_eq_true b;omega
 .rw[if_neg qO,if_pos a] at h;split at h
  .cases h
  .omega
 .rw[if_neg qO,if_neg qO,if_pos a] at h;split at h
  .cases h
  .omega
 .rw[if_pos a] at h;intro e;rw[e] at h;simp[BT,EV] at h
end Go.Proofs
namespace Go.Proofs
open Go Go.Eng Go.Sort
set_option maxRecDepth 100000
theorem Ph {t:Re} (h:CY t) (h9:t.kind≠9) (e:t.kind≠10) {a:List Re} (l:a.length=t.args.length):PreN t.kind t.set a t.mn t.mx t.neg:=by
 have hn:=E9 h;have b:=Km hn;have g:=(GD h).2.2;simp only[EM,Bool.and_eq_true,Bool.or_eq_true,decide_eq_true_eq,Bool.not_eq_true'] at g;obtain ⟨⟨⟨⟨d,m⟩,f3⟩,f4⟩,j⟩:=g;have hk:=b.k;refine ⟨qO,?_,λc=>?_,λf=>⟨qO,qO⟩,λc=>⟨b.sett c,?_⟩,λh0=>?_,λh1=>by rw[l];exact b.one qO,λf=>b.rep f⟩
 .rcases j with h|h
  .exact absurd h e
  .exact h
 .rcases m with h|h
  .exact absurd h c
  .exact List.eq_nil_of_length_eq_zero qO
 .unfold CH at hn;split at hn
  .cases hn
  split at hn
  .cases hn
  first|rw[if_pos c] at hn|skip
  by_cases i:BT t.set=0
  .exact i
  .rw[if_pos i] at hn;exact hn
 .unfold J5 at d;rw[if_neg qO,if_neg qO] at d;have:=of_decide_eq_true d;exact List.eq_nil_of_length_eq_zero qO
theorem HL {b:List Int} {k:Int} {s:List (Int×Int)} {a:List Re} {m x:Int} {g:Bool} (h:C_ b (.mk k s a m x g)=false):b.contains k=false∧DO b a=false:=by
 simpa only[C_,Bool.or_eq_false_iff] using h
mutual
theorem Mt:∀{t:Re},CY t->C_ [9,10] t=false->Au (CS t)
 | .mk k s a m x g,h,hu=>by
  obtain ⟨c,f⟩:=HL hu;have d:k≠9:=λe=>by subst e;simp at c
  have b:k≠10:=λe=>by subst e;simp at c
  simp only[CS];exact IN (Ph (t:=.mk k s a m x g) h d b (a:=FC a) (by rw[F_,List.length_map];rfl)) (KW (DL h) f)
theorem KW:∀{b:List Re},DB b->DO [9,10] b=false->∀x∈FC b,Au x
 | [],_,_,x,a=>by simp[FC] at a
 | t::b,h,hu,x,a=>by
  simp only[DB] at h;simp only[DO,Bool.or_eq_false_iff] at hu;simp only[FC,List.mem_cons] at a;rcases a with rfl|a
  .exact Mt h.1 hu.1
  .exact KW h.2 hu.2 x a
end
theorem RQ {k:Int} {s:List (Int×Int)} {a:List Re} {m x:Int} {g:Bool} (h:SimN k s a m x g):CH (.mk k s a m x g)=0:=by
 have ab:=h.st;have aa:=h.mm;have hk:=h.ks;have ac:J5 k a.length=true:=by
  unfold J5;split
  ·rename_i hk
   refine decide_eq_true ?_;rcases hk with hk|hk|hk
   ·have:=(h.k3 hk).1;omega
   ·have:=(h.k4 hk).1;omega
   ·have:=(h.k7 hk).1;omega
  split
  ·rename_i hk
   refine decide_eq_true ?_;rcases hk with hk|hk|hk|hk|hk
   ·obtain ⟨y,rfl,_⟩:=h.k5 hk;rfl
   ·obtain ⟨y,rfl,_⟩:=h.k6 hk;rfl
   ·obtain ⟨y,rfl,_⟩:=h.k8 hk;rfl
   ·omega
   ·omega
  ·rw[h.none qO];rfl
 have hf:EM (.mk k s a m x g)=true:=by
  show (((((J5 k a.length && (decide (k=2) || decide ((s.length:Int)=0))) && ((decide (k=6) || decide (k=9)) || decide (m=0))) && (decide (k=6) || decide (x=0))) && (decide (k=10) || !g)):Bool)=true;simp only[Bool.and_eq_true,Bool.or_eq_true,decide_eq_true_eq,Bool.not_eq_true'];refine ⟨⟨⟨⟨ac,?_⟩,?_⟩,?_⟩,.inr h.ng⟩
  ·by_cases h2:k=2
   ·exact .inl h2
   ·rw[ab h2];exact .inr O
  ·by_cases h6:k=6
   ·exact .inl (.inl h6)
   ·exact .inr (aa h6).1
  ·by_cases h6:k=6
   ·exact .inl h6
   ·exact .inr (aa h6).2
 show (if k<0∨10<k then (1:Int) else if EM (.mk k s a m x g)=false then 3 else if k=2 then (if BT s≠0 then BT s else if (s.length:Int)=0 then 3 else 0) else if k=6 then (if m<0∨x<m∨8<x then 1 else 0) else if k=9 then (if m<0∨9<m then 1 else 0) else 0)=0;have h1:¬(k<0∨10<k):=qO
 rw[if_neg h1]
 first|rw[if_neg (show ¬EM (.mk k s a m x g)=false by rw[hf];decide)]|skip
 split
 ·rename_i h2
  obtain ⟨h3,h4⟩:=h.k2 h2;have h5:s.length≠0:=λe=>h3 (List.eq_nil_of_length_eq_zero e);rw[if_neg qO,if_neg qO]
 split
 ·rename_i h6
  obtain ⟨y,_,_,_,h3,h4,h5,_⟩:=h.k6 h6;rw[if_neg qO]
 split
 ·omega
 ·rfl
mutual
theorem HN:∀{t:Re},Au t->CY t∧C_ [9,10] t=false
 | .mk k s a m x g,h=>by
  have b:=KT h.2;have hk:=h.1.ks;refine ⟨by simp only[CY];exact ⟨RQ h.1,b.1⟩,?_⟩;simp only[C_,Bool.or_eq_false_iff];refine ⟨?_,b.2⟩;rw[Bool.eq_false_iff,ne_eq,List.contains_iff_mem];simp;omega
theorem KT:∀{a:List Re},EX a->DB a∧DO [9,10] a=false
 | [],_=>⟨trivial,O⟩
 | t::a,h=>by
  have c:=HN h.1;have b:=KT h.2;exact ⟨by simp only[DB];exact ⟨c.1,b.1⟩,by simp only[DO,c.2,b.2];rfl⟩
end
def Dd (t:Re):Int:=if Cj t 300≠0 then Cj t 300 else if C_ [9,10] t=true then 3 else 0
def XH (t:Re) (c:Int):Int:=if Dd t≠0 then Dd t else if CA c=false then 1 else if 300<(A6 c (CS t)).size then 2 else 0
def Xy (t:Re) (c:Int):Re:=if XH t c=0 then A6 c (CS t) else BB
theorem JR {t:Re} (h:Dd t=0):CY t∧t.size<=300∧C_ [9,10] t=false∧Au (CS t)∧(CS t).size<=300:=by
 unfold Dd at h;by_cases b:Cj t 300=0
 .rw[if_neg qO] at h;obtain ⟨a,hsz⟩:=(DF (t:=t) (most:=300) qD qD).1 b;have c:C_ [9,10] t=false:=by
   cases h2:C_ [9,10] t with
   | true=>rw[h2] at h;cases h
   | false=>rfl
  have:=Lt a;exact ⟨a,qO,c,Mt a c,qO⟩
 .rw[if_pos b] at h;exact absurd h b
theorem So {t:Re} (h:Au t) (hs:t.size<=300):Dd t=0:=by
 obtain ⟨b,a⟩:=HN h;unfold Dd;rw[if_neg (by rw[(DF (t:=t) (most:=300) qD qD).2 ⟨b,qO⟩];decide),if_neg (by rw[a];decide)]
end Go.Proofs
namespace Go.Proofs
open Go Go.Eng Go.Sort
set_option maxRecDepth 100000
theorem Vr (z:World) (x y:Int×Int):Bi prog 111 #[.agg #[.int .i64 x.1,.int .i64 x.2],.agg #[.int .i64 y.1,.int .i64 y.2]] z λv w=>v=.int .i64 (CF x y)∧Ae z w:=by
 refine qR func111 O ntmps111 O (λE=>(AA (BL (v:=(.agg #[(I6 x.1),(I6 x.2)])) (c:=#[(I6 x.1),(I6 x.2)]) qD O O ?_)));intro f w1 u;replace E:=E.ext u.ext;have e:=u.blk;refine BL (v:=(.agg #[(I6 y.1),(I6 y.2)])) (c:=#[(I6 y.1),(I6 y.2)]) qD O O ?_;intro d w2 s;replace e:=s.keep e;replace E:=E.ext s.ext;have h:=s.blk;refine qA _ O (AB (AG ?_));obtain ⟨m,a⟩:∃C:List Fact,C=[.eq (P6 f 0),.eq (I6 x.1),.eq (P6 d 0),.eq (I6 y.1),.eq (I6 (BN x.1 y.1)),.eq (P6 f 1),.eq (I6 x.2),.eq (P6 d 1),.eq (I6 y.2),.eq (I6 (BN x.2 y.2)),.gen (JG (BN x.1 y.1) (BN x.2 y.2)) (Gl _ _),.eq (I6 (CF x y)),.eq (I6 (CF x y))]:=⟨_,O⟩;refine LJ [5,6,7,8,9,10,11,12,13,14,15,16,4] [[],[0],[],[2],[1,3],[],[5],[],[7],[4,6,8],[4,9],[9,10],[0,1,2,3,4,5,6,7,8,9,10,11]] m a mixed qK qK ?_ ?_
 .intro wd i;refine DagSteps.cons (λb w' X U H=>Or.inl ⟨?_,?_⟩) ?_
  .exact AD O
  .exact AW (AY (U 2 O) underlying80 O Ay O) (Ae.refl _) O
  refine DagSteps.cons (λb w' X U H=>Or.inl ⟨?_,?_⟩) ?_
  .exact AD O
  .have F:b 5=(.pointer (some ⟨f,0,none⟩)):=H 0 O 5 (.eq (.pointer (some ⟨f,0,none⟩))) O (by rw[a];rfl);exact AW (AL F Al (((i.trans X).keep e).cell O)) (Ae.refl _) O
  refine DagSteps.cons (λb w' X U H=>Or.inl ⟨?_,?_⟩) ?_
  .exact AD O
  .exact AW (AY (U 3 O) underlying80 O Ay O) (Ae.refl _) O
  refine DagSteps.cons (λb w' X U H=>Or.inl ⟨?_,?_⟩) ?_
  .exact AD O
  .have G:b 7=(.pointer (some ⟨d,0,none⟩)):=H 2 O 7 (.eq (.pointer (some ⟨d,0,none⟩))) O (by rw[a];rfl);exact AW (AL G Al (((i.trans X).keep h).cell O)) (Ae.refl _) O
  refine DagSteps.cons (λb w' X U H=>Or.inl ⟨?_,?_⟩) ?_
  .exact AD O
  .have A:b 6=(.int .i64 x.1):=H 1 O 6 (.eq (.int .i64 x.1)) O (by rw[a];rfl);have D:b 8=(.int .i64 y.1):=H 3 O 8 (.eq (.int .i64 y.1)) O (by rw[a];rfl);exact A7 (AI func139 kQ kQ (G8 A D)) (EU _ _ _)
  refine DagSteps.cons (λb w' X U H=>Or.inl ⟨?_,?_⟩) ?_
  .exact AD O
  .exact AW (AY (U 2 O) underlying80 O Ay O) (Ae.refl _) O
  refine DagSteps.cons (λb w' X U H=>Or.inl ⟨?_,?_⟩) ?_
  .exact AD O
  .have q:b 10=(.pointer (some ⟨f,1,none⟩)):=H 5 O 10 (.eq (.pointer (some ⟨f,1,none⟩))) O (by rw[a];rfl);exact AW (AL q Al (((i.trans X).keep e).cell O)) (Ae.refl _) O
  refine DagSteps.cons (λb w' X U H=>Or.inl ⟨?_,?_⟩) ?_
  .exact AD O
  .exact AW (AY (U 3 O) underlying80 O Ay O) (Ae.refl _) O
  refine DagSteps.cons (λb w' X U H=>Or.inl ⟨?_,?_⟩) ?_
  .exact AD O
  .have n:b 12=(.pointer (some ⟨d,1,none⟩)):=H 7 O 12 (.eq (.pointer (some ⟨d,1,none⟩))) O (by rw[a];rfl);exact AW (AL n Al (((i.trans X).keep h).cell O)) (Ae.refl _) O
  refine DagSteps.cons (λb w' X U H=>Or.inl ⟨?_,?_⟩) ?_
  .exact AD O
  .have t:b 11=(.int .i64 x.2):=H 6 O 11 (.eq (.int .i64 x.2)) O (by rw[a];rfl);have j:b 13=(.int .i64 y.2):=H 8 O 13 (.eq (.int .i64 y.2)) O (by rw[a];rfl);exact A7 (AI func139 kQ kQ (G8 t j)) (EU _ _ _)
  refine DagSteps.cons (λb w' X U H=>Or.inl ⟨?_,?_⟩) ?_
  .exact AD O
  .have B:b 9=(.int .i64 (BN x.1 y.1)):=H 4 O 9 (.eq (.int .i64 (BN x.1 y.1))) O (by rw[a];rfl);have o:b 14=(.int .i64 (BN x.2 y.2)):=H 9 O 14 (.eq (.int .i64 (BN x.2 y.2))) O (by rw[a];rfl);exact LM B o
  refine DagSteps.cons (λb w' X U H=>Or.inl ⟨?_,?_⟩) ?_
  .exact AD O
  .obtain ⟨b15,g,p⟩:=H 10 O 15 (.gen (JG (BN x.1 y.1) (BN x.2 y.2)) (Gl _ _)) O (by rw[a];rfl);exact A7 (AI func138 kQ kQ (G9 g)) (Sh _ _ _ (g▸p))
  refine DagSteps.cons (λb w' X U H=>Or.inl ⟨?_,?_⟩) ?_
  .exact AD O
  .have k:b 16=(.int .i64 (CF x y)):=H 11 O 16 (.eq (.int .i64 (CF x y))) O (by rw[a];rfl);exact AW (Dq k) (Ae.refl _) O
  exact DagSteps.nil
 .intro b w3 r U H;obtain ⟨j3,rfl⟩:=Am.out (σ:=b) (l:=[(4,(.int .i64 (CF x y)))]) ⟨(show b 4=(.int .i64 (CF x y)) from H 12 4 (.eq (.int .i64 (CF x y))) O (by rw[a];rfl)),trivial⟩;clear U H;replace e:=r.keep e;replace h:=r.keep h;replace E:=E.ext r;refine AC (AJ (AV results111 (v:=(.int .i64 (CF x y))) O ?_));exact ⟨O,E⟩
theorem Vs (w0:World) (v1 v2 fv:Value) (l1 l2:List (Int×Int)) (f:Int×Int→Int×Int→Int) (h1:BD w0 v1 l1) (h2:BD w0 v2 l2)
  (hf:∀(w:World) (x y:Int×Int),Ae w0 w→Bh prog fv #[.agg #[.int .i64 x.1,.int .i64 x.2],.agg #[.int .i64 y.1,.int .i64 y.2]] w fun r w'=>r=.int .i64 (f x y)∧Ae w w') :
  Bi prog 196 #[v1,v2,fv] w0 fun v w=>v=.int .i64 (Cf f l1 l2)∧Ae w0 w:=by
 obtain ⟨a1,c1,rfl⟩:=BR.form h1;obtain ⟨a2,c2,rfl⟩:=BR.form h2;have ab:=BR.le h1;have ad:=BR.le h2;simp only[List.length_map] at h1 h2 ab ad⊢;refine qR func196 rfl ntmps196 rfl (fun E=>(AA (qA _ rfl (AB (AG (AA (qM _ rfl (qV (Aa underlying22 rfl) (qM _ rfl (AB (AU (Av (fun nn_ σ W1=>∃(k:Nat),(∃jj_,σ=Bj jj_ [(0,(.slice a1 l1.length c1)),(1,(.slice a2 l2.length c2)),(2,fv),(11,(.slice a1 l1.length c1)),(12,(I6 (l1.length:Int))),(13,(I6 (k:Int)))])∧Chg Ak w0 W1∧(k≤l1.length)∧(k≤l2.length)∧(Cf f l1 l2=Cf f (l1.drop k) (l2.drop k))∧nn_=l1.length - k) (n:=l1.length - 0) ?_ ?_))))))))))))
 ·exact ⟨0,Am.out ⟨rfl,rfl,rfl,rfl,rfl,rfl,trivial⟩,E,Nat.zero_le _,Nat.zero_le _,rfl,rfl⟩
 ·clear E;rintro _ _ W1 ⟨k,⟨j1,rfl⟩,E,hk,hk2,aa,rfl⟩;refine AA (qV (BE rfl rfl) (AB (AG (qC rfl (fun ae=>?_) (fun ae=>?_)))))
  ·obtain ⟨p,hp⟩:=AX (l:=l1) (i:=k) qO;obtain ⟨b1,o1,rfl,ah⟩:=Bd h1 qO;rw[C7 hp] at aa;refine AO (AC (AG (AU (AA (qM _ rfl (qV (AN (b:=b1) (o:=o1) (len:=l1.length) (cap:=c1) (i:=k) (o':=o1+k*2) rfl rfl rfl underlying22 BU qO qO) (qV (AK rfl Ew BU rfl ((ah k p hp).ext E)) (Bg (c:=#[(I6 0),(I6 0)]) qD Ed rfl ?_))))))));intro bp wp Np;have Fp:=Np.ge E;replace E:=E.ext Np.ext;have Bp:=Np.blk;refine qA _ rfl (Ab (b:=bp) (o:=0) (c':=#[(I6 p.1),(I6 p.2)]) rfl rfl qS BU rfl Bp qL rfl ?_);intro w3 S3;replace E:=S3.step E qQ;replace Bp:=S3.blk;refine AB (AG (AA (qM _ rfl (qM _ rfl (qV (Aa underlying22 rfl) (qV (FX rfl rfl) (AB (qC rfl (fun ai=>?_) (fun ai=>?_)))))))))
   ·refine AA (qA _ rfl (AB (AJ (AP (Ac (AP (AP (Ac (AP (AV results196 (v:=(.int .i64 1)) rfl ?_))))))))));exact ⟨Bc (by rw[aa,List.drop_eq_nil_of_le (show l2.length≤k by omega)];rfl),E⟩
   ·obtain ⟨q,hq⟩:=AX (l:=l2) (i:=k) qO;obtain ⟨b2,o2,rfl,af⟩:=Bd h2 qO;rw[C7 hq] at aa;refine AO (AC (AA (qM _ rfl (qM _ rfl (qV (AN (b:=b2) (o:=o2) (len:=l2.length) (cap:=c2) (i:=k) (o':=o2+k*2) rfl rfl rfl underlying22 BU qO qO) (qV (AK rfl Ew BU rfl ((af k q hq).ext E)) (As (v:=(.agg #[(I6 q.1),(I6 q.2)])) (c:=#[(I6 q.1),(I6 q.2)]) (n:=2) qD Ed rfl BU rfl rfl rfl qS ?_)))))));intro bq wq Nq;have Fq:=Nq.ge E;have Oq_bp:=Nq.lt Bp;replace Bp:=Nq.keep Bp;replace E:=E.ext Nq.ext;have Bq:=Nq.blk;refine AB (AA (qM _ rfl (qV (AK (vs:=[(I6 p.1),(I6 p.2)]) rfl Ew BU rfl (Bp.cells rfl)) (qV (AK (vs:=[(I6 q.1),(I6 q.2)]) rfl Ew BU rfl (Bq.cells rfl)) (DN qD rfl rfl (hf _ p q E) ?_)))));rintro _ w9 ⟨rfl,X9⟩;replace Bp:=X9.keep Bp;replace Bq:=X9.keep Bq;replace E:=E.ext X9;refine qA _ rfl (AB (AA (qM _ rfl (qV (Cy rfl rfl) (AB (qC rfl (fun ac=>?_) (fun ac=>?_)))))))
    ·refine AA (qM _ rfl (qA _ rfl (AB (AJ (Ac (AP (AP (Ac (AP (AV results196 (v:=(.int .i64 (f p q))) rfl ?_))))))))));exact ⟨Bc (by rw[aa,Cf,G',if_pos ac]),E⟩
    ·refine AO (AQ (AC (AR (qV (Ax rfl rfl (A8 qO)) (qM _ rfl (AB (AC ?_)))))));exact ⟨l1.length - (k+1),qO,k+1,Am.out ⟨rfl,rfl,rfl,rfl,rfl,rfl,trivial⟩,E,qO,qO,(by rw[aa,Cf,G',if_neg ac]),rfl⟩
  ·have ag:k=l1.length:=qO
   rw[ag,List.drop_length] at aa;refine Aw (AZ (AZ (Ap (AC (AG (AA (qM _ rfl (qV (Aa underlying22 rfl) (qM _ rfl (qV (Aa underlying22 rfl) (qV (BE rfl rfl) (AB (qC rfl (fun hl=>?_) (fun hl=>?_))))))))))))))
   ·obtain ⟨q,hq⟩:=AX (l:=l2) (i:=l1.length) qO;refine AA (qA _ rfl (AB (AJ (AP (AV results196 (v:=(.int .i64 (-1))) rfl ?_)))));exact ⟨Bc (by rw[aa,C7 hq];rfl),E⟩
   ·refine AO (AC (AA (qA _ rfl (AB (AJ (AV results196 (v:=(.int .i64 0)) rfl ?_))))));exact ⟨Bc (by rw[aa,List.drop_eq_nil_of_le qO];rfl),E⟩
theorem Uy (c:World) (e d:Value) (b a:List (Int×Int)) (f:BD c e b) (g:BD c d a) :
 Bi prog 180 #[e,d] c λv w=>v=.int .i64 (Cf CF b a)∧Ae c w:=by
 refine qR func180 O ntmps180 O (λE=>(AA (qA _ O (AB (AA (qM _ O (qM _ O (qE O (AI func196 kQ kQ O) (Vs _ e d _ b a CF f g (λw x y _=>Bh.mk (first:=#[]) (cap:=#[]) func111 kQ kQ O (Vr w x y))) ?_))))))));rintro _ w9 ⟨rfl,h⟩;replace E:=E.ext h;refine qA _ O (AB (AJ (AV results180 (v:=(.int .i64 (Cf CF b a))) O ?_)));exact ⟨O,E⟩
theorem ON:∀a b:List Re,By a b=Cf Cp a b
 | [],[]=>rfl
 | [],_::_=>rfl
 | _::_,[]=>rfl
 | t::ts,u::us=>by simp only[By,Cf,ON ts us]
theorem Vt (w0:World) (v1 v2 fv:Value) (l1 l2:List Re) (h1:G1 w0 v1 l1) (h2:G1 w0 v2 l2)
  (hf:∀(w:World) (x u:Re) (vs us:List Value),Ae w0 w→x∈l1→A4 w x vs→A4 w u us→Bh prog fv #[.agg vs.toArray,.agg us.toArray] w fun r w'=>r=.int .i64 (Cp x u)∧Ae w w') :
  Bi prog 181 #[v1,v2,fv] w0 fun v w=>v=.int .i64 (By l1 l2)∧Ae w0 w:=by
 have g1:=h1;have g2:=h2;obtain ⟨a1,c1,rfl,hb1,_⟩:=h1;obtain ⟨a2,c2,rfl,hb2,_⟩:=h2;rw[ON];refine qR func181 rfl ntmps181 rfl (fun E=>(AA (qA _ rfl (AB (AG (AA (qM _ rfl (qV (Aa underlying23 rfl) (qM _ rfl (AB (AU (Av (fun nn_ σ W1=>∃(k:Nat),(∃jj_,σ=Bj jj_ [(0,(.slice a1 l1.length c1)),(1,(.slice a2 l2.length c2)),(2,fv),(11,(.slice a1 l1.length c1)),(12,(I6 (l1.length:Int))),(13,(I6 (k:Int)))])∧Chg Ak w0 W1∧(k≤l1.length)∧(k≤l2.length)∧(Cf Cp l1 l2=Cf Cp (l1.drop k) (l2.drop k))∧nn_=l1.length - k) (n:=l1.length - 0) ?_ ?_))))))))))))
 ·exact ⟨0,Am.out ⟨rfl,rfl,rfl,rfl,rfl,rfl,trivial⟩,E,Nat.zero_le _,Nat.zero_le _,rfl,rfl⟩
 ·clear E;rintro _ _ W1 ⟨k,⟨j1,rfl⟩,E,hk,hk2,ab,rfl⟩;refine AA (qV (BE rfl rfl) (AB (AG (qC rfl (fun am=>?_) (fun am=>?_)))))
  ·obtain ⟨p,hp⟩:=AX (l:=l1) (i:=k) qO;obtain ⟨b1,o1,rfl,ar⟩:=g1.cells qO;obtain ⟨vs,ao,al⟩:=ar k p hp;have ah:=al;obtain ⟨sa,sc,aa,ac,rfl,_,_,_⟩:=al.form;rw[C7 hp] at ab;refine AO (AC (AG (AU (AA (qM _ rfl (qV (AN (b:=b1) (o:=o1) (len:=l1.length) (cap:=c1) (i:=k) (o':=o1+k*6) rfl rfl rfl underlying23 AH qO qO) (qV (AK rfl Ad AH rfl (ao.ext E)) (Bg (c:=#[(I6 0),(.slice none 0 0),(.slice none 0 0),(I6 0),(I6 0),(.bool false)]) qD A9 rfl ?_))))))));intro bp wp Np;have Fp:=Np.ge E;replace E:=E.ext Np.ext;have Bp:=Np.blk;refine qA _ rfl (Ab (b:=bp) (o:=0) (c':=(R6 p sa sc aa ac)) rfl rfl qS AH rfl Bp qL rfl ?_);intro w3 S3;replace E:=S3.step E qQ;replace Bp:=S3.blk;refine AB (AG (AA (qM _ rfl (qM _ rfl (qV (Aa underlying23 rfl) (qV (FX rfl rfl) (AB (qC rfl (fun au=>?_) (fun au=>?_)))))))))
   ·refine AA (qA _ rfl (AB (AJ (AP (Ac (AP (AP (Ac (AP (AV results181 (v:=(.int .i64 1)) rfl ?_))))))))));exact ⟨Bc (by rw[ab,List.drop_eq_nil_of_le (show l2.length≤k by omega)];rfl),E⟩
   ·obtain ⟨q,hq⟩:=AX (l:=l2) (i:=k) qO;obtain ⟨b2,o2,rfl,ap⟩:=g2.cells qO;obtain ⟨us,an,ak⟩:=ap k q hq;have ag:=ak;obtain ⟨ae,aj,ad,ai,rfl,_,_,_⟩:=ak.form;rw[C7 hq] at ab;refine AO (AC (AA (qM _ rfl (qM _ rfl (qV (AN (b:=b2) (o:=o2) (len:=l2.length) (cap:=c2) (i:=k) (o':=o2+k*6) rfl rfl rfl underlying23 AH qO qO) (qV (AK rfl Ad AH rfl (an.ext E)) (As (v:=(.agg (R6 q ae aj ad ai))) (c:=(R6 q ae aj ad ai)) (n:=6) qD A9 rfl AH rfl rfl rfl qS ?_)))))));intro bq wq Nq;have Fq:=Nq.ge E;have Oq_bp:=Nq.lt Bp;replace Bp:=Nq.keep Bp;replace E:=E.ext Nq.ext;have Bq:=Nq.blk;refine AB (AA (qM _ rfl (qV (AK (vs:=[(I6 p.kind),(.slice sa p.set.length sc),(.slice aa p.args.length ac),(I6 p.mn),(I6 p.mx),(.bool p.neg)]) rfl Ad AH rfl (Bp.cells rfl)) (qV (AK (vs:=[(I6 q.kind),(.slice ae q.set.length aj),(.slice ad q.args.length ai),(I6 q.mn),(I6 q.mx),(.bool q.neg)]) rfl Ad AH rfl (Bq.cells rfl)) (DN qD rfl rfl (hf _ p q _ _ E (List.mem_of_getElem? hp) (A4.ext E p ah) (A4.ext E q ag)) ?_)))));rintro _ w9 ⟨rfl,X9⟩;replace Bp:=X9.keep Bp;replace Bq:=X9.keep Bq;replace E:=E.ext X9;refine qA _ rfl (AB (AA (qM _ rfl (qV (Cy rfl rfl) (AB (qC rfl (fun af=>?_) (fun af=>?_)))))))
    ·refine AA (qM _ rfl (qA _ rfl (AB (AJ (Ac (AP (AP (Ac (AP (AV results181 (v:=(.int .i64 (Cp p q))) rfl ?_))))))))));exact ⟨Bc (by rw[ab,Cf,G',if_pos af]),E⟩
    ·refine AO (AQ (AC (AR (qV (Ax rfl rfl (A8 qO)) (qM _ rfl (AB (AC ?_)))))));exact ⟨l1.length - (k+1),qO,k+1,Am.out ⟨rfl,rfl,rfl,rfl,rfl,rfl,trivial⟩,E,qO,qO,(by rw[ab,Cf,G',if_neg af]),rfl⟩
  ·have aq:k=l1.length:=qO
   rw[aq,List.drop_length] at ab;refine Aw (AZ (AZ (Ap (AC (AG (AA (qM _ rfl (qV (Aa underlying23 rfl) (qM _ rfl (qV (Aa underlying23 rfl) (qV (BE rfl rfl) (AB (qC rfl (fun hl=>?_) (fun hl=>?_))))))))))))))
   ·obtain ⟨q,hq⟩:=AX (l:=l2) (i:=l1.length) qO;refine AA (qA _ rfl (AB (AJ (AP (AV results181 (v:=(.int .i64 (-1))) rfl ?_)))));exact ⟨Bc (by rw[ab,C7 hq];rfl),E⟩
   ·refine AO (AC (AA (qA _ rfl (AB (AJ (AV results181 (v:=(.int .i64 0)) rfl ?_))))));exact ⟨Bc (by rw[ab,List.drop_eq_nil_of_le qO];rfl),E⟩
def ND (a b c d e:Int):G2:=λv w=>∃bb,v=.slice (some ⟨bb,0,none⟩) 5 5∧BZ w v [a,b,c,d,e]
theorem Kv (a b c d e:Int):EI (ND a b c d e):=by
 rintro v w w' x ⟨h,f,g⟩;exact ⟨h,f,g.ext x⟩
theorem QK {N:Nat} {σ:CC} {w:World} {dst:Option Tmp} {ty:TypeId} {pos:String} {af:Array Edge} {g:Option (Nat×Bool)} {h k i j f:Operand} {a b c d e:Int} (o:ev σ h=.int .i64 a) (p:ev σ k=.int .i64 b) (l:ev σ i=.int .i64 c) (m:ev σ j=.int .i64 d) (n:ev σ f=.int .i64 e) :
 Jy prog N ⟨dst,.buildSlice 46 5 #[(0,h),(1,k),(2,i),(3,j),(4,f)],ty,pos,af,g⟩ (ND a b c d e) σ w:=by
 have hn:=New.mk' w #[.int .i64 a,.int .i64 b,.int .i64 c,.int .i64 d,.int .i64 e] 3;refine AW (CV (parts:=[(0,h),(1,k),(2,i),(3,j),(4,f)]) (ps:=[(0,.int .i64 a),(1,.int .i64 b),(2,.int .i64 c),(3,.int .i64 d),(4,.int .i64 e)]) (by simp only[List.map,o,p,l,m,n]) underlying46 Ay Iw qD qD qK) hn.ext ?_;exact ⟨_,O,FZ [a,b,c,d,e] hn.blk qP qP⟩
theorem VN (t u:Re):Cp t u=J4 [BN t.kind u.kind,Cf CF t.set u.set,BN t.mn u.mn,BN t.mx u.mx,By t.args u.args]:=by cases t;cases u;rfl
theorem VM:∀(n:Nat) (t u:Re) (p:World) (vs us:List Value),t.size<=n->A4 p t vs->A4 p u us->
 Bi prog 171 #[.agg vs.toArray,.agg us.toArray] p λv w=>v=.int .i64 (Cp t u)∧Ae p w:=by
 intro n
 induction n with
 | zero=>intro t u p vs us h;have:=t.size_pos;omega
 | succ n ih=>
 intro t u p vs us hn ht hu;have W:=ht;have ah:=hu;obtain ⟨sa,sc,aa,ac,rfl,s,hlen,hargs⟩:=ht.form;obtain ⟨m,k,g,j,rfl,r,hlen2,hargs2⟩:=hu.form;have aj:G1 p (.slice aa t.args.length ac) t.args:=A4.rs W;have S:G1 p (.slice g u.args.length j) u.args:=A4.rs ah;rw[VN];refine qR func171 O ntmps171 O (λE=>(AA (BL (v:=(.agg (R6 t sa sc aa ac))) (c:=(R6 t sa sc aa ac)) qD O O ?_)));intro e w1 N1;replace E:=E.ext N1.ext;have o:=N1.blk;refine BL (v:=(.agg (R6 u m k g j))) (c:=(R6 u m k g j)) qD O O ?_;intro d w2 N2;replace o:=N2.keep o;replace E:=E.ext N2.ext;have q:=N2.blk;refine qA _ O (AB (AG ?_));obtain ⟨T,a⟩:∃Fs:List Fact,Fs=[.eq (P6 e 0),.eq (I6 t.kind),.eq (P6 d 0),.eq (I6 u.kind),.eq (I6 (BN t.kind u.kind)),.eq (P6 e 1),.eq (.slice sa t.set.length sc),.eq (P6 d 1),.eq (.slice m u.set.length k),.eq (I6 (Cf CF t.set u.set)),.eq (P6 e 3),.eq (I6 t.mn),.eq (P6 d 3),.eq (I6 u.mn),.eq (I6 (BN t.mn u.mn)),.eq (P6 e 4),.eq (I6 t.mx),.eq (P6 d 4),.eq (I6 u.mx),.eq (I6 (BN t.mx u.mx)),.eq (P6 e 2),.eq (.slice aa t.args.length ac),.eq (P6 d 2),.eq (.slice g u.args.length j),.eq (I6 (By t.args u.args)),.gen (ND (BN t.kind u.kind) (Cf CF t.set u.set) (BN t.mn u.mn) (BN t.mx u.mx) (By t.args u.args)) (Kv _ _ _ _ _),.eq (I6 (J4 [BN t.kind u.kind,Cf CF t.set u.set,BN t.mn u.mn,BN t.mx u.mx,By t.args u.args])),.eq (I6 (J4 [BN t.kind u.kind,Cf CF t.set u.set,BN t.mn u.mn,BN t.mx u.mx,By t.args u.args]))]:=⟨_,O⟩;refine LJ [5,6,7,8,9,10,11,12,13,14,15,16,17,18,19,20,21,22,23,24,25,26,27,28,29,30,31,4] [[],[0],[],[2],[1,3],[],[5],[],[7],[4,6,8],[],[10],[],[12],[9,11,13],[],[15],[],[17],[14,16,18],[],[20],[],[22],[19,21,23],[4,9,14,19,24],[24,25],[0,1,2,3,4,5,6,7,8,9,10,11,12,13,14,15,16,17,18,19,20,21,22,23,24,25,26]] T a mixed qK qK ?_ ?_
 .intro wd f;refine DagSteps.cons (λb w' X U H=>Or.inl ⟨?_,?_⟩) ?_
  .exact AD O
  .exact AW (AY (U 2 O) underlying25 O Ay O) (Ae.refl _) O
  refine DagSteps.cons (λb w' X U H=>Or.inl ⟨?_,?_⟩) ?_
  .exact AD O
  .have e5:b 5=(.pointer (some ⟨e,0,none⟩)):=H 0 O 5 (.eq (.pointer (some ⟨e,0,none⟩))) O (by rw[a];rfl);exact AW (AL e5 Al (((f.trans X).keep o).cell O)) (Ae.refl _) O
  refine DagSteps.cons (λb w' X U H=>Or.inl ⟨?_,?_⟩) ?_
  .exact AD O
  .exact AW (AY (U 3 O) underlying25 O Ay O) (Ae.refl _) O
  refine DagSteps.cons (λb w' X U H=>Or.inl ⟨?_,?_⟩) ?_
  .exact AD O
  .have e7:b 7=(.pointer (some ⟨d,0,none⟩)):=H 2 O 7 (.eq (.pointer (some ⟨d,0,none⟩))) O (by rw[a];rfl);exact AW (AL e7 Al (((f.trans X).keep q).cell O)) (Ae.refl _) O
  refine DagSteps.cons (λb w' X U H=>Or.inl ⟨?_,?_⟩) ?_
  .exact AD O
  .have e6:b 6=(.int .i64 t.kind):=H 1 O 6 (.eq (.int .i64 t.kind)) O (by rw[a];rfl);have e8:b 8=(.int .i64 u.kind):=H 3 O 8 (.eq (.int .i64 u.kind)) O (by rw[a];rfl);exact A7 (AI func139 kQ kQ (G8 e6 e8)) (EU _ _ _)
  refine DagSteps.cons (λb w' X U H=>Or.inl ⟨?_,?_⟩) ?_
  .exact AD O
  .exact AW (AY (U 2 O) underlying25 O CM O) (Ae.refl _) O
  refine DagSteps.cons (λb w' X U H=>Or.inl ⟨?_,?_⟩) ?_
  .exact AD O
  .have ae:b 10=(.pointer (some ⟨e,1,none⟩)):=H 5 O 10 (.eq (.pointer (some ⟨e,1,none⟩))) O (by rw[a];rfl);exact AW (AL ae Cb (((f.trans X).keep o).cell O)) (Ae.refl _) O
  refine DagSteps.cons (λb w' X U H=>Or.inl ⟨?_,?_⟩) ?_
  .exact AD O
  .exact AW (AY (U 3 O) underlying25 O CM O) (Ae.refl _) O
  refine DagSteps.cons (λb w' X U H=>Or.inl ⟨?_,?_⟩) ?_
  .exact AD O
  .have F:b 12=(.pointer (some ⟨d,1,none⟩)):=H 7 O 12 (.eq (.pointer (some ⟨d,1,none⟩))) O (by rw[a];rfl);exact AW (AL F Cb (((f.trans X).keep q).cell O)) (Ae.refl _) O
  refine DagSteps.cons (λb w' X U H=>Or.inl ⟨?_,?_⟩) ?_
  .exact AD O
  .have N:b 11=(.slice sa t.set.length sc):=H 6 O 11 (.eq (.slice sa t.set.length sc)) O (by rw[a];rfl);have R:b 13=(.slice m u.set.length k):=H 8 O 13 (.eq (.slice m u.set.length k)) O (by rw[a];rfl);exact A7 (AI func180 kQ kQ (G8 N R)) (Uy _ _ _ _ _ (s.ext (Ae.trans E (f.trans X))) (r.ext (Ae.trans E (f.trans X))))
  refine DagSteps.cons (λb w' X U H=>Or.inl ⟨?_,?_⟩) ?_
  .exact AD O
  .exact AW (AY (U 2 O) underlying25 O Ay O) (Ae.refl _) O
  refine DagSteps.cons (λb w' X U H=>Or.inl ⟨?_,?_⟩) ?_
  .exact AD O
  .have G:b 15=(.pointer (some ⟨e,3,none⟩)):=H 10 O 15 (.eq (.pointer (some ⟨e,3,none⟩))) O (by rw[a];rfl);exact AW (AL G Al (((f.trans X).keep o).cell O)) (Ae.refl _) O
  refine DagSteps.cons (λb w' X U H=>Or.inl ⟨?_,?_⟩) ?_
  .exact AD O
  .exact AW (AY (U 3 O) underlying25 O Ay O) (Ae.refl _) O
  refine DagSteps.cons (λb w' X U H=>Or.inl ⟨?_,?_⟩) ?_
  .exact AD O
  .have M:b 17=(.pointer (some ⟨d,3,none⟩)):=H 12 O 17 (.eq (.pointer (some ⟨d,3,none⟩))) O (by rw[a];rfl);exact AW (AL M Al (((f.trans X).keep q).cell O)) (Ae.refl _) O
  refine DagSteps.cons (λb w' X U H=>Or.inl ⟨?_,?_⟩) ?_
  .exact AD O
  .have B:b 16=(.int .i64 t.mn):=H 11 O 16 (.eq (.int .i64 t.mn)) O (by rw[a];rfl);have ab:b 18=(.int .i64 u.mn):=H 13 O 18 (.eq (.int .i64 u.mn)) O (by rw[a];rfl);exact A7 (AI func139 kQ kQ (G8 B ab)) (EU _ _ _)
  refine DagSteps.cons (λb w' X U H=>Or.inl ⟨?_,?_⟩) ?_
  .exact AD O
  .exact AW (AY (U 2 O) underlying25 O Ay O) (Ae.refl _) O
  refine DagSteps.cons (λb w' X U H=>Or.inl ⟨?_,?_⟩) ?_
  .exact AD O
  .have ag:b 20=(.pointer (some ⟨e,4,none⟩)):=H 15 O 20 (.eq (.pointer (some ⟨e,4,none⟩))) O (by rw[a];rfl);exact AW (AL ag Al (((f.trans X).keep o).cell O)) (Ae.refl _) O
  refine DagSteps.cons (λb w' X U H=>Or.inl ⟨?_,?_⟩) ?_
  .exact AD O
  .exact AW (AY (U 3 O) underlying25 O Ay O) (Ae.refl _) O
  refine DagSteps.cons (λb w' X U H=>Or.inl ⟨?_,?_⟩) ?_
  .exact AD O
  .have C:b 22=(.pointer (some ⟨d,4,none⟩)):=H 17 O 22 (.eq (.pointer (some ⟨d,4,none⟩))) O (by rw[a];rfl);exact AW (AL C Al (((f.trans X).keep q).cell O)) (Ae.refl _) O
  refine DagSteps.cons (λb w' X U H=>Or.inl ⟨?_,?_⟩) ?_
  .exact AD O
  .have J:b 21=(.int .i64 t.mx):=H 16 O 21 (.eq (.int .i64 t.mx)) O (by rw[a];rfl);have K:b 23=(.int .i64 u.mx):=H 18 O 23 (.eq (.int .i64 u.mx)) O (by rw[a];rfl);exact A7 (AI func139 kQ kQ (G8 J K)) (EU _ _ _)
  refine DagSteps.cons (λb w' X U H=>Or.inl ⟨?_,?_⟩) ?_
  .exact AD O
  .exact AW (AY (U 2 O) underlying25 O CG O) (Ae.refl _) O
  refine DagSteps.cons (λb w' X U H=>Or.inl ⟨?_,?_⟩) ?_
  .exact AD O
  .have I:b 25=(.pointer (some ⟨e,2,none⟩)):=H 20 O 25 (.eq (.pointer (some ⟨e,2,none⟩))) O (by rw[a];rfl);exact AW (AL I B0 (((f.trans X).keep o).cell O)) (Ae.refl _) O
  refine DagSteps.cons (λb w' X U H=>Or.inl ⟨?_,?_⟩) ?_
  .exact AD O
  .exact AW (AY (U 3 O) underlying25 O CG O) (Ae.refl _) O
  refine DagSteps.cons (λb w' X U H=>Or.inl ⟨?_,?_⟩) ?_
  .exact AD O
  .have P:b 27=(.pointer (some ⟨d,2,none⟩)):=H 22 O 27 (.eq (.pointer (some ⟨d,2,none⟩))) O (by rw[a];rfl);exact AW (AL P B0 (((f.trans X).keep q).cell O)) (Ae.refl _) O
  refine DagSteps.cons (λb w' X U H=>Or.inl ⟨?_,?_⟩) ?_
  .exact AD O
  .have ai:b 26=(.slice aa t.args.length ac):=H 21 O 26 (.eq (.slice aa t.args.length ac)) O (by rw[a];rfl);have ak:b 28=(.slice g u.args.length j):=H 23 O 28 (.eq (.slice g u.args.length j)) O (by rw[a];rfl);exact A7 (AI func181 kQ kQ (YG ai ak O)) (Vt _ _ _ _ _ _ (aj.ext (Ae.trans E (f.trans X))) (S.ext (Ae.trans E (f.trans X))) (λw x y xs ys _ hx L D=>Bh.mk (first:=#[]) (cap:=#[]) func171 kQ kQ O (ih x y w xs ys (by obtain ⟨i,hi⟩:=List.mem_iff_getElem?.1 hx;have:=Re.size_arg hi;omega) L D)))
  refine DagSteps.cons (λb w' X U H=>Or.inl ⟨?_,?_⟩) ?_
  .exact AD O
  .have e9:b 9=(.int .i64 (BN t.kind u.kind)):=H 4 O 9 (.eq (.int .i64 (BN t.kind u.kind))) O (by rw[a];rfl);have V:b 14=(.int .i64 (Cf CF t.set u.set)):=H 9 O 14 (.eq (.int .i64 (Cf CF t.set u.set))) O (by rw[a];rfl);have af:b 19=(.int .i64 (BN t.mn u.mn)):=H 14 O 19 (.eq (.int .i64 (BN t.mn u.mn))) O (by rw[a];rfl);have ad:b 24=(.int .i64 (BN t.mx u.mx)):=H 19 O 24 (.eq (.int .i64 (BN t.mx u.mx))) O (by rw[a];rfl);have Z:b 29=(.int .i64 (By t.args u.args)):=H 24 O 29 (.eq (.int .i64 (By t.args u.args))) O (by rw[a];rfl);exact QK e9 V af ad Z
  refine DagSteps.cons (λb w' X U H=>Or.inl ⟨?_,?_⟩) ?_
  .exact AD O
  .obtain ⟨b30,z,A⟩:=H 25 O 30 (.gen (ND (BN t.kind u.kind) (Cf CF t.set u.set) (BN t.mn u.mn) (BN t.mx u.mx) (By t.args u.args)) (Kv _ _ _ _ _)) O (by rw[a];rfl);exact A7 (AI func138 kQ kQ (G9 z)) (Sh _ _ _ (z▸A))
  refine DagSteps.cons (λb w' X U H=>Or.inl ⟨?_,?_⟩) ?_
  .exact AD O
  .have Q:b 31=(.int .i64 (J4 [BN t.kind u.kind,Cf CF t.set u.set,BN t.mn u.mn,BN t.mx u.mx,By t.args u.args])):=H 26 O 31 (.eq (.int .i64 (J4 [BN t.kind u.kind,Cf CF t.set u.set,BN t.mn u.mn,BN t.mx u.mx,By t.args u.args]))) O (by rw[a];rfl);exact AW (Dq Q) (Ae.refl _) O
  exact DagSteps.nil
 .intro b w3 X3 U H;obtain ⟨j3,rfl⟩:=Am.out (σ:=b) (l:=[(4,(.int .i64 (J4 [BN t.kind u.kind,Cf CF t.set u.set,BN t.mn u.mn,BN t.mx u.mx,By t.args u.args])))]) ⟨(show b 4=(.int .i64 (J4 [BN t.kind u.kind,Cf CF t.set u.set,BN t.mn u.mn,BN t.mx u.mx,By t.args u.args])) from H 27 4 (.eq (.int .i64 (J4 [BN t.kind u.kind,Cf CF t.set u.set,BN t.mn u.mn,BN t.mx u.mx,By t.args u.args]))) O (by rw[a];rfl)),trivial⟩;clear U H;replace o:=X3.keep o;replace q:=X3.keep q;replace E:=E.ext X3;refine AC (AJ (AV results171 (v:=(.int .i64 (J4 [BN t.kind u.kind,Cf CF t.set u.set,BN t.mn u.mn,BN t.mx u.mx,By t.args u.args]))) O ?_));exact ⟨O,E⟩
end Go.Proofs
namespace Go.Proofs
open Go Go.Eng Go.Sort
set_option maxRecDepth 100000
abbrev SQ (k:Int):List Value:=[.int .i64 k,.slice none 0 0,.slice none 0 0,.int .i64 0,.int .i64 0,.bool false]
theorem Ie (w0:World):Bi prog 144 #[] w0 fun v w=>v=.agg (SQ 0).toArray∧Ae w0 w:=by
 refine qR func144 rfl ntmps144 rfl (fun E=>(AA (Bg (c:=#[(I6 0),(.slice none 0 0),(.slice none 0 0),(I6 0),(I6 0),(.bool false)]) qD A9 rfl ?_)));intro b1 w1 N1;have F1:=N1.ge E;replace E:=E.ext N1.ext;have B1:=N1.blk;refine AB (AA (qV (BJ (ps:=[(0,(I6 0))]) (v:=(.agg #[(I6 0),(.slice none 0 0),(.slice none 0 0),(I6 0),(I6 0),(.bool false)])) rfl qK) (Ab (b:=b1) (o:=0) (c':=#[(I6 0),(.slice none 0 0),(.slice none 0 0),(I6 0),(I6 0),(.bool false)]) rfl rfl qS AH rfl B1 qL rfl ?_)));intro w2 S2;replace E:=S2.step E qQ;replace B1:=S2.blk;refine AB (AJ (A1 results144 (vs:=[(.int .i64 0),(.slice none 0 0),(.slice none 0 0),(.int .i64 0),(.int .i64 0),(.bool false)]) (b:=b1) rfl Ad AH rfl (B1.cells rfl) ?_));exact ⟨rfl,E⟩
theorem FO (w0:World):Bi prog 146 #[] w0 fun v w=>v=.agg (SQ 1).toArray∧Ae w0 w:=by
 refine qR func146 rfl ntmps146 rfl (fun E=>(AA (Bg (c:=#[(I6 0),(.slice none 0 0),(.slice none 0 0),(I6 0),(I6 0),(.bool false)]) qD A9 rfl ?_)));intro b1 w1 N1;have F1:=N1.ge E;replace E:=E.ext N1.ext;have B1:=N1.blk;refine AB (AA (qV (BJ (ps:=[(0,(I6 1))]) (v:=(.agg #[(I6 1),(.slice none 0 0),(.slice none 0 0),(I6 0),(I6 0),(.bool false)])) rfl qK) (Ab (b:=b1) (o:=0) (c':=#[(I6 1),(.slice none 0 0),(.slice none 0 0),(I6 0),(I6 0),(.bool false)]) rfl rfl qS AH rfl B1 qL rfl ?_)));intro w2 S2;replace E:=S2.step E qQ;replace B1:=S2.blk;refine AB (AJ (A1 results146 (vs:=[(.int .i64 1),(.slice none 0 0),(.slice none 0 0),(.int .i64 0),(.int .i64 0),(.bool false)]) (b:=b1) rfl Ad AH rfl (B1.cells rfl) ?_));exact ⟨rfl,E⟩
theorem JO (a:World) (t:Re) (vs:List Value) (d:A4 a t vs):Bi prog 143 #[.agg vs.toArray] a λv w=>v=.bool (BX t)∧Ae a w:=by
 obtain ⟨sa,sc,aa,ac,rfl,_,_,_⟩:=d.form;refine qR func143 O ntmps143 O (λE=>(AA (BL (v:=(.agg (R6 t sa sc aa ac))) (c:=(R6 t sa sc aa ac)) qD O O ?_)));intro f w1 b;replace E:=E.ext b.ext;have e:=b.blk;refine qA _ O (AB (AA (qF f 0 0 O underlying25 O Ay O (qV (AL O Al (e.cell O)) (qV (Aj O O) (qA _ O (AB (AJ (AV results143 (v:=(.bool (decide ((t.kind:Int)=0)))) O ?_)))))))));exact ⟨O,E⟩
theorem R7 (a:World) (t:Re) (vs:List Value) (d:A4 a t vs):Bi prog 167 #[.agg vs.toArray] a λv w=>v=.bool (CZ t)∧Ae a w:=by
 obtain ⟨sa,sc,aa,ac,rfl,_,_,_⟩:=d.form;refine qR func167 O ntmps167 O (λE=>(AA (BL (v:=(.agg (R6 t sa sc aa ac))) (c:=(R6 t sa sc aa ac)) qD O O ?_)));intro f w1 b;replace E:=E.ext b.ext;have e:=b.blk;refine qA _ O (AB (AA (qF f 0 0 O underlying25 O Ay O (qV (AL O Al (e.cell O)) (qV (Aj O O) (qA _ O (AB (AJ (AV results167 (v:=(.bool (decide ((t.kind:Int)=1)))) O ?_)))))))));exact ⟨O,E⟩
theorem Oz (m:World) (t:Re) (vs:List Value) (y:A4 m t vs) (s:t.kind=8->t.args≠[]):Bi prog 142 #[.agg vs.toArray] m λv w=>v=.bool (Ca t)∧Ae m w:=by
 obtain ⟨sa,sc,aa,ac,rfl,_,_,e⟩:=y.form;refine qR func142 O ntmps142 O (λE=>(AA (BL (v:=(.agg (R6 t sa sc aa ac))) (c:=(R6 t sa sc aa ac)) qD O O ?_)));intro p wr r;replace E:=E.ext r.ext;have q:=r.blk;refine qA _ O (AB (AA (qF p 0 0 O underlying25 O Ay O (qV (AL O Al (q.cell O)) (qV (Aj O O) (qM _ O ?_))))));rcases Bool.eq_false_or_eq_true (decide ((t.kind:Int)=8)) with a|a
 .have d:=a;replace d:=of_decide_eq_true d;obtain ⟨x,h⟩:=AX (l:=t.args) (i:=0) (List.length_pos_iff.2 (s d));obtain ⟨u,n,rfl,g⟩:=NO e (List.length_pos_iff.2 (s d));have hpl:=AM h;obtain ⟨us,k,j⟩:=g.get h;obtain ⟨xsa,xsc,xaa,xac,rfl,_,_,_⟩:=j.form;refine AF O O qD (BC a) (qF p 0 2 O underlying25 O CG O (AF O O qD (BC a) (qV (AL O B0 (q.cell O)) (AF O O qD (BC a) (qV (AN (b:=u) (o:=n) (len:=t.args.length) (cap:=ac) (i:=0) (o':=n+0*6) O O O underlying23 AH qO qO) (AF O O qD (BC a) (qF _ _ _ O underlying25 O Ay O (AF O O qD (BC a) (qV (AL O Al (E.cell (λf=>f) (k 0 _ O))) (AF O O qD (BC a) (qV (Aj O O) (qV (Aq (v:=(.bool (decide ((x.kind:Int)=0)))) O (by rw[a];rfl)) (qA _ O (AB (AJ ?_)))))))))))))));refine AV results142 (v:=(.bool (decide ((x.kind:Int)=0)))) O ?_;exact ⟨BO (by unfold Ca;rw[GN h,d];rfl),E⟩
 .have d:=a;replace d:=of_decide_eq_false d;refine AE O O qD (v:=.bool false) (BC a) (Or.inl O) (AE O O qD (v:=.bool false) (BC a) (Or.inl O) (AE O O qD (v:=.bool false) (BC a) (Or.inl O) (AE O O qD (v:=.bool false) (BC a) (Or.inl O) (AE O O qD (v:=.bool false) (BC a) (Or.inl O) (AE O O qD (v:=.bool false) (BC a) (Or.inl O) (qV (Aq (v:=(.bool false)) O (by rw[a];rfl)) (qA _ O (AB (AJ (AV results142 (v:=(.bool false)) O ?_))))))))));exact ⟨BO (by unfold Ca;simp[a]),E⟩
theorem UK (t:Re):Cq t=if t.kind=1∨t.kind=5 then true else if t.kind=3∨t.kind=7∨t.kind=9 then Ce t.args else if t.kind=4 then Du t.args else if t.kind=6 then (decide (t.mn=0) || Ce t.args) else if t.kind=8 then !Ce t.args else if t.kind=10 then (Ce t.args != t.neg) else false:=by
 cases t with
 | mk k s a m x g=>simp only[Cq];rfl
theorem UI:∀(n:Nat) (t:Re) (F:World) (vs:List Value),t.size<=n->n<=2000000->A4 F t vs->
 Bi prog 93 #[.agg vs.toArray] F λv w=>v=.bool (Cq t)∧Ae F w:=by
 intro n
 induction n with
 | zero=>intro t F vs h;have:=t.size_pos;omega
 | succ n ih=>
 intro t F vs hn hnb ht;have ht0:=ht;obtain ⟨sa,sc,aa,ac,rfl,hset,hlen,u⟩:=ht.form;have hal:=CR t;rw[UK];refine qR func93 O ntmps93 O (λE=>(AA (BL (v:=(.agg (R6 t sa sc aa ac))) (c:=(R6 t sa sc aa ac)) qD O O ?_)));intro G w1 N1;replace E:=E.ext N1.ext;have e:=N1.blk;refine qA _ O (AB (AA (qA _ O (qA _ O (AB (AG (AA (qF G 0 2 O underlying25 O CG O (qV (AL O B0 (e.cell O)) (qV (Aa underlying23 O) (qM _ O (AB (AU (Av (λnn_ σ S=>∃(k:Nat) (a s:Bool),(∃jj_,σ=Bj jj_ [(1,(P6 G 0)),(9,(.slice aa t.args.length ac)),(10,(I6 (t.args.length:Int))),(11,(I6 (k:Int))),(3,(.bool a)),(4,(.bool s))])∧Chg Ak F S∧BH S G (R6 t sa sc aa ac) 25∧(k<=t.args.length)∧(Ce t.args=(a && Ce (t.args.drop k)))∧(Du t.args=(s || Du (t.args.drop k)))∧nn_=t.args.length - k) (n:=t.args.length - 0) ?_ ?_))))))))))))))
 .exact ⟨0,true,false,Am.out ⟨O,O,O,O,O,O,trivial⟩,E,e,Nat.zero_le _,qP,qP,O⟩
 .clear E e;rintro _ _ S ⟨k,a,s,⟨j2,rfl⟩,E,e,hk,p,m,rfl⟩;refine AA (qV (BE O O) (AB (AG (qC O (λR=>?_) (λR=>?_)))))
  .obtain ⟨x,W⟩:=AX (l:=t.args) (i:=k) qO;obtain ⟨ab,ao,rfl,H⟩:=NO u qO;obtain ⟨us,ad,J⟩:=H.get W;obtain ⟨C,z,B,q,rfl,_,_,_⟩:=J.form;rw[C7 W] at p m;simp only[Ce,Du] at p m;refine AO (AC (AG (AU (AA (qV (AN (b:=ab) (o:=ao) (len:=t.args.length) (cap:=ac) (i:=k) (o':=ao+k*6) O O O underlying23 AH qO qO) (qV (AK O Ad AH O (ad.ext E)) (As (v:=(.agg (R6 x C z B q))) (c:=(R6 x C z B q)) (n:=6) qD A9 O AH O O O qS ?_)))))));intro b4 w4 X;replace E:=E.ext X.ext;have Z:=X.blk;refine AB (AA (qV (AK (vs:=[(I6 x.kind),(.slice C x.set.length z),(.slice B x.args.length q),(I6 x.mn),(I6 x.mx),(.bool x.neg)]) O Ad AH O (Z.cells O)) (qE O (AI func93 kQ kQ O) (ih x _ _ (by have:=Re.size_arg W;omega) qO (A4.ext E x J)) ?_)));rintro _ w9 ⟨rfl,X9⟩;replace e:=X9.keep (X.keep e);replace Z:=X9.keep Z;replace E:=E.ext X9;refine qA _ O (AB (AR (qM _ O (qM _ O ?_))));rcases Bool.eq_false_or_eq_true (a) with g|g
   .have T:=g;refine AF O O qD (BC g) (qM _ O (qV (Aq (v:=(.bool (Cq x))) O (by rw[g];rfl)) (qM _ O (qM _ O ?_))));rcases Bool.eq_false_or_eq_true (s) with d|d
    .have r:=d;refine AE O O qD (v:=.bool true) (BC d) (Or.inl O) (qV (Aq (v:=(.bool true)) O (by rw[d];rfl)) (qA _ O (qA _ O (AB (AQ (AC (AR (qV (Ax O O (A8 qO)) (qM _ O (AB (AC ?_)))))))))));exact ⟨t.args.length - (k+1),qO,k+1,Cq x,true,Am.out ⟨O,O,O,O,O,O,trivial⟩,E,e,qO,(by rw[p,g];rfl),(by rw[m,d];rfl),O⟩
    .have r:=d;refine AF O O qD (BC d) (qM _ O (qV (Aq (v:=(.bool (Cq x))) O (by rw[d];rfl)) (qA _ O (qA _ O (AB (AQ (AC (AR (qV (Ax O O (A8 qO)) (qM _ O (AB (AC ?_))))))))))));exact ⟨t.args.length - (k+1),qO,k+1,Cq x,Cq x,Am.out ⟨O,O,O,O,O,O,trivial⟩,E,e,qO,(by rw[p,g];rfl),(by rw[m,d];rfl),O⟩
   .have T:=g;refine AE O O qD (v:=.bool false) (BC g) (Or.inl O) (qV (Aq (v:=(.bool false)) O (by rw[g];rfl)) (qM _ O (qM _ O ?_)));rcases Bool.eq_false_or_eq_true (s) with d|d
    .have r:=d;refine AE O O qD (v:=.bool true) (BC d) (Or.inl O) (qV (Aq (v:=(.bool true)) O (by rw[d];rfl)) (qA _ O (qA _ O (AB (AQ (AC (AR (qV (Ax O O (A8 qO)) (qM _ O (AB (AC ?_)))))))))));exact ⟨t.args.length - (k+1),qO,k+1,false,true,Am.out ⟨O,O,O,O,O,O,trivial⟩,E,e,qO,(by rw[p,g];rfl),(by rw[m,d];rfl),O⟩
    .have r:=d;refine AF O O qD (BC d) (qM _ O (qV (Aq (v:=(.bool (Cq x))) O (by rw[d];rfl)) (qA _ O (qA _ O (AB (AQ (AC (AR (qV (Ax O O (A8 qO)) (qM _ O (AB (AC ?_))))))))))));exact ⟨t.args.length - (k+1),qO,k+1,false,Cq x,Am.out ⟨O,O,O,O,O,O,trivial⟩,E,e,qO,(by rw[p,g];rfl),(by rw[m,d];rfl),O⟩
  .have V:t.args.drop k=[]:=List.drop_eq_nil_of_le qO;rw[V] at p m;have ae:Ce t.args=a:=by rw[p];simp[Ce]
   have U:Du t.args=s:=by rw[m];simp[Du]
   rw[ae,U];refine Aw (AZ (AZ (Ap (AC (AG (AA (qF G 0 0 O underlying25 O Ay O (qV (AL O Al (e.cell O)) (AB (AU (AG (AA (qV (Aj O O) (qA _ O (AB (qC O (λQ=>?_) (λQ=>?_)))))))))))))))))
   .have L:=decide_eq_true Q;refine AO (AC (Az (BC L) (AA (qA _ O (AB (AJ (Ac (AP (AV results93 (v:=(.bool true)) O ?_)))))))));exact ⟨BO (by rw[if_pos (.inl Q)]),E⟩
   .have L:=decide_eq_false Q;refine AR (qV (Aj O O) (qA _ O (AB (AC (qC O (λh5=>?_) (λh5=>?_))))))
    .refine AA (qA _ O (AB (AJ (Ac (AP (AV results93 (v:=(.bool true)) O ?_))))));exact ⟨BO (by rw[if_pos (.inr h5)]),E⟩
    .rw[if_neg (show ¬(t.kind=1∨t.kind=5) by omega)];refine AG (AA (qV (Aj O O) (qA _ O (AB (qC O (λP=>?_) (λP=>?_))))))
     .have K:=decide_eq_true P;refine AO (AC (Az (BC K) (AA (qM _ O (qA _ O (AB (AJ (Ac (AP (AV results93 (v:=(.bool a)) O ?_))))))))));exact ⟨BO (by rw[if_pos (.inl P)]),E⟩
     .have K:=decide_eq_false P;refine AA (qV (Aj O O) (qA _ O (AB (qC O (λN=>?_) (λN=>?_)))))
      .have I:=decide_eq_true N;refine AO (AC (Az (BC I) (AA (qM _ O (qA _ O (AB (AJ (Ac (AP (AV results93 (v:=(.bool a)) O ?_))))))))));exact ⟨BO (by rw[if_pos (.inr (.inl N))]),E⟩
      .have I:=decide_eq_false N;refine AR (qV (Aj O O) (qA _ O (AB (AC (qC O (λh9=>?_) (λh9=>?_))))))
       .refine AA (qM _ O (qA _ O (AB (AJ (Ac (AP (AV results93 (v:=(.bool a)) O ?_)))))));exact ⟨BO (by rw[if_pos (.inr (.inr h9))]),E⟩
       .rw[if_neg (show ¬(t.kind=3∨t.kind=7∨t.kind=9) by omega)];refine AA (qV (Aj O O) (qA _ O (AB (qC O (λy=>?_) (λy=>?_)))))
        .refine AA (qM _ O (qA _ O (AB (AJ (Ac (AP (AV results93 (v:=(.bool s)) O ?_)))))));exact ⟨BO (by rw[if_pos y]),E⟩
        .refine AA (qV (Aj O O) (qA _ O (AB (qC O (λD=>?_) (λD=>?_)))))
         .refine AA (qF G 0 3 O underlying25 O Ay O (qV (AL O Al (e.cell O)) (qV (Aj O O) (qM _ O ?_))));rcases Bool.eq_false_or_eq_true (decide ((t.mn:Int)=0)) with j|j
          .have f:=j;replace f:=of_decide_eq_true f;refine AE O O qD (v:=.bool true) (BC j) (Or.inl O) (qV (Aq (v:=(.bool true)) O (by rw[j];rfl)) (qA _ O (AB (AJ (Ac (AP (AV results93 (v:=(.bool true)) O ?_)))))));exact ⟨BO (by rw[if_neg y,if_pos D];simp[j]),E⟩
          .have f:=j;replace f:=of_decide_eq_false f;refine AF O O qD (BC j) (qM _ O (qV (Aq (v:=(.bool a)) O (by rw[j];rfl)) (qA _ O (AB (AJ (Ac (AP (AV results93 (v:=(.bool a)) O ?_))))))));exact ⟨BO (by rw[if_neg y,if_pos D];simp[j]),E⟩
         .refine AA (qV (Aj O O) (qA _ O (AB (qC O (λM=>?_) (λM=>?_)))))
          .refine AA (qM _ O (qV (Dg O) (qA _ O (AB (AJ (Ac (AP (AV results93 (v:=(.bool (!a))) O ?_))))))));exact ⟨BO (by rw[if_neg y,if_neg D,if_pos M]),E⟩
          .refine AA (qV (Aj O O) (qA _ O (AB (qC O (λA=>?_) (λA=>?_)))))
           .refine AA (qM _ O (qF G 0 5 O underlying25 O Sk O (qV (AL O Ou (e.cell O)) (qV (My underlying4 O O) (qA _ O (AB (AJ (Ac (AP (AV results93 (v:=(.bool (a != t.neg))) O ?_))))))))));exact ⟨BO (by rw[if_neg y,if_neg D,if_neg M,if_pos A]),E⟩
           .refine AO (AQ (AC (AA (qA _ O (AB (AJ (AV results93 (v:=(.bool false)) O ?_)))))));exact ⟨BO (by rw[if_neg y,if_neg D,if_neg M,if_neg A]),E⟩
end Go.Proofs
namespace Go.Proofs
open Go Go.Eng Go.Sort
set_option maxRecDepth 100000
theorem U_ {S:Nat->Prop} {w:World} {v:Value} {a:List Re} (h:DH S w v a):G1 w v a:=by
 obtain ⟨aa,ac,c,d,f⟩:=h;refine ⟨aa,ac,c,d,?_⟩;rcases f with h|⟨b,o,_,g,e⟩
 .exact .inl h
 .exact .inr ⟨b,o,g,A5.at a e⟩
theorem KC (k:Int) (z:Re) (l:List Re):(l.length=0->Bv k z l=z)∧(∀x,l.length=1->l[0]?=some x->Bv k z l=x)∧(2<=l.length->Bv k z l=.mk k [] l 0 0 false):=by
 refine ⟨λh=>by rw[List.eq_nil_of_length_eq_zero h];rfl,λx h a=>?_,Ml⟩;rw[T9 h a];rfl
theorem K7 (w0:World) (S:Nat→Prop) (v:Value) (ts:List Re) (h:DH S w0 v ts) (hS:∀x,S x→x<w0.heap.size) (hne:∀x∈ts,x.kind=3→x.args≠[]) (hsz:Re.sizes ts≤1000000) :
  Bi prog 140 #[v] w0 fun r w=>(∃vs,r=.agg vs.toArray∧AS (fun b=>S b∨w0.heap.size≤b) w (De ts) vs)∧Ae w0 w:=by
 have h0:=h;obtain ⟨aa0,ac0,rfl,a6,_⟩:=h;have hls:=GG ts;have aw:=NG 3 ts ts.length;rw[List.take_length] at aw;obtain ⟨D,hD⟩:∃D,D=EJ CZ (BI 3 ts):=⟨_,rfl⟩;have hDl:D.length≤(BI 3 ts).length:=by rw[hD];exact List.length_filter_le _ _
 have ap:De ts=if (D.any BX)=true then BB else Bv 3 BP D:=by rw[hD];rfl
 rw[ap];obtain ⟨bf,ba,bd⟩:=KC 3 BP D;refine qR func140 rfl ntmps140 rfl (fun E=>(AA (Bg (c:=#[(I6 0),(.slice none 0 0),(.slice none 0 0),(I6 0),(I6 0),(.bool false)]) qD A9 rfl ?_)));intro bo wo No;have Fo:=No.ge E;replace E:=E.ext No.ext;have Bo:=No.blk;refine AB (AA (qM _ rfl ?_));obtain ⟨ab,ae⟩:∃ab,ab=wo.heap.size:=⟨_,rfl⟩;have hob:bo<ab:=by rw[ae];exact Bo.lt
 have hwb:w0.heap.size≤ab:=qO
 have E2:Chg Ak wo wo:=Chg.refl _ _;refine qE rfl (AI func166 kQ kQ rfl) (UC _ S 3 _ ts (h0.ext E) hne hsz) ?_;rintro _ wf ⟨la,lc,aq,rfl,al,a5,Xf⟩;replace Bo:=Xf.keep Bo;replace E:=E.ext Xf;rw[←ae] at al;replace E2:Chg Ak wo wf:=Xf;have hbs:ab≤wf.heap.size:=by rw[ae];exact Xf.size
 refine qE rfl (AI func165 kQ kQ rfl) ((WI wo _ ab S _ _ (BI 3 ts) aq CZ E2 al a5 (fun x hx=>by have:=hS x hx;omega) qO (fun w x vs _ hx=>Bh.mk (first:=#[]) (cap:=#[]) func167 kQ kQ rfl (R7 w x vs hx))).mono (R':=fun r w=>∃la lc rows',r=.slice la D.length lc∧w.ownsRow ab Hj 6 r D.length rows'.flatten∧Ao S wo D rows'∧Chg (fun x=>ab≤x) wf w) (fun r w h9=>by rw[hD];exact h9)) ?_;rintro _ wd ⟨ak,af,az,rfl,ad,am,Cd⟩;replace Bo:=Cd.keep qO Bo;replace E:=E.step Cd (by intro x hx hm;omega);replace E2:=E2.step Cd (by intro x hx hm;omega);have ah:G1 wd (.slice ak D.length af) D:=TM ad (am.ext E2) rfl;refine qA _ rfl (AB (AG (AA (qM _ rfl (qE rfl (AI func168 kQ kQ rfl) (RX _ _ _ D BX ah (fun w x vs _ _ hx=>Bh.mk (first:=#[]) (cap:=#[]) func143 kQ kQ rfl (JO w x vs hx))) ?_)))));rintro _ ao ⟨rfl,an⟩;replace Bo:=an.keep Bo;replace E:=E.ext an;replace E2:=E2.ext an;replace ad:=BG ad an;obtain ⟨a1,aj⟩:=HT ad (am.ext E2) rfl;refine AB (A_ rfl (fun hn=>?_) (fun hn=>?_))
 ·have a9:=hn;refine AA (qE rfl (AI func144 kQ kQ rfl) (Ie _) ?_);rintro _ bc ⟨rfl,ai⟩;replace Bo:=ai.keep Bo;replace E:=E.ext ai;refine Ab (b:=bo) (o:=0) (c':=#[(I6 0),(.slice none 0 0),(.slice none 0 0),(I6 0),(I6 0),(.bool false)]) rfl rfl qS AH rfl Bo qL rfl ?_;intro w2 S2;replace E:=S2.step E qQ;replace Bo:=S2.blk;refine AB (AJ (AP (A1 results140 (vs:=[(.int .i64 0),(.slice none 0 0),(.slice none 0 0),(.int .i64 0),(.int .i64 0),(.bool false)]) (b:=bo) rfl Ad AH rfl (Bo.cells rfl) ?_)));exact ⟨⟨_,rfl,by rw[if_pos hn];exact Cn _ _ _⟩,E⟩
 ·have a9:=hn;rw[if_neg (by rw[hn];decide)];refine AO (AC (AG (AA (qM _ rfl (qV (Aa underlying23 rfl) (AB (AU (AA (qV (Aj rfl rfl) (qA _ rfl (AB (qC rfl (fun a3=>?_) (fun a3=>?_)))))))))))))
  ·refine AA (qE rfl (AI func146 kQ kQ rfl) (FO _) ?_);rintro _ bc ⟨rfl,ai⟩;replace Bo:=ai.keep Bo;replace E:=E.ext ai;refine Ab (b:=bo) (o:=0) (c':=#[(I6 1),(.slice none 0 0),(.slice none 0 0),(I6 0),(I6 0),(.bool false)]) rfl rfl qS AH rfl Bo qL rfl ?_;intro w4 S4;replace E:=S4.step E qQ;replace Bo:=S4.blk;refine AB (AJ (Ac (AP (A1 results140 (vs:=[(.int .i64 1),(.slice none 0 0),(.slice none 0 0),(.int .i64 0),(.int .i64 0),(.bool false)]) (b:=bo) rfl Ad AH rfl (Bo.cells rfl) ?_))));exact ⟨⟨_,rfl,by rw[bf qO];exact Cn _ _ _⟩,E⟩
  ·refine AA (qV (Aj rfl rfl) (qA _ rfl (AB (qC rfl (fun a0=>?_) (fun a0=>?_)))))
   ·obtain ⟨x,hx⟩:=AX (l:=D) (i:=0) qO;obtain ⟨lb,a2,be,ar,a4⟩:=aj.resolve_left (fun h=>by rw[h] at hx;simp at hx);subst ar;obtain ⟨xs,a8,ay⟩:=a4 0 x hx;have av:=ay;obtain ⟨sa,sc,aa,ac,rfl,_,_,_⟩:=ay.form;have ag:Chg (fun y=>y=bo) (ao) (ao):=Chg.refl _ _;refine AA (qM _ rfl (qV (AN (b:=lb) (o:=0) (len:=D.length) (cap:=af) (i:=0) (o':=0) rfl rfl rfl underlying23 AH qO qO) (qV (AK rfl Ad AH rfl (a8)) (Ab (b:=bo) (o:=0) (c':=(R6 x sa sc aa ac)) rfl rfl qS AH rfl Bo qL rfl ?_))));intro w6 S6;replace ag:=S6.chg;replace E:=S6.step E qQ;replace Bo:=S6.blk;refine AB (AJ (Ac (AP (A1 results140 (vs:=[(.int .i64 x.kind),(.slice sa x.set.length sc),(.slice aa x.args.length ac),(.int .i64 x.mn),(.int .i64 x.mx),(.bool x.neg)]) (b:=bo) rfl Ad AH rfl (Bo.cells rfl) ?_))));exact ⟨⟨_,rfl,by rw[ba x qO hx];exact AS.mono (fun y hy=>.inl hy) x (AS.chg ag (fun y hy h=>by have h1:=hS y hy;have h2:y=bo:=h;omega) x av)⟩,E⟩
   ·have ag:Chg (fun y=>y=bo) (ao) (ao):=Chg.refl _ _;refine AO (AQ (AC (AA (qM _ rfl (qV (BJ (ps:=[(0,(I6 3)),(2,(.slice ak D.length af))]) (v:=(.agg #[(I6 3),(.slice none 0 0),(.slice ak D.length af),(I6 0),(I6 0),(.bool false)])) rfl qK) (Ab (b:=bo) (o:=0) (c':=#[(I6 3),(.slice none 0 0),(.slice ak D.length af),(I6 0),(I6 0),(.bool false)]) rfl rfl qS AH rfl Bo qL rfl ?_))))));intro w7 S7;replace ag:=S7.chg;replace E:=S7.step E qQ;replace Bo:=S7.blk;refine AB (AJ (A1 results140 (vs:=[(.int .i64 3),(.slice none 0 0),(.slice ak D.length af),(.int .i64 0),(.int .i64 0),(.bool false)]) (b:=bo) rfl Ad AH rfl (Bo.cells rfl) (⟨⟨_,rfl,?_⟩,E⟩)));rw[bd qO];refine AS.of (set:=[]) (BY.nil _ _ _ _ _) a1 ?_;rcases aj with h|⟨ob,bb,a7,au,ax⟩
    ·exact .inl h
    ·refine .inr ⟨ob,0,.inr qO,au,FF fun i t ht=>?_⟩;obtain ⟨vs,h6,h7⟩:=ax i t ht;exact ⟨vs,h6.chg ag (fun h=>by have h':ob=bo:=h;omega),AS.mono (fun y hy=>.inl hy) t (AS.chg ag (fun y hy h=>by have h1:=hS y hy;have h2:y=bo:=h;omega) t h7)⟩
end Go.Proofs
namespace Go.Proofs
open Go Go.Eng Go.Sort
set_option maxRecDepth 100000
theorem K0 {α:Type} [Inhabited α] (enc:α->List Value) (k:Nat) (m:0<k) (a:∀x,(enc x).length=k) (d:List α):(flatK enc k d.toArray).toList=(d.map enc).flatten:=by
 have hrl:(d.map enc).flatten.length=d.length*k:=by
  have:=CW (k:=k) (rows:=d.map enc) (λr c=>by obtain ⟨x,_,rfl⟩:=List.mem_map.1 c;exact a x)
  rwa [List.length_map] at this
 apply List.ext_getElem?;intro t;by_cases b:t<d.length*k
 .have hi:t / k<d.length:=Nat.div_lt_of_lt_mul (by rw[Nat.mul_comm];exact b);have e:t % k<k:=Nat.mod_lt _ m;have i:(d.map enc)[t / k]?=some (enc d[t / k]):=by rw[List.getElem?_map,List.getElem?_eq_getElem hi];rfl
  have j:(enc d[t / k])[t % k]?=some ((enc d[t / k])[t % k]'(by rw[a];exact e)):=List.getElem?_eq_getElem _;have h:=KZ (k:=k) (rows:=d.map enc) (rest:=[]) (λr c=>by obtain ⟨x,_,rfl⟩:=List.mem_map.1 c;exact a x) i _ _ j;rw[List.append_nil,Nat.div_add_mod'] at h;rw[h];have f:=get_flatK enc k d.toArray t (by simpa using b);have g:t<(flatK enc k d.toArray).size:=by rw[size_flatK];simpa using b
  rw[getElem!_pos _ t g] at f;rw[Array.getElem?_toList,Array.getElem?_eq_getElem g,f];have l:d.toArray[t / k]! = d[t / k]:=by rw[getElem!_pos d.toArray _ (by simpa using hi)];simp
  rw[l,getElem!_pos _ _ (by rw[a];exact e)]
 .rw[List.getElem?_eq_none (by rw[Array.length_toList,size_flatK];simpa using b),List.getElem?_eq_none qO]
theorem Pj {α:Type} [Inhabited α] (enc:α->List Value) (k:Nat) (p:0<k) (m:∀x,(enc x).length=k) {w:World} {base e g n c:Nat} {d:List α} (h:w.ownsRow base e k (.slice (some ⟨g,0,none⟩) n c) n (d.map enc).flatten) (hn:d.length=n):HoldsK enc k w g 0 d.toArray:=by
 intro j l;rw[size_flatK] at l;have i:=K0 enc k p m d;have b:j<(flatK enc k d.toArray).size:=by rw[size_flatK];exact l
 rw[getElem!_pos _ j b];have o:(d.map enc).flatten[j]?=some (flatK enc k d.toArray)[j]:=by rw[<-i,Array.getElem?_toList,Array.getElem?_eq_getElem b]
 have f:=h.cells (g:=g) O j _ o;rw[Addr.add_lit] at f;refine ⟨f,?_⟩;rcases h.2 with ⟨f,_⟩|⟨g',cap,cur,a,_,q,_⟩
 .simp at f
 .simp only[Value.slice.injEq] at a;obtain ⟨a,_⟩:=a;simp only[Option.some.injEq,Addr.mk.injEq,and_true] at a;subst a;simp[World.frozen?,q]
theorem Pi {α:Type} [Inhabited α] (enc:α->List Value) (k:Nat) (z:0<k) (u:∀x,(enc x).length=k) {w:World} {base e g n c m:Nat} {os:Array Obj} {d:List α} {xs:List Value} (h:w.ownsRow base e k (.slice (some ⟨g,0,none⟩) n c) n xs) (hn:d.length=n):(sortWorldK enc k w g 0 m d.toArray os).ownsRow base e k (.slice (some ⟨g,0,none⟩) n c) n (d.map enc).flatten:=by
 have i:(d.map enc).flatten.length=d.length*k:=by
  have:=CW (k:=k) (rows:=d.map enc) (λr y=>by obtain ⟨x,_,rfl⟩:=List.mem_map.1 y;exact u x)
  rwa [List.length_map] at this
 rcases h.2 with ⟨A,_⟩|⟨g',cap,b,a,o,s,f,q,j,htake⟩
 .simp at A
 .simp only[Value.slice.injEq,true_and] at a;obtain ⟨a,rfl⟩:=a;simp only[Option.some.injEq,Addr.mk.injEq,and_true] at a;subst a;have l:g<w.heap.size:=(Array.getElem?_eq_some_iff.1 s).1;refine ⟨by rw[i,hn],.inr ⟨g,c,putCells id 0 (flatK enc k d.toArray) b,O,o,?_,f,q,by simp[putCells,j],?_⟩⟩
  .unfold sortWorldK grow putRowK putRow mapBlock Sort.ahead;dsimp only;rw[Array.getElem?_append_left (by simpa using l),Array.getElem?_modify,if_pos O,s];rfl
  .have hle:n*k<=c*k:=Nat.mul_le_mul_right k f;apply List.ext_getElem?;intro t;by_cases v:t<n*k
   .rw[List.getElem?_take,if_pos v,Array.getElem?_toList];have p:t<(flatK enc k d.toArray).size:=by rw[size_flatK];simpa[hn] using v
    rw[<-K0 enc k z u d,Array.getElem?_toList,Array.getElem?_eq_getElem p];simp only[putCells,Array.getElem?_mapIdx];rw[Array.getElem?_eq_getElem (show t<b.size by rw[j];omega)];simp only[Option.map_some,Nat.zero_le,true_and,Nat.zero_add,Nat.sub_zero,id];rw[if_pos p,getElem!_pos _ t p]
   .rw[List.getElem?_eq_none (by rw[List.length_take];omega),List.getElem?_eq_none (by rw[i,hn];omega)]
theorem KQ {α:Type} [Inhabited α] (enc:α->List Value) (k:Nat) (w:World) (g a m:Nat) (d:Array α) (os:Array Obj):Chg (λx=>x=g) w (sortWorldK enc k w g a m d os):=by
 refine ⟨O,O,O,Nat.le_add_right _ _,?_,λb hb c=>?_⟩
 .simp[sortWorldK,grow,putRowK,putRow,mapBlock,ahead]
 .simp only[sortWorldK,grow,putRowK,putRow,mapBlock,ahead];rw[Array.getElem?_append_left (by simpa using hb),Array.getElem?_modify,if_neg (λh=>c h.symm)];rfl
theorem K4 {P : Program} {f : FuncId} {a : Func} (b : P.funcs[f]? = some a) (hn : (a.name == "runtime.NumGoroutine") = false) (hb : a.body.isNone = false) : ∀ args w, (callFunc f args).run P w = .ok (.enter f args) w := fun args w => HR (vs := args) (w := w) b hn hb
end Go.Proofs
namespace Go.Proofs
open Go Go.Eng Go.Sort
set_option maxRecDepth 100000
structure RRow (S:Nat->Prop) (w:World) where
 t:Re
 vs:List Value
 h:AS S w t vs
instance {S:Nat->Prop} {w:World}:Inhabited (RRow S w):=⟨⟨_,_,Cn S w 0⟩⟩
def Ic {S:Nat->Prop} {w:World} (r:RRow S w):List Value:=r.vs
def Xx {S:Nat->Prop} {w:World} (x y:RRow S w):Int:=Cp x.t y.t
theorem P_ {S:Nat->Prop} {w:World} (x y:RRow S w):Xx x y<0↔Cp x.t y.t<0:=Iff.rfl
theorem YA {S:Nat->Prop} {w:World}:SWO (ltOf (Xx (S:=S) (w:=w))):=by
 refine ⟨λx=>?_,λx y z=>?_,λx y z=>?_⟩
 .have:=CD x.t x.t;simp only[ltOf,decide_eq_false_iff_not,P_];omega
 .have a:=CD x.t y.t;have b:=CD y.t z.t;have c:=CD x.t z.t;have a':=CD y.t x.t;have b':=CD z.t y.t;have c':=CD z.t x.t;have d:=Lh x.t y.t z.t;have e:=Lh z.t y.t x.t;unfold Iv at d e;simp only[ltOf,decide_eq_true_eq,decide_eq_false_iff_not,P_];omega
 .have a:=CD x.t y.t;have b:=CD y.t z.t;have c:=CD x.t z.t;have a':=CD y.t x.t;have b':=CD z.t y.t;have c':=CD z.t x.t;have d:=Lh x.t y.t z.t;have e:=Lh z.t y.t x.t;unfold Iv at d e;simp only[ltOf,decide_eq_true_eq,decide_eq_false_iff_not,P_];omega
theorem QC (a:World) (_:170=170:=rfl):Bi prog 107 #[.int .u64 0] a λv w=>v=.int .i64 (Lib.bitLen 0:Nat)∧Ae a w:=
 (Any.bits_Len (SlLaysF0.n15.bits (P:=prog) (ρ:=Tryz.sortRe_ren) {Tryz.sortRe with}) 0 a qO qO).mono λ_ _ ⟨b,c⟩=>⟨_,b,O,by rw[c];exact Ae.refl _⟩
theorem Ve (b:World) (a:Option Addr) (c:Nat) (fv:Value):Bi prog 188 #[.slice a 0 c,.int .i64 0,.int .i64 0,fv] b λv w=>v=.tuple #[]∧Ae b w:=by
 refine qR func188 O ntmps188 O (λE=>(AA (qM _ O (qV (Ax (c:=1) O O qD) (qA _ O (AB (AU (Av (λnn_ σ d=>(∃jj_,σ=Bj jj_ [(0,(.slice a 0 c)),(1,(I6 0)),(2,(I6 0)),(3,fv),(8,(I6 1))])∧Chg Ak b d∧nn_=(0:Nat)) (n:=(0:Nat)) ?_ ?_))))))))
 .exact ⟨Am.out ⟨O,O,O,O,O,trivial⟩,E,O⟩
 .clear E;rintro _ _ d ⟨⟨j1,rfl⟩,E,rfl⟩;refine AG (AA (qM _ O (qM _ O (qV (BE O O) (AB (Ah O (Aw (AZ (AZ (Ap (HC results188 ?_)))))))))));exact ⟨O,E⟩
theorem VI (b:World) (a:Option Addr) (c:Nat) (n:Int) (fv:Value):Bi prog 179 #[.slice a 0 c,.int .i64 0,.int .i64 0,.int .i64 n,fv] b λv w=>v=.tuple #[]∧Ae b w:=by
 refine qR func179 O ntmps179 O (λE=>(AA (qA _ O (AB (AA (qA _ O (AB (AU (Av (λnn_ σ d=>(∃jj_,σ=Bj jj_ [(0,(.slice a 0 c)),(1,(I6 0)),(2,(I6 0)),(4,fv)])∧Chg Ak b d∧nn_=(0:Nat)) (n:=(0:Nat)) ?_ ?_)))))))))
 .exact ⟨Am.out ⟨O,O,O,O,trivial⟩,E,O⟩
 .clear E;rintro _ _ d ⟨⟨j1,rfl⟩,E,rfl⟩;refine AU (AA (qM _ O (qM _ O (qV (DI (c:=0) O O qD) (qA _ O (AB (AG (AA (qM _ O (qV (Jf O O) (AB (Az O (AA (qM _ O (qM _ O (qM _ O (qM _ O ?_)))))))))))))))));refine qE O (AI func188 kQ kQ O) (Ve _ a c fv) ?_;rintro _ w9 ⟨rfl,e⟩;replace E:=E.ext e;refine AB (AJ (AP (Ac (AP (Ac (JM results179 ?_))))));exact ⟨O,E⟩
theorem Sg (b:World) (a:Option Addr) (c:Nat) (fv:Value):Bi prog 170 #[.slice a 0 c,fv] b λv w=>v=.tuple #[]∧Ae b w:=by
 refine qR func170 O ntmps170 O (λE=>(AA (qM _ O (qV (Aa underlying23 O) (qA _ O (AB (AR (qM _ O (qM _ O (qM _ O (qV (I8 (c:=0) ⟨_,underlying3⟩ underlying139 O (XT qO)) (qE O (AI func107 kQ kQ O) (QC _) ?_))))))))))));rintro _ w8 ⟨rfl,e⟩;refine qM _ O (qE O (AI func179 kQ kQ O) (VI _ a c _ fv) ?_);rintro _ w9 ⟨rfl,d⟩;replace E:=(E.ext e).ext d;refine AB (HC results170 ?_);exact ⟨O,E⟩
theorem U0 (C c:World) (S:Nat->Prop) (base:Nat) (v:Value) (f:List Re) (rows:List (List Value)) (hE:Ae C c) (h:c.ownsRow base Hj 6 v f.length rows.flatten) (W:Ao S C f rows) (X:∀x,S x->x<base) (hl:f.length<=1000000) :
 Bi prog 170 #[v,.func (.func 171) #[] #[]] c λr w=>r=.tuple #[]∧(∃us V,us.Perm f∧us.Pairwise (λx y=>Cp x y<=0)∧w.ownsRow base Hj 6 v us.length V.flatten∧Ao S C us V)∧Chg (λx=>v.ownBlock=some x) c w:=by
 have eg:=K4 func171 kQ kQ;rcases h.2 with ⟨rfl,h0⟩|⟨g,cap,cur,rfl,hbg,Z,L,hcm,hcs,p⟩
 .have hd:f=[]:=List.eq_nil_of_length_eq_zero h0;subst hd;exact (Sg c none 0 (.func (.func 171) #[] #[])).mono λv w' ⟨hv,R⟩=>⟨hv,⟨[],[],List.Perm.refl _,List.Pairwise.nil,World.ownsRow_nil _ _ _ _,O⟩,Ae.chg R⟩
 .obtain ⟨d,D,Q⟩:∃d:List (RRow S C),d.map (·.t)=f∧d.map Ic=rows:=by
   clear h Z p L hl
   induction f generalizing rows with
   | nil=>
    have K:rows=[]:=W;exact ⟨[],O,K.symm⟩
   | cons t f ih=>
    obtain ⟨r,rs,rfl,h1,h2⟩:=W;obtain ⟨d,s,F⟩:=ih rs h2;exact ⟨⟨t,r,h1⟩::d,by simp[s],by simp[F,Ic]⟩
  have k:d.length=f.length:=by rw[<-D,List.length_map]
  have P:∀x:RRow S C,(Ic x).length=6:=λx=>AS.len x.h;have ht:∀w,(isAgg (Tryz.sortRe_ren.t 24)).run prog w=.ok true w:=λw=>Hh.run Ad w;have hs:∀w,(Go.sizeOf (Tryz.sortRe_ren.t 24)).run prog w=.ok 6 w:=λw=>AH.run w;have hH:=Pj Ic 6 qD P (d:=d) (by rw[Q];exact h) k;have A:g<c.heap.size:=(Array.getElem?_eq_some_iff.1 Z).1;have hc:CmpLays prog 171 #[] Ic 6 Xx g 0 d.toArray.size c:=λm os H _ x y=>by
   have E:=KQ Ic 6 c g 0 m H os;have z:A4 (sortWorldK Ic 6 c g 0 m H os) x.t x.vs:=AS.at x.t (AS.chg E (λb hb T=>by have:=X b hb;have J:b=g:=T;omega) x.t (AS.ext hE x.t x.h));have hy:A4 (sortWorldK Ic 6 c g 0 m H os) y.t y.vs:=AS.at y.t (AS.chg E (λb hb T=>by have:=X b hb;have J:b=g:=T;omega) y.t (AS.ext hE y.t y.h));refine Calls.mono (VM _ x.t y.t _ _ _ (Nat.le_refl _) z hy) ?_;rintro e w' ⟨v,rfl,rfl,z⟩;obtain ⟨q,I,R⟩:=Ae.grown z;exact ⟨O,q,I,R⟩
  have B:=AnyQ.slices_SortFunc Tryz.sortRe 6 ht hs Ic P (λx u hu=>A4.one (AS.at x.t x.h) u hu) Xx YA 171 #[] g 0 cap d.toArray c eg hc hH A (by simp;omega);have hz:f.length=d.toArray.size:=by simp[k]
  rw[hz];refine Calls.mono B ?_;rintro e w' ⟨rfl,a,n,os,U,N,rfl⟩;have l:a.size=d.length:=by have:=U.1;simpa using this
  have o:a.toList.Perm d:=by
   have s:=U.2.2;simp only[List.size_toArray] at s;rw[show d.length=a.size from l.symm,Array.extract_size] at s;rw[l] at s;simpa using s
  refine ⟨_,O,O,⟨a.toList.map (·.t),a.toList.map Ic,by rw[<-D];exact o.map _,?_,?_,?_⟩,(KQ Ic 6 c g 0 n a os).mono λx _ z=>by subst z;rfl⟩
  .rw[List.pairwise_map,List.pairwise_iff_getElem];intro i j hi G M;have F:=N i j (Nat.zero_le _) M (by simp at G⊢;omega);simp only[Array.length_toList] at hi G;rw[getElem!_pos a i hi,getElem!_pos a j G] at F;have h5:¬Cp a[j].t a[i].t<0:=of_decide_eq_false F;have h6:=CD a[i].t a[j].t;simp only[Array.getElem_toList];omega
  .have h7:=Pi Ic 6 qD P (m:=n) (os:=os) (d:=a.toList) h (by rw[Array.length_toList,l,k]);rw[Array.toArray_toList] at h7;rw[List.length_map,Array.length_toList,l,k,<-hz];exact h7
  .generalize a.toList=q
   induction q with
   | nil=>rfl
   | cons x q ih=>exact ⟨Ic x,q.map Ic,O,x.h,ih⟩
end Go.Proofs
namespace Go.Proofs
open Go Go.Eng Go.Sort
set_option maxRecDepth 100000
def LW:Option Re->List Re->List Re
  | _,[]=>[]
  | none,x::l=>x::LW (some x) l
  | some y,x::l=>if Ci x y=true then LW (some x) l else x::LW (some x) l
theorem RU (x y:Re):Ci x y=Ci y x:=by
 rw[Bool.eq_iff_iff,DY,DY];exact eq_comm
theorem P5:∀(x:Re) (l:List Re),ES (x::l)=x::LW (some x) l
 | x,[]=>rfl
 | x,y::l=>by
  simp only[ES,LW,RU y x];split
  .rename_i h
   rw[P5 y l,(DY x y).1 h]
  .rw[P5 y l]
theorem Vn (l:List Re):ES l=LW none l:=by
 cases l with
 | nil=>rfl
 | cons x l=>exact P5 x l
theorem Qs:∀(l:List Re) (p:Option Re) (x:Re),LW p (l++[x])=LW p l++(match l.getLast?.or p with|some y=>if Ci x y=true then [] else [x]|none=>[x])
 | [],none,x=>rfl
 | [],some y,x=>by
  simp only[List.nil_append,LW,List.getLast?_nil,Option.none_or]
 | z::l,p,x=>by
  have ih:=Qs l (some z) x;have a:(z::l).getLast?.or p=l.getLast?.or (some z):=by cases l<;>simp[List.getLast?_cons]
  rw[a];cases p with
  | none=>simp only[List.cons_append,LW,ih]
  | some y=>
   simp only[List.cons_append,LW];split
   .exact ih
   .rw[ih];rfl
theorem Qr {l:List Re} {j:Nat} {x y:Re} (h0:0<j) (a:l[j]?=some x) (b:l[j - 1]?=some y):LW none (l.take (j+1))=LW none (l.take j)++(if Ci x y=true then [] else [x]):=by
 rw[List.take_add_one,a,Option.toList_some,Qs];have hl:=AM a;have:(l.take j).getLast?=some y:=by rw[List.getLast?_take,if_neg qO,b];rfl
 rw[this];rfl
theorem Pw:∀(l:List Re) (p:Option Re),(LW p l).length<=l.length
 | [],_=>by simp[LW]
 | x::l,none=>by simp only[LW,List.length_cons];have:=Pw l (some x);omega
 | x::l,some y=>by
  simp only[LW];have:=Pw l (some x);split<;>simp only[List.length_cons]<;>omega
theorem TO {w w':World} {base g n c:Nat} {rows:List (List Value)} {rest:List Value} (h:w.ownsRow base Hj 6 (.slice (some ⟨g,0,none⟩) n c) n rows.flatten) (j:BH w' g (rows.flatten++rest).toArray Hj) (hn:n<=c) (d:c<=maxLen) (f:(rows.flatten++rest).length=c*6):w'.ownsRow base Hj 6 (.slice (some ⟨g,0,none⟩) n c) n rows.flatten:=by
 have e:=h.1;rcases h.2 with ⟨i,_⟩|⟨g',cap,cur,b,a,hg,hnc,hcm,hcs,htake⟩
 .simp at i
 .simp only[Value.slice.injEq,Option.some.injEq,Addr.mk.injEq,and_true,true_and] at b;obtain ⟨rfl,_⟩:=b;exact ⟨e,.inr ⟨g,c,_,O,a,j,hn,d,by rw[List.size_toArray,f],by rw[List.toList_toArray,List.take_append_of_le_length qO,List.take_of_length_le qO]⟩⟩
theorem Vu (wb w0:World) (base:Nat) (S:Nat->Prop) (v fv:Value) (e:List Re) (rows:List (List Value)) (hE:Ae wb w0) (aj:w0.ownsRow base Hj 6 v e.length rows.flatten) (Q:Ao S wb e rows) (hS:∀x,S x->x<base) (hlen:e.length<=1000000)
 (hf:∀(w:World) (x y:Re) (xs ys:List Value),A4 w x xs->A4 w y ys->Bh prog fv #[.agg xs.toArray,.agg ys.toArray] w λr w'=>r=.bool (Ci x y)∧Ae w w') :
 Bi prog 172 #[v,fv] w0 λr w=>∃la lc W,r=.slice la (ES e).length lc∧w.ownsRow base Hj 6 r (ES e).length W.flatten∧Ao S wb (ES e) W∧Chg (λx=>base<=x) w0 w:=by
 have M:=aj;obtain ⟨a,c,rfl⟩:=Be aj;rw[Vn];refine EY func172 O ntmps172 (Qo O) ?_;have E:Chg (λx=>base<=x) w0 w0:=Chg.refl _ _;refine AA (qA _ O (AB (AG (AA (qM _ O (qV (Aa underlying23 O) (qV (BE O O) (AB (qC O (λh2=>?_) (λh2=>?_))))))))))
 .have z:LW none e=e:=by match e,h2 with|[],_=>rfl|[x],_=>rfl|x::y::l,h=>simp at h;omega
  refine AA (qM _ O (qA _ O (AB (AJ (AP (AV results172 (v:=(.slice a e.length c)) O ?_))))));rw[z];exact ⟨a,c,rows,O,M,Q,E⟩
 .rcases M.2 with ⟨_,hbad⟩|⟨g,cap,a9,av,b6,be,ap,T,aq,ab⟩
  .omega
  simp only[Value.slice.injEq] at av;obtain ⟨rfl,_,rfl⟩:=av;obtain ⟨rest,Z⟩:∃rest,rest=a9.toList.drop (e.length*6):=⟨_,O⟩;have d:BH w0 g (rows.flatten++rest).toArray Hj:=by rw[Z,<-ab,List.take_append_drop];exact be
  have ai:(rows.flatten++rest).length=c*6:=by rw[Z,<-ab,List.take_append_drop];simpa using aq
  have a4:=Q.len;have ad:=Q.six;have hrestl:rest.length=c*6 - e.length*6:=by rw[List.length_append,CW ad,a4] at ai;omega
  refine AO (AC (AG (AA (qA _ O (AB (AU (Av (λnn_ σ W2=>∃(k:Nat),(∃jj_,σ=Bj jj_ [(0,(.slice (some ⟨g,0,none⟩) e.length c)),(1,fv),(5,(I6 (k:Int)))])∧Chg (λx=>base<=x) w0 W2∧BH W2 g ((rows.flatten++rest).toArray) Hj∧(1<=k∧k<=e.length)∧(LW none (e.take k)=e.take k)∧nn_=e.length - k) (n:=e.length - 1) ?_ ?_)))))))
  .exact ⟨1,Am.out ⟨O,O,O,trivial⟩,E,d,⟨qO,qO⟩,(by match e,h2 with|[],h=>simp at h|x::l,_=>rfl),O⟩
  .clear E d;rintro _ _ W2 ⟨k,⟨j2,rfl⟩,E,d,hk,V,rfl⟩;refine AG (AA (qM _ O (qM _ O (qV (Aa underlying23 O) (qV (BE O O) (AB (qC O (λb1=>?_) (λb1=>?_))))))))
   .obtain ⟨x,hx⟩:=AX (l:=e) (i:=k) qO;obtain ⟨y,P⟩:=AX (l:=e) (i:=k - 1) qO;obtain ⟨r,an,ag⟩:=Q.get hx;obtain ⟨s,ao,au⟩:=Q.get P;have G:=Qr qO hx P;have F:A4 (W2) x r:=AS.at x (AS.chg E (λy P hb=>by have:=hS y P;have am:base<=y:=hb;omega) x (AS.ext hE x ag));have D:A4 (W2) y s:=AS.at y (AS.chg E (λy P hb=>by have:=hS y P;have am:base<=y:=hb;omega) y (AS.ext hE y au));have N:=Gc d ad an;have al:=Gc d ad ao;obtain ⟨sa,sc,aa,ac,rfl,_,_,_⟩:=F.form;obtain ⟨I,L,J,K,rfl,_,_,_⟩:=D.form;refine AO (AC (AG (AU (AG ?_))));obtain ⟨bh,u⟩:∃Fs:List Fact,Fs=[.eq fv,.eq (.slice (some ⟨g,0,none⟩) e.length c),.eq (I6 (k:Int)),.eq (.pointer (some ⟨g,0+k*6,none⟩)),.eq (.agg (R6 x sa sc aa ac)),.eq (.slice (some ⟨g,0,none⟩) e.length c),.eq (I6 (k:Int)),.eq (I6 ((k:Int) - 1)),.eq (.pointer (some ⟨g,0+(k - 1)*6,none⟩)),.eq (.agg (R6 y I L J K)),.eq (.bool (Ci x y))]:=⟨_,O⟩;refine LJ [18,19,20,21,22,23,24,25,26,27,28] [[],[],[],[1,2],[3],[],[],[6],[5,7],[8],[0,4,9]] bh u mixed qK qK ?_ ?_
    .intro wd X0;refine DagSteps.cons (λf w' X U H=>Or.inl ⟨?_,?_⟩) ?_
     .exact AD O
     .exact AW (Ai (U 1 O)) (Ae.refl _) O
     refine DagSteps.cons (λf w' X U H=>Or.inl ⟨?_,?_⟩) ?_
     .exact AD O
     .exact AW (Ai (U 0 O)) (Ae.refl _) O
     refine DagSteps.cons (λf w' X U H=>Or.inl ⟨?_,?_⟩) ?_
     .exact AD O
     .exact AW (Ai (U 5 O)) (Ae.refl _) O
     refine DagSteps.cons (λf w' X U H=>Or.inl ⟨?_,?_⟩) ?_
     .exact AD O
     .have b4:f 19=(.slice (some ⟨g,0,none⟩) e.length c):=H 1 O 19 (.eq (.slice (some ⟨g,0,none⟩) e.length c)) O (by rw[u];rfl);have bo:f 20=(.int .i64 ((k:Nat):Int)):=H 2 O 20 (.eq (.int .i64 ((k:Nat):Int))) O (by rw[u];rfl);exact AW (AN (i:=k) b4 bo O underlying23 AH qO qO) (Ae.refl _) O
     refine DagSteps.cons (λf w' X U H=>Or.inl ⟨?_,?_⟩) ?_
     .exact AD O
     .have bf:f 21=(.pointer (some ⟨g,0+k*6,none⟩)):=H 3 O 21 (.eq (.pointer (some ⟨g,0+k*6,none⟩))) O (by rw[u];rfl);exact AW (AK bf Ad AH O (by rw[Nat.zero_add];exact N.ext (X0.trans X))) (Ae.refl _) O
     refine DagSteps.cons (λf w' X U H=>Or.inl ⟨?_,?_⟩) ?_
     .exact AD O
     .exact AW (Ai (U 0 O)) (Ae.refl _) O
     refine DagSteps.cons (λf w' X U H=>Or.inl ⟨?_,?_⟩) ?_
     .exact AD O
     .exact AW (Ai (U 5 O)) (Ae.refl _) O
     refine DagSteps.cons (λf w' X U H=>Or.inl ⟨?_,?_⟩) ?_
     .exact AD O
     .have bn:f 24=(.int .i64 ((k:Nat):Int)):=H 6 O 24 (.eq (.int .i64 ((k:Nat):Int))) O (by rw[u];rfl);exact AW (DI bn O (A8 qO)) (Ae.refl _) O
     refine DagSteps.cons (λf w' X U H=>Or.inl ⟨?_,?_⟩) ?_
     .exact AD O
     .have bz:f 23=(.slice (some ⟨g,0,none⟩) e.length c):=H 5 O 23 (.eq (.slice (some ⟨g,0,none⟩) e.length c)) O (by rw[u];rfl);have bu:f 25=(.int .i64 (((k:Nat):Int) - 1)):=H 7 O 25 (.eq (.int .i64 (((k:Nat):Int) - 1))) O (by rw[u];rfl);exact AW (AN (i:=k - 1) bz bu qO underlying23 AH qO qO) (Ae.refl _) O
     refine DagSteps.cons (λf w' X U H=>Or.inl ⟨?_,?_⟩) ?_
     .exact AD O
     .have b5:f 26=(.pointer (some ⟨g,0+(k - 1)*6,none⟩)):=H 8 O 26 (.eq (.pointer (some ⟨g,0+(k - 1)*6,none⟩))) O (by rw[u];rfl);exact AW (AK (vs:=[(I6 y.kind),(.slice I y.set.length L),(.slice J y.args.length K),(I6 y.mn),(I6 y.mx),(.bool y.neg)]) b5 Ad AH O (by rw[Nat.zero_add];exact al.ext (X0.trans X))) (Ae.refl _) O
     refine DagSteps.cons (λf w' X U H=>Or.inl ⟨?_,?_⟩) ?_
     .exact AD O
     .have ba:f 22=(.agg #[(.int .i64 x.kind),(.slice sa x.set.length sc),(.slice aa x.args.length ac),(.int .i64 x.mn),(.int .i64 x.mx),(.bool x.neg)]):=H 4 O 22 (.eq (.agg #[(.int .i64 x.kind),(.slice sa x.set.length sc),(.slice aa x.args.length ac),(.int .i64 x.mn),(.int .i64 x.mx),(.bool x.neg)])) O (by rw[u];rfl);have bg:f 27=(.agg #[(.int .i64 y.kind),(.slice I y.set.length L),(.slice J y.args.length K),(.int .i64 y.mn),(.int .i64 y.mx),(.bool y.neg)]):=H 9 O 27 (.eq (.agg #[(.int .i64 y.kind),(.slice I y.set.length L),(.slice J y.args.length K),(.int .i64 y.mn),(.int .i64 y.mx),(.bool y.neg)])) O (by rw[u];rfl);have bm:f 18=fv:=H 0 O 18 (.eq fv) O (by rw[u];rfl);exact LN bm (G8 ba bg) (hf _ x y _ _ (A4.ext (X0.trans X) x F) (A4.ext (X0.trans X) y D))
     exact DagSteps.nil
    .intro f w4 X4 U H;obtain ⟨j4,rfl⟩:=Am.out (σ:=f) (l:=[(0,(.slice (some ⟨g,0,none⟩) e.length c)),(1,fv),(5,(.int .i64 ((k:Nat):Int))),(28,(.bool (Ci x y)))]) ⟨U 0 O,U 1 O,U 5 O,(show f 28=(.bool (Ci x y)) from H 10 28 (.eq (.bool (Ci x y))) O (by rw[u];rfl)),trivial⟩;clear U H;replace d:=X4.keep d;replace E:=E.ext X4;refine AC (A_ (b:=Ci x y) O (λz=>?_) (λz=>?_))
     .have a5:=z;refine AA (qM (.slice (some ⟨g,0,none⟩) e.length c) O (qM (I6 (k:Int)) O ?_));obtain ⟨sl,az⟩:∃a':Option Addr,(if c=k then (some ⟨g,0,none⟩) else Option.map (λq:Addr=>q.add (k*6)) (some ⟨g,0,none⟩))=a':=⟨_,O⟩;refine qV (GA (a:=(some ⟨g,0,none⟩)) (len:=e.length) (cap:=c) (lo:=k) (l:=(k:Int)) (n':=(e.length - k)) (c':=(c - k)) underlying23 AH O O qO qO az qO qO) ?_;have ay:sl=some ⟨g,k*6,none⟩:=by rw[<-az,if_neg qO];simp[Addr.add];omega
      subst ay;refine qA _ O (AB (AG (AA (qA _ O (AB (AU (Av (λnn_ σ W6=>∃(m:Nat) (i:Nat) (p:List (List Value)),(∃jj_,σ=Bj jj_ [(0,(.slice (some ⟨g,0,none⟩) e.length c)),(1,fv),(6,(.slice (some ⟨g,k*6,none⟩) (e.length - k) (c - k))),(7,(I6 (m:Int))),(5,(I6 (i:Int)))])∧Chg (λx=>base<=x) w0 W6∧BH W6 g ((p.flatten++rest).toArray) Hj∧(1<=m∧m<=e.length - k)∧(i<k+m)∧(p.length=e.length)∧(∀r∈p,r.length=6)∧(p.drop (k+m - 1)=rows.drop (k+m - 1))∧(Ao S wb (LW none (e.take (k+m))) (p.take i))∧(i=(LW none (e.take (k+m))).length)∧nn_=e.length - k - m) (n:=e.length - k - 1) ?_ ?_)))))))
      .exact ⟨1,k,rows,Am.out ⟨O,O,O,O,O,trivial⟩,E,d,⟨qO,qO⟩,qO,a4,ad,O,(by rw[G,z,V];simpa using Q.take k),(by rw[G,z,V];simp;omega),O⟩
      .clear E d;rintro _ _ W6 ⟨m,i,p,⟨j6,rfl⟩,E,d,hm,bj,ae,A,af,R,C,rfl⟩;refine AG (AA (qM _ O (qM _ O (qV (Aa underlying23 O) (qV (BE O O) (AB (qC O (λa7=>?_) (λa7=>?_))))))))
       .obtain ⟨j,hj⟩:∃j,j=k+m:=⟨_,O⟩;obtain ⟨x,hx⟩:=AX (l:=e) (i:=j) qO;obtain ⟨y,P⟩:=AX (l:=e) (i:=j - 1) qO;obtain ⟨r,an,ag⟩:=Q.get hx;obtain ⟨s,ao,au⟩:=Q.get P;have G:=Qr qO hx P;rw[<-hj] at af R C bj;have b0:p[j]?=some r:=by rw[K6 af qO];exact an
        have bp:p[j - 1]?=some s:=by rw[K6 af (Nat.le_refl _)];exact ao
        have ak:p.drop j=rows.drop j:=by have:=congrArg (List.drop 1) af;rw[List.drop_drop,List.drop_drop,show j - 1+1=j by omega] at this;exact this
        have F:A4 (W6) x r:=AS.at x (AS.chg E (λy P hb=>by have:=hS y P;have am:base<=y:=hb;omega) x (AS.ext hE x ag));have D:A4 (W6) y s:=AS.at y (AS.chg E (λy P hb=>by have:=hS y P;have am:base<=y:=hb;omega) y (AS.ext hE y au));have N:=Gc d A b0;have al:=Gc d A bp;obtain ⟨sa,sc,aa,ac,rfl,_,_,_⟩:=F.form;obtain ⟨I,L,J,K,rfl,_,_,_⟩:=D.form;refine AO (AC (AG (AU (AG ?_))));obtain ⟨br,t⟩:∃Fs:List Fact,Fs=[.eq fv,.eq (.slice (some ⟨g,k*6,none⟩) (e.length - k) (c - k)),.eq (I6 (m:Int)),.eq (.pointer (some ⟨g,k*6+m*6,none⟩)),.eq (.agg (R6 x sa sc aa ac)),.eq (.slice (some ⟨g,k*6,none⟩) (e.length - k) (c - k)),.eq (I6 (m:Int)),.eq (I6 ((m:Int) - 1)),.eq (.pointer (some ⟨g,k*6+(m - 1)*6,none⟩)),.eq (.agg (R6 y I L J K)),.eq (.bool (Ci x y)),.eq (.bool (!(Ci x y)))]:=⟨_,O⟩;refine LJ [38,39,40,41,42,43,44,45,46,47,48,49] [[],[],[],[1,2],[3],[],[],[6],[5,7],[8],[0,4,9],[10]] br t mixed qK qK ?_ ?_
        .intro wd X0;refine DagSteps.cons (λf w' X U H=>Or.inl ⟨?_,?_⟩) ?_
         .exact AD O
         .exact AW (Ai (U 1 O)) (Ae.refl _) O
         refine DagSteps.cons (λf w' X U H=>Or.inl ⟨?_,?_⟩) ?_
         .exact AD O
         .exact AW (Ai (U 6 O)) (Ae.refl _) O
         refine DagSteps.cons (λf w' X U H=>Or.inl ⟨?_,?_⟩) ?_
         .exact AD O
         .exact AW (Ai (U 7 O)) (Ae.refl _) O
         refine DagSteps.cons (λf w' X U H=>Or.inl ⟨?_,?_⟩) ?_
         .exact AD O
         .have bc:f 39=(.slice (some ⟨g,k*6,none⟩) (e.length - k) (c - k)):=H 1 O 39 (.eq (.slice (some ⟨g,k*6,none⟩) (e.length - k) (c - k))) O (by rw[t];rfl);have b3:f 40=(.int .i64 ((m:Nat):Int)):=H 2 O 40 (.eq (.int .i64 ((m:Nat):Int))) O (by rw[t];rfl);exact AW (AN (i:=m) bc b3 O underlying23 AH qO qO) (Ae.refl _) O
         refine DagSteps.cons (λf w' X U H=>Or.inl ⟨?_,?_⟩) ?_
         .exact AD O
         .have bq:f 41=(.pointer (some ⟨g,k*6+m*6,none⟩)):=H 3 O 41 (.eq (.pointer (some ⟨g,k*6+m*6,none⟩))) O (by rw[t];rfl);exact AW (AK bq Ad AH O (by rw[show k*6+m*6=j*6 by omega];exact N.ext (X0.trans X))) (Ae.refl _) O
         refine DagSteps.cons (λf w' X U H=>Or.inl ⟨?_,?_⟩) ?_
         .exact AD O
         .exact AW (Ai (U 6 O)) (Ae.refl _) O
         refine DagSteps.cons (λf w' X U H=>Or.inl ⟨?_,?_⟩) ?_
         .exact AD O
         .exact AW (Ai (U 7 O)) (Ae.refl _) O
         refine DagSteps.cons (λf w' X U H=>Or.inl ⟨?_,?_⟩) ?_
         .exact AD O
         .have bx:f 44=(.int .i64 ((m:Nat):Int)):=H 6 O 44 (.eq (.int .i64 ((m:Nat):Int))) O (by rw[t];rfl);exact AW (DI bx O (A8 qO)) (Ae.refl _) O
         refine DagSteps.cons (λf w' X U H=>Or.inl ⟨?_,?_⟩) ?_
         .exact AD O
         .have bi:f 43=(.slice (some ⟨g,k*6,none⟩) (e.length - k) (c - k)):=H 5 O 43 (.eq (.slice (some ⟨g,k*6,none⟩) (e.length - k) (c - k))) O (by rw[t];rfl);have bt:f 45=(.int .i64 (((m:Nat):Int) - 1)):=H 7 O 45 (.eq (.int .i64 (((m:Nat):Int) - 1))) O (by rw[t];rfl);exact AW (AN (i:=m - 1) bi bt qO underlying23 AH qO qO) (Ae.refl _) O
         refine DagSteps.cons (λf w' X U H=>Or.inl ⟨?_,?_⟩) ?_
         .exact AD O
         .have bd:f 46=(.pointer (some ⟨g,k*6+(m - 1)*6,none⟩)):=H 8 O 46 (.eq (.pointer (some ⟨g,k*6+(m - 1)*6,none⟩))) O (by rw[t];rfl);exact AW (AK bd Ad AH O (by rw[show k*6+(m - 1)*6=(j - 1)*6 by omega];exact al.ext (X0.trans X))) (Ae.refl _) O
         refine DagSteps.cons (λf w' X U H=>Or.inl ⟨?_,?_⟩) ?_
         .exact AD O
         .have bk:f 42=(.agg #[(.int .i64 x.kind),(.slice sa x.set.length sc),(.slice aa x.args.length ac),(.int .i64 x.mn),(.int .i64 x.mx),(.bool x.neg)]):=H 4 O 42 (.eq (.agg #[(.int .i64 x.kind),(.slice sa x.set.length sc),(.slice aa x.args.length ac),(.int .i64 x.mn),(.int .i64 x.mx),(.bool x.neg)])) O (by rw[t];rfl);have bs:f 47=(.agg #[(.int .i64 y.kind),(.slice I y.set.length L),(.slice J y.args.length K),(.int .i64 y.mn),(.int .i64 y.mx),(.bool y.neg)]):=H 9 O 47 (.eq (.agg #[(.int .i64 y.kind),(.slice I y.set.length L),(.slice J y.args.length K),(.int .i64 y.mn),(.int .i64 y.mx),(.bool y.neg)])) O (by rw[t];rfl);have b7:f 38=fv:=H 0 O 38 (.eq fv) O (by rw[t];rfl);exact LN b7 (G8 bk bs) (hf _ x y _ _ (A4.ext (X0.trans X) x F) (A4.ext (X0.trans X) y D))
         refine DagSteps.cons (λf w' X U H=>Or.inl ⟨?_,?_⟩) ?_
         .exact AD O
         .have bv:f 48=(.bool (Ci x y)):=H 10 O 48 (.eq (.bool (Ci x y))) O (by rw[t];rfl);exact AW (Dg bv) (Ae.refl _) O
         exact DagSteps.nil
        .intro f w8 X8 U H;obtain ⟨j8,rfl⟩:=Am.out (σ:=f) (l:=[(0,(.slice (some ⟨g,0,none⟩) e.length c)),(1,fv),(5,(.int .i64 ((i:Nat):Int))),(6,(.slice (some ⟨g,k*6,none⟩) (e.length - k) (c - k))),(7,(.int .i64 ((m:Nat):Int))),(49,(.bool (!(Ci x y))))]) ⟨U 0 O,U 1 O,U 5 O,U 6 O,U 7 O,(show f 49=(.bool (!(Ci x y))) from H 11 49 (.eq (.bool (!(Ci x y)))) O (by rw[t];rfl)),trivial⟩;clear U H;replace d:=X8.keep d;replace N:=N.ext X8;replace E:=E.ext X8;refine AC (A_ O (λB=>?_) (λB=>?_))
         .have a3:=B;replace B:=by simpa using B
          have ah:Ci x y=false:=by simpa using B
          refine AA (qM _ O (qM _ O (qM _ O (qM _ O (qV (AN (b:=g) (o:=k*6) (len:=e.length - k) (cap:=c - k) (i:=m) (o':=k*6+m*6) O O O underlying23 AH qO qO) (qV (AK O Ad AH O (by rw[show k*6+m*6=j*6 by omega];exact N)) (qV (AN (b:=g) (o:=0) (len:=e.length) (cap:=c) (i:=i) (o':=0+i*6) O O O underlying23 AH qO qO) (Ab (b:=g) (o:=0+i*6) (n:=6) (c':=((p.set i [.int .i64 x.kind,.slice sa x.set.length sc,.slice aa x.args.length ac,.int .i64 x.mn,.int .i64 x.mx,.bool x.neg]).flatten++rest).toArray) (vs:=(R6 x sa sc aa ac)) O O qS AH (O) d (by have:=CW A;simp only[List.size_toArray,List.length_append];omega) (by rw[Nat.zero_add];exact congrArg List.toArray (KY (k:=6) (v:=[.int .i64 x.kind,.slice sa x.set.length sc,.slice aa x.args.length ac,.int .i64 x.mn,.int .i64 x.mx,.bool x.neg]) (rows:=p) (i:=i) (rest:=rest) O A qO)) ?_))))))));intro w10 a1;replace E:=a1.step E qQ;replace d:=a1.blk;refine AB (AR (qM _ O (qV (Ax O O (A8 qO)) (qA _ O (AB (AQ (AC (AR (qM _ O (qV (Ax O O (A8 qO)) (qA _ O (AB (AC ?_)))))))))))));exact ⟨e.length - k - (m+1),qO,m+1,i+1,p.set i [.int .i64 x.kind,.slice sa x.set.length sc,.slice aa x.args.length ac,.int .i64 x.mn,.int .i64 x.mx,.bool x.neg],Am.out ⟨O,O,O,O,O,trivial⟩,E,d,⟨qO,qO⟩,qO,(by simpa using ae),(λr Q=>by rcases List.mem_or_eq_of_mem_set Q with h|h;exact A r h;rw[h];rfl),(by rw[show k+(m+1) - 1=j by omega,List.drop_set_of_lt qO];exact ak),(by rw[show k+(m+1)=j+1 by omega,G,ah,List.take_add_one,List.take_set_of_le (Nat.le_refl _),List.getElem?_set_self qO];exact Ao.append (Ao.single ag) R),(by rw[show k+(m+1)=j+1 by omega,G,ah,List.length_append,<-C];rfl),O⟩
         .have a3:=B;replace B:=by simpa using B
          have a8:Ci x y=true:=by simpa using B
          refine AO (AQ (AC (AR (qM _ O (qV (Ax (k:=.i64) (a:=(m:Int)) (b:=1) (c:=(m:Int)+1) O O (A8 qO)) (qA (I6 ((m:Int)+1)) O (AB (AC ?_))))))));exact ⟨e.length - k - (m+1),qO,m+1,i,p,Am.out ⟨O,O,O,O,O,trivial⟩,E,d,⟨qO,qO⟩,qO,ae,A,(by rw[show k+(m+1) - 1=j by omega];exact ak),(by rw[show k+(m+1)=j+1 by omega,G,a8];simpa using R),(by rw[show k+(m+1)=j+1 by omega,G,a8];simpa using C),O⟩
       .have bl:k+m=e.length:=qO
        rw[bl,List.take_length] at R C;have hil2:i<=e.length:=by rw[C];exact Pw _ _
        refine Aw (AZ (AZ (Ap (AC (AA (qM (.slice (some ⟨g,0,none⟩) e.length c) O (qM (I6 (i:Int)) O ?_)))))));obtain ⟨sk,a6⟩:∃a':Option Addr,(if c=i then (some ⟨g,0,none⟩) else Option.map (λq:Addr=>q.add (i*6)) (some ⟨g,0,none⟩))=a':=⟨_,O⟩;refine qV (GA (a:=(some ⟨g,0,none⟩)) (len:=e.length) (cap:=c) (lo:=i) (l:=(i:Int)) (n':=(e.length - i)) (c':=(c - i)) underlying23 AH O O qO qO a6 qO qO) ?_;have a0:sk=some ⟨g,i*6,none⟩:=by rw[<-a6,if_neg qO];simp[Addr.add];omega
        subst a0;obtain ⟨cz,ar⟩:∃cz,cz=((p.flatten++rest).toArray.toList.take (i*6)++(Builtin.zeroCells (Value.cells (.agg #[(.int .i64 0),(.slice none 0 0),(.slice none 0 0),(.int .i64 0),(.int .i64 0),(.bool false)])) (e.length - i)).toList++(p.flatten++rest).toArray.toList.drop (i*6+(e.length - i)*6)).toArray:=⟨_,O⟩;refine QX (b:=g) (o:=i*6) (m:=(e.length - i)) (cc:=(c - i)) (c':=cz) underlying23 A9 O qO d NX (by show i*6+(e.length - i)*6<=_;simp only[List.size_toArray,List.length_append,CW A,ae];omega) (ar.symm) ?_;intro w11 ax;replace E:=ax.step E qQ;replace d:=ax.blk;refine AB (AA (qM _ O (qM _ O ?_)));obtain ⟨sm,z⟩:∃a':Option Addr,(if c=0 then (some ⟨g,0,none⟩) else Option.map (λq:Addr=>q.add (0*6)) (some ⟨g,0,none⟩))=a':=⟨_,O⟩;refine qV (HS (hi:=i) underlying23 AH O O qO qO z) (qA _ O (AB (AJ (Ac (AP (AP (Ac (AP (AV results172 (v:=(.slice sm i c)) O ?_)))))))));have aw:sm=some ⟨g,0,none⟩:=by rw[<-z];split<;>simp[Addr.add]
        subst aw;have b2:(p.take i).flatten.length=i*6:=by rw[CW (λr Q=>A r (List.mem_of_mem_take Q))];simp;omega
        have bw:(p.flatten++rest).take (i*6)=(p.take i).flatten:=by
         have:p.flatten=(p.take i).flatten++(p.drop i).flatten:=by rw[<-List.flatten_append,List.take_append_drop]
         rw[this,List.append_assoc,List.take_append_of_le_length qO,List.take_of_length_le qO]
        have hz:(Builtin.zeroCells (Value.cells (.agg #[(.int .i64 0),(.slice none 0 0),(.slice none 0 0),(.int .i64 0),(.int .i64 0),(.bool false)])) (e.length - i)).toList.length=(e.length - i)*6:=by simp[Builtin.zeroCells,Value.cells]
        have a2:(p.flatten++rest).length=c*6:=by rw[List.length_append,CW A,ae];omega
        refine ⟨some ⟨g,0,none⟩,c,p.take i,by rw[<-C],⟨by rw[b2,<-C],.inr ⟨g,c,cz,by rw[<-C],b6,d,qO,T,?_,?_⟩⟩,R,E⟩
        .rw[ar];simp only[List.size_toArray,List.length_append,List.length_take,List.length_drop,hz];simp only[List.length_append] at a2;omega
        .rw[ar,<-C];show List.take (i*6) (List.take (i*6) (p.flatten++rest)++_++_)=_;rw[bw,List.append_assoc,List.take_append_of_le_length qO,List.take_of_length_le qO]
     .have a5:=z;have ah:Ci x y=false:=by simpa using z
      refine AO (AQ (AC (AR (qM _ O (qV (Ax O O (A8 qO)) (qA _ O (AB (AC ?_))))))));exact ⟨e.length - (k+1),qO,k+1,Am.out ⟨O,O,O,trivial⟩,E,d,⟨qO,qO⟩,(by rw[G,ah,V,List.take_add_one,hx];rfl),O⟩
   .have bb:k=e.length:=qO
    rw[bb,List.take_length] at V;refine Aw (AZ (AZ (Ap (AC (AA (qM _ O (qA _ O (AB (AJ (AV results172 (v:=(.slice (some ⟨g,0,none⟩) e.length c)) O ?_))))))))));rw[V];exact ⟨_,c,rows,O,TO M d ap T ai,Q,E⟩
end Go.Proofs
namespace Go.Proofs
open Go Go.Eng Go.Sort
set_option maxRecDepth 100000
theorem RN {us D:List Re} (d:us.Perm D) (f:us.Pairwise λx y=>Cp x y<=0) (hn:∀x∈D,G6 x=true):us=Dp D:=by
 have c:us.Perm (Dp D):=d.trans (List.mergeSort_perm D VV).symm;refine List.Perm.eq_of_pairwise (le:=λx y=>Cp x y<=0) (λa b e hb h1 h2=>?_) f (Jb D) c;have h3:=CD a b;have h4:=CD b a;exact (Kj (hn a (d.mem_iff.1 e)) (hn b (KP.1 hb))).1 qO
theorem UF {p:Re->Bool} {l:List Re}:(0<=IA p l->∃i x,IA p l=((i:Nat):Int)∧l[i]?=some x∧l.find? p=some x)∧(¬0<=IA p l->l.find? p=none):=by
 unfold IA;cases h:l.findIdx? p with
 | none=>
  refine ⟨λa=>by simp at a,λ_=>?_⟩;rw[List.find?_eq_none];intro x b;have:=(List.findIdx?_eq_none_iff.1 h) x b;simp[this]
 | some i=>
  refine ⟨λ_=>?_,λa=>by simp at a⟩;obtain ⟨hi,a,d⟩:=List.findIdx?_eq_some_iff_getElem.1 h;refine ⟨i,l[i],O,List.getElem?_eq_getElem hi,?_⟩;rw[List.find?_eq_some_iff_getElem];exact ⟨a,i,hi,O,λj c=>by simpa using d j c⟩
theorem O5 (w0:World) (S:Nat→Prop) (k:Int) (v sf gf:Value) (ts:List Re) (strong weak:Re→Bool) (zt:Re) (zv:List Value) (h:DH S w0 v ts) (hz:AS S w0 zt zv) (hS:∀x,S x→x<w0.heap.size) (hne:∀x∈ts,x.kind=k→x.args≠[]) (hsz:Re.sizes ts≤1000000) (hnn:∀x∈BI k ts,G6 x=true)
  (hs:∀(w:World) (x:Re) (vs:List Value),x∈ts→A4 w x vs→Bh prog sf #[.agg vs.toArray] w fun r w'=>r=.bool (strong x)∧Ae w w')
  (hw:∀(w:World) (x:Re) (vs:List Value),x∈BI k ts→A4 w x vs→Bh prog gf #[.agg vs.toArray] w fun r w'=>r=.bool (weak x)∧Ae w w') :
  Bi prog 141 #[.int .i64 k,v,sf,gf,.agg zv.toArray] w0 fun r w=>(∃vs,r=.agg vs.toArray∧AS (fun b=>S b∨w0.heap.size≤b) w (GS k ts strong weak zt) vs)∧Ae w0 w:=by
 have h0:=h;have bj:=hz;obtain ⟨aw,ax,ak,ay,rfl,_,_,_⟩:=hz.form;obtain ⟨bu,bf,rfl,bh,_⟩:=h;have hls:=GG ts;have a2:=NG k ts ts.length;rw[List.take_length] at a2;have au:=h0;obtain ⟨al,am⟩:=UF (p:=strong) (l:=ts);obtain ⟨q,hq⟩:∃q:Int,q=IA strong ts:=⟨_,rfl⟩;rw[←hq] at al am;obtain ⟨D,hD⟩:∃D,D=EJ weak (BI k ts):=⟨_,rfl⟩;have hDl:D.length≤(BI k ts).length:=by rw[hD];exact List.length_filter_le _ _
 have bw:∀x∈D,G6 x=true:=fun x hx=>hnn x (J9.1 (by rw[←hD];exact hx)).1;obtain ⟨G,hG⟩:∃G,G=ES (Dp D):=⟨_,rfl⟩;have ba:GS k ts strong weak zt=match ts.find? strong with|some x=>x|none=>Bv k zt G:=by rw[hG,hD];rfl
 rw[ba];obtain ⟨br,bn,bs⟩:=KC k zt G;refine qR func141 rfl ntmps141 rfl (fun E=>(AA (BL (v:=(.agg (R6 zt aw ax ak ay))) (c:=(R6 zt aw ax ak ay)) qD rfl rfl ?_)));intro bz wz Nz;have Fz:=Nz.ge E;replace E:=E.ext Nz.ext;have Bz:=Nz.blk;refine Bg (c:=#[(I6 0),(.slice none 0 0),(.slice none 0 0),(I6 0),(I6 0),(.bool false)]) qD A9 rfl ?_;intro bo wo No;have Fo:=No.ge E;have Oo_bz:=No.lt Bz;replace Bz:=No.keep Bz;replace E:=E.ext No.ext;have Bo:=No.blk;refine AB (AG (AA (qM _ rfl (qM _ rfl ?_))));obtain ⟨ae,ag⟩:∃ae,ae=wo.heap.size:=⟨_,rfl⟩;have hob:bo<ae∧bz<ae:=⟨by rw[ag];exact Bo.lt,by rw[ag];exact Bz.lt⟩;have hwb:w0.heap.size≤ae:=qO
 have E2:Chg Ak wo wo:=Chg.refl _ _;refine qE rfl (AI func169 kQ kQ rfl) ((I3 _ _ sf ts strong (U_ (h0.ext E)) (fun w x vs _ hm hx=>hs w x vs hm hx)).mono (R':=fun r w=>r=.int .i64 q∧Ae wo w) (fun r w h9=>⟨by rw[h9.1,hq],h9.2⟩)) ?_;rintro _ w9 ⟨rfl,X9⟩;replace Bz:=X9.keep Bz;replace Bo:=X9.keep Bo;replace E:=E.ext X9;refine qA _ rfl (AB (AA (qM _ rfl (qV (FX rfl rfl) (AB (qC rfl (fun bb=>?_) (fun bb=>?_)))))))
 ·obtain ⟨i,x,hi,hx,hf⟩:=al bb;have b0:=AM hx;have bq:DH S (w9) (.slice bu ts.length bf) ts:=au.ext E;obtain ⟨lb,lo,rfl,bd⟩:=bq.cells qO;obtain ⟨xs,a1,ap⟩:=bd i x hx;have aj:=ap;obtain ⟨sa,sc,aa,ac,rfl,_,_,_⟩:=ap.form;refine AA (qM _ rfl (qM _ rfl (qV (AN (b:=lb) (o:=lo) (len:=ts.length) (cap:=bf) (i:=i) (o':=lo+i*6) rfl rfl qO underlying23 AH qO qO) ?_)));have ad:Chg (fun y=>y=bo) (w9) (w9):=Chg.refl _ _;refine qV (AK rfl Ad AH rfl (a1)) (Ab (b:=bo) (o:=0) (c':=(R6 x sa sc aa ac)) rfl rfl qS AH rfl Bo qL rfl ?_);intro w2 S2;replace ad:=S2.chg;replace Bz:=S2.keep qO Bz;replace E:=S2.step E qQ;replace Bo:=S2.blk;refine AB (AJ (AP (A1 results141 (vs:=[(.int .i64 x.kind),(.slice sa x.set.length sc),(.slice aa x.args.length ac),(.int .i64 x.mn),(.int .i64 x.mx),(.bool x.neg)]) (b:=bo) rfl Ad AH rfl (Bo.cells rfl) ?_)));exact ⟨⟨_,rfl,by rw[hf];exact AS.mono (fun y hy=>.inl hy) x (AS.chg ad (fun y hy h=>by have h1:=hS y hy;have h2:y=bo:=h;omega) x aj)⟩,E⟩
 ·rw[am bb];obtain ⟨ab,ai⟩:∃ab,ab=w9.heap.size:=⟨_,rfl⟩;have a0:bo<ab∧bz<ab∧w0.heap.size≤ab:=by have:=X9.size;omega
  refine AO (AC (AA (qM _ rfl (qM _ rfl (qE rfl (AI func166 kQ kQ rfl) (UC _ S k _ ts (au.ext E) hne hsz) ?_)))));rintro _ wf ⟨la,lc,a4,rfl,an,b1,Xf⟩;replace Bz:=Xf.keep Bz;replace Bo:=Xf.keep Bo;replace E:=E.ext Xf;rw[←ai] at an;have E3:Ae w9 wf:=Xf;have a3:∀x,S x→x<ab:=fun x hx=>by have:=hS x hx;omega
  refine qM _ rfl (qE rfl (AI func165 kQ kQ rfl) ((WI w9 _ ab S _ _ (BI k ts) a4 weak E3 an b1 a3 qO hw).mono (R':=fun r w=>∃la lc rows',r=.slice la D.length lc∧w.ownsRow ab Hj 6 r D.length rows'.flatten∧Ao S w9 D rows'∧Chg (fun x=>ab≤x) wf w) (fun r w h9=>by rw[hD];exact h9)) ?_);rintro _ wd ⟨bm,bx,av,rfl,af,a9,Cd⟩;replace Bz:=Cd.keep qO Bz;replace Bo:=Cd.keep qO Bo;replace E:=E.step Cd (by intro x hx hm;omega);replace E3:=E3.step Cd (by intro x hx hm;omega);refine qA _ rfl (AB (AA (qM _ rfl (qE rfl (AI func170 kQ kQ rfl) ((U0 w9 _ S ab _ D av E3 af a9 a3 qO).mono (R':=fun r w=>r=.tuple #[]∧(∃qs,w.ownsRow ab Hj 6 (.slice bm D.length bx) (Dp D).length qs.flatten∧Ao S w9 (Dp D) qs)∧Chg (fun x=>ab≤x) wd w) (fun r w h9=>by obtain ⟨h1,⟨us,qs,hp,bt,h3,h4⟩,h5⟩:=h9;have h6:=RN hp bt bw;subst h6;exact ⟨h1,⟨qs,h3,h4⟩,h5.mono fun x _ hx=>(af.lt x hx).1⟩)) ?_))));rintro _ ws ⟨rfl,⟨qs,ah,a7⟩,Cs⟩;replace Bz:=Cs.keep qO Bz;replace Bo:=Cs.keep qO Bo;replace E:=E.step Cs (by intro x hx hm;omega);replace E3:=E3.step Cs (by intro x hx hm;omega);have bg:(Dp D).length=D.length:=List.length_mergeSort D;rw[←bg] at ah;rw[←bg];refine AB (AA (qM _ rfl (qE rfl (AI func172 kQ kQ rfl) ((Vu w9 _ ab S _ _ (Dp D) qs E3 ah a7 a3 qO (fun w x y xs ys hx hy=>Bh.mk (first:=#[]) (cap:=#[]) func173 kQ kQ rfl (S_ _ x y w xs ys (Nat.le_refl _) hx hy))).mono (R':=fun r w=>∃la lc rows',r=.slice la G.length lc∧w.ownsRow ab Hj 6 r G.length rows'.flatten∧Ao S w9 G rows'∧Chg (fun x=>ab≤x) ws w) (fun r w h9=>by rw[hG];exact h9)) ?_)));rintro _ wc ⟨az,aq,be,rfl,ao,bc,Cc⟩;replace Bz:=Cc.keep qO Bz;replace Bo:=Cc.keep qO Bo;replace E:=E.step Cc (by intro x hx hm;omega);replace E3:=E3.step Cc (by intro x hx hm;omega);obtain ⟨bk,ar⟩:=HT ao (bc.ext E3) rfl;refine qA _ rfl (AB (AG (AA (qM _ rfl (qV (Aa underlying23 rfl) (AB (AU (AA (qV (Aj rfl rfl) (qA _ rfl (AB (qC rfl (fun b3=>?_) (fun b3=>?_)))))))))))))
  ·have ad:Chg (fun y=>y=bo) (wc) (wc):=Chg.refl _ _;have b2:=AS.ext E zt bj;refine AA (qV (AK (vs:=[(I6 zt.kind),(.slice aw zt.set.length ax),(.slice ak zt.args.length ay),(I6 zt.mn),(I6 zt.mx),(.bool zt.neg)]) rfl Ad AH rfl (Bz.cells rfl)) (Ab (b:=bo) (o:=0) (c':=(R6 zt aw ax ak ay)) rfl rfl qS AH rfl Bo qL rfl ?_));intro w4 S4;replace ad:=S4.chg;replace Bz:=S4.keep qO Bz;replace E:=S4.step E qQ;replace Bo:=S4.blk;refine AB (AJ (Ac (AP (A1 results141 (vs:=[(.int .i64 zt.kind),(.slice aw zt.set.length ax),(.slice ak zt.args.length ay),(.int .i64 zt.mn),(.int .i64 zt.mx),(.bool zt.neg)]) (b:=bo) rfl Ad AH rfl (Bo.cells rfl) ?_))));exact ⟨⟨_,rfl,by show AS _ _ (Bv k zt G) _;rw[br qO];exact AS.mono (fun y hy=>.inl hy) zt (AS.chg ad (fun y hy h=>by have h1:=hS y hy;have h2:y=bo:=h;omega) zt b2)⟩,E⟩
  ·refine AA (qV (Aj rfl rfl) (qA _ rfl (AB (qC rfl (fun bi=>?_) (fun bi=>?_)))))
   ·obtain ⟨x,hx⟩:=AX (l:=G) (i:=0) qO;obtain ⟨lb,bl,bv,a6,bd⟩:=ar.resolve_left (fun h=>by rw[h] at hx;simp at hx);subst a6;obtain ⟨xs,a1,ap⟩:=bd 0 x hx;have aj:=ap;obtain ⟨sa,sc,aa,ac,rfl,_,_,_⟩:=ap.form;have ad:Chg (fun y=>y=bo) (wc) (wc):=Chg.refl _ _;refine AA (qM _ rfl (qV (AN (b:=lb) (o:=0) (len:=G.length) (cap:=aq) (i:=0) (o':=0) rfl rfl rfl underlying23 AH qO qO) (qV (AK rfl Ad AH rfl (a1)) (Ab (b:=bo) (o:=0) (c':=(R6 x sa sc aa ac)) rfl rfl qS AH rfl Bo qL rfl ?_))));intro w6 S6;replace ad:=S6.chg;replace Bz:=S6.keep qO Bz;replace E:=S6.step E qQ;replace Bo:=S6.blk;refine AB (AJ (Ac (AP (A1 results141 (vs:=[(.int .i64 x.kind),(.slice sa x.set.length sc),(.slice aa x.args.length ac),(.int .i64 x.mn),(.int .i64 x.mx),(.bool x.neg)]) (b:=bo) rfl Ad AH rfl (Bo.cells rfl) ?_))));exact ⟨⟨_,rfl,by show AS _ _ (Bv k zt G) _;rw[bn x qO hx];exact AS.mono (fun y hy=>.inl hy) x (AS.chg ad (fun y hy h=>by have h1:=hS y hy;have h2:y=bo:=h;omega) x aj)⟩,E⟩
   ·have ad:Chg (fun y=>y=bo) (wc) (wc):=Chg.refl _ _;refine AO (AQ (AC (AA (qM _ rfl (qM _ rfl (qV (BJ (ps:=[(0,(I6 k)),(2,(.slice az G.length aq))]) (v:=(.agg #[(I6 k),(.slice none 0 0),(.slice az G.length aq),(I6 0),(I6 0),(.bool false)])) rfl qK) (Ab (b:=bo) (o:=0) (c':=#[(I6 k),(.slice none 0 0),(.slice az G.length aq),(I6 0),(I6 0),(.bool false)]) rfl rfl qS AH rfl Bo qL rfl ?_)))))));intro w7 S7;replace ad:=S7.chg;replace Bz:=S7.keep qO Bz;replace E:=S7.step E qQ;replace Bo:=S7.blk;refine AB (AJ (A1 results141 (vs:=[(.int .i64 k),(.slice none 0 0),(.slice az G.length aq),(.int .i64 0),(.int .i64 0),(.bool false)]) (b:=bo) rfl Ad AH rfl (Bo.cells rfl) (⟨⟨_,rfl,?_⟩,E⟩)));show AS _ _ (Bv k zt G) _;rw[bs qO];refine AS.of (set:=[]) (BY.nil _ _ _ _ _) bk ?_;rcases ar with h|⟨ob,bp,a0,a8,a5⟩
    ·exact .inl h
    ·refine .inr ⟨ob,0,.inr qO,a8,FF fun i t ht=>?_⟩;obtain ⟨vs,h6,h7⟩:=a5 i t ht;exact ⟨vs,h6.chg ad (fun h=>by have h':ob=bo:=h;omega),AS.mono (fun y hy=>.inl hy) t (AS.chg ad (fun y hy h=>by have h1:=hS y hy;have h2:y=bo:=h;omega) t h7)⟩
end Go.Proofs
namespace Go.Proofs
open Go Go.Eng Go.Sort
set_option maxRecDepth 100000
def E8 (S:Nat->Prop) (x:Re):G2:=λv w=>∃sa sc aa ac,v=.agg #[.int .i64 x.kind,.slice sa x.set.length sc,.slice aa x.args.length ac,.int .i64 x.mn,.int .i64 x.mx,.bool x.neg]∧AS S w x [.int .i64 x.kind,.slice sa x.set.length sc,.slice aa x.args.length ac,.int .i64 x.mn,.int .i64 x.mx,.bool x.neg]
theorem BV (S:Nat->Prop) (x:Re):EI (E8 S x):=by
 rintro v w w' e ⟨sa,sc,aa,ac,a,b⟩;exact ⟨sa,sc,aa,ac,a,AS.ext e x b⟩
theorem Cx {S S':Nat->Prop} {x:Re} {v:Value} {w:World} (c:∀b,S' b->S b) (h:∃us:List Value,v=.agg us.toArray∧AS S' w x us):E8 S x v w:=by
 obtain ⟨us,rfl,h⟩:=h;have a:=AS.mono c x h;obtain ⟨sa,sc,aa,ac,rfl,_⟩:=a.form;exact ⟨sa,sc,aa,ac,O,a⟩
theorem Lu {S:Nat->Prop} {w:World} {t:Re} {sa aa:Option Addr} {k m x:Int} {n sc n' ac:Nat} {ng:Bool} (h:AS S w t [.int .i64 k,.slice sa n sc,.slice aa n' ac,.int .i64 m,.int .i64 x,.bool ng]):DH S w (.slice aa n' ac) t.args:=by
 obtain ⟨sa',sc',aa',ac',a,_,c,b⟩:=h.form;simp only[List.cons.injEq,Value.slice.injEq,and_true] at a;obtain ⟨_,_,⟨rfl,rfl,rfl⟩,_⟩:=a;exact ⟨_,_,O,c,b⟩
theorem Mv {S S':Nat->Prop} {w:World} {v:Value} {a:List Re} (c:∀b,S b->S' b) (h:DH S w v a):DH S' w v a:=by
 obtain ⟨aa,ac,i,j,e⟩:=h;refine ⟨aa,ac,i,j,?_⟩;rcases e with h|⟨b,o,f,d,g⟩
 .exact .inl h
 .exact .inr ⟨b,o,c b f,d,A5.mono c a g⟩
theorem Vo (w0:World):Bi prog 145 #[] w0 fun v w=>E8 (fun b=>w0.heap.size≤b) FS v w∧Ae w0 w:=by
 refine qR func145 rfl ntmps145 rfl (fun E=>(AA (Bg (c:=#[(I6 0),(.slice none 0 0),(.slice none 0 0),(I6 0),(I6 0),(.bool false)]) qD A9 rfl ?_)));intro bo wo No;have Fo:=No.ge E;replace E:=E.ext No.ext;have Bo:=No.blk;refine AB (AA (qE rfl (AI func144 kQ kQ rfl) (Ie _) ?_));rintro _ w9 ⟨rfl,X9⟩;replace Bo:=X9.keep Bo;replace E:=E.ext X9;refine A3 (ps:=[(0,(.agg #[(I6 0),(.slice none 0 0),(.slice none 0 0),(I6 0),(I6 0),(.bool false)]))]) (c:=#[(I6 0),(.slice none 0 0),(.slice none 0 0),(I6 0),(I6 0),(.bool false)]) qD rfl underlying23 AH A9 qD qD qK ?_;intro bp wp Np;have Fp:=Np.ge E;have Op_bo:=Np.lt Bo;replace Bo:=Np.keep Bo;replace E:=E.ext Np.ext;have Bp:=Np.blk;refine qV (BJ (ps:=[(0,(I6 8)),(2,(.slice (some ⟨bp,0,none⟩) 1 1))]) (v:=(.agg #[(I6 8),(.slice none 0 0),(.slice (some ⟨bp,0,none⟩) 1 1),(I6 0),(I6 0),(.bool false)])) rfl qK) (Ab (b:=bo) (o:=0) (c':=#[(I6 8),(.slice none 0 0),(.slice (some ⟨bp,0,none⟩) 1 1),(I6 0),(I6 0),(.bool false)]) rfl rfl qS AH rfl Bo qL rfl ?_);intro w1 S1;replace Bp:=S1.keep qO Bp;replace E:=S1.step E qQ;replace Bo:=S1.blk;refine AB (AJ (A1 results145 (vs:=[(.int .i64 8),(.slice none 0 0),(.slice (some ⟨bp,0,none⟩) 1 1),(.int .i64 0),(.int .i64 0),(.bool false)]) (b:=bo) rfl Ad AH rfl (Bo.cells rfl) ?_));exact ⟨⟨_,_,_,_,rfl,AS.of (set:=[]) (args:=[BB]) (BY.nil _ _ _ _ _) qP (.inr ⟨bp,0,by show w0.heap.size≤bp;omega,rfl,A5.one (Bp.cells rfl) (Cn _ _ 0)⟩)⟩,E⟩
theorem Kz {k:Int} {l:List Re} (h:∀x∈l,Au x):∀x∈BI k l,G6 x=true:=λx c=>by
 obtain ⟨y,b,⟨_,d⟩|⟨_,rfl⟩⟩:=HB.1 c
 .exact Fy ((h y b).a x d)
 .exact Fy (h x b)
theorem Cm {x:Re} (h:Au x):(x.kind=3∨x.kind=4∨x.kind=7->x.args≠[])∧(x.kind=8->x.args≠[]):=by
 refine ⟨λa e=>?_,λa e=>?_⟩
 .have hn:=h.n;rcases a with a|a|a
  .have:=(hn.k3 a).1;rw[e] at this;simp at this
  .have:=(hn.k4 a).1;rw[e] at this;simp at this
  .have:=(hn.k7 a).1;rw[e] at this;simp at this
 .obtain ⟨y,b,_⟩:=h.n.k8 a;rw[e] at b;cases b
theorem UA {k:Int} {l:List Re} (h:∀x∈l,Au x):∀x∈BI k l,Au x:=λx c=>by
 obtain ⟨y,b,⟨_,d⟩|⟨_,rfl⟩⟩:=HB.1 c
 .exact (h y b).a x d
 .exact h x b
theorem Eg (t:Re):EL t=Cz t.kind t.set t.args t.mn t.mx t.neg:=by cases t;rfl
section
variable {t : Re}
theorem YZ (h:t.kind=3):EL t=De t.args:=by rw[Eg];unfold Cz;simp[h]
theorem YY (h:t.kind=4):EL t=GS t.kind t.args Ca BX BB:=by rw[Eg];unfold Cz;simp[h]
theorem YV (h:t.kind=7):EL t=GS t.kind t.args BX Ca FS:=by rw[Eg];unfold Cz;simp[h]
theorem YX {x:Re} (h:t.kind=5) (a:t.args.headD BB=x):EL t=if x.kind=0∨x.kind=1 then BP else if x.kind=5 then x else t:=by rw[Eg];unfold Cz;rw[a];simp[h];cases t;simp[Re.kind] at h;subst h;rfl
theorem YW {x:Re} (h:t.kind=6) (a:t.args.headD BB=x):EL t=if t.mx=0∨x.kind=1∨(x.kind=0∧t.mn=0) then BP else if x.kind=0∨(t.mn=1∧t.mx=1) then x else t:=by rw[Eg];unfold Cz;rw[a];simp[h];cases t;simp[Re.kind] at h;subst h;rfl
theorem YU {x:Re} (h:t.kind=8) (a:t.args.headD BB=x):EL t=if x.kind=8 then x.args.headD BB else t:=by rw[Eg];unfold Cz;rw[a];simp[h];cases t;simp[Re.kind] at h;subst h;rfl
theorem YT (h:t.kind≠3∧t.kind≠4∧t.kind≠5∧t.kind≠6∧t.kind≠7∧t.kind≠8):EL t=t:=by rw[Eg];unfold Cz;simp[h];cases t;rfl
end
theorem J8 (w0:World) (S:Nat→Prop) (t:Re) (vs:List Value) (ht:AS S w0 t vs) (hS:∀x,S x→x<w0.heap.size) (hp:PreN t.kind t.set t.args t.mn t.mx t.neg) (ha:∀y∈t.args,Au y) (hsz:Re.sizes t.args≤1000000) :
  Bi prog 113 #[.agg vs.toArray] w0 fun r w=>(∃us,r=.agg us.toArray∧AS (fun b=>S b∨w0.heap.size≤b) w (EL t) us)∧Ae w0 w:=by
 have bb:=ht;obtain ⟨sa,sc,aa,ac,rfl,c4,cn,ap⟩:=ht.form;have b9:DH S w0 (.slice aa t.args.length ac) t.args:=Lu bb;obtain ⟨N,hN⟩:∃N,N=EL t:=⟨_,rfl⟩;rw[←hN];refine qR func113 rfl ntmps113 rfl (fun E=>(AA (BL (v:=(.agg (R6 t sa sc aa ac))) (c:=(R6 t sa sc aa ac)) qD rfl rfl ?_)));intro br wr Nr;have Fr:=Nr.ge E;replace E:=E.ext Nr.ext;have Br:=Nr.blk;refine Bg (c:=#[(I6 0),(.slice none 0 0),(.slice none 0 0),(I6 0),(I6 0),(.bool false)]) qD A9 rfl ?_;intro bo wo No;have Fo:=No.ge E;have Oo_br:=No.lt Br;replace Br:=No.keep Br;replace E:=E.ext No.ext;have Bo:=No.blk;refine AB (AG (AA (qF br 0 0 rfl underlying25 rfl Ay rfl (qV (AL rfl Al (Br.cell rfl)) (AB (AU (AA (qV (Aj rfl rfl) (qA _ rfl (AB ?_))))))))));obtain ⟨n1,b8⟩:∃n1,n1=wo.heap.size:=⟨_,rfl⟩;have hob:br<n1∧bo<n1∧w0.heap.size≤bo∧w0.heap.size≤n1:=⟨by rw[b8];exact Br.lt,by rw[b8];exact Bo.lt,qO,by rw[b8];exact E.size⟩;refine qC rfl (fun h3=>?_) (fun h3=>?_)
 ·have c7:N=De t.args:=hN.trans (YZ h3);refine AA (qF br 0 2 rfl underlying25 rfl CG rfl (qV (AL rfl B0 (Br.cell rfl)) (qE rfl (AI func140 kQ kQ rfl) ((K7 _ S _ t.args (b9.ext E) (fun x hx=>by have:=hS x hx;have:=E.size;omega) (fun x hm hk=>(Cm (ha x hm)).1 (.inl hk)) hsz).mono (R':=fun r w=>E8 (fun b=>S b∨n1≤b) N r w∧Ae wo w) (fun r w h=>⟨Cx (S':=fun b=>S b∨wo.heap.size≤b) (fun b hb=>by rcases hb with h1|h1;exact .inl h1;exact .inr qO) (by rw[c7];exact h.1),h.2⟩)) ?_)));rintro _ w9 ⟨⟨xa,xc,ya,yc,rfl,hR⟩,X9⟩;replace Br:=X9.keep Br;replace Bo:=X9.keep Bo;replace E:=E.ext X9;refine Ab (b:=bo) (o:=0) (c':=(R6 N xa xc ya yc)) rfl rfl qS AH rfl Bo qL rfl ?_;intro w2 S2;replace hR:=AS.chg S2.chg (fun y hy h=>by have h2:y=bo:=h;rcases hy with h1|h1;have:=hS y h1;omega;omega) _ hR;replace Br:=S2.keep qO Br;replace E:=S2.step E qQ;replace Bo:=S2.blk;refine AB (AJ (Ac (AP (A1 results113 (vs:=[(.int .i64 N.kind),(.slice xa N.set.length xc),(.slice ya N.args.length yc),(.int .i64 N.mn),(.int .i64 N.mx),(.bool N.neg)]) (b:=bo) rfl Ad AH rfl (Bo.cells rfl) ?_))));exact ⟨⟨_,rfl,AS.mono (fun y hy=>by rcases hy with h1|h1;exact .inl h1;exact .inr qO) _ hR⟩,E⟩
 ·refine AA (qV (Aj rfl rfl) (qA _ rfl (AB (qC rfl (fun h4=>?_) (fun h4=>?_)))))
  ·have cq:N=GS t.kind t.args Ca BX BB:=hN.trans (YY h4);have c8:w0.heap.size≤wo.heap.size:=E.size;have bv:br<wo.heap.size:=Br.lt;have b1:bo<wo.heap.size:=Bo.lt;refine AG ?_;obtain ⟨co,ak⟩:∃Fs:List Fact,Fs=[.eq (P6 br 0),.eq (I6 t.kind),.eq (P6 br 2),.eq (.slice aa t.args.length ac),.eq (.agg #[(I6 0),(.slice none 0 0),(.slice none 0 0),(I6 0),(I6 0),(.bool false)]),.gen (E8 (fun b=>S b∨n1≤b) N) (BV _ _),.eq undef]:=⟨_,rfl⟩;refine Iq [true,true,true,true,true,true,false] [6] [15,16,17,18,19,20,105] [[],[0],[],[2],[],[1,3,4],[]] co ak mixed qK qK qK qK ?_ ?_
   ·intro wd X0;refine DagStepsP.cons (fun s' w' X U H=>Or.inl ⟨?_,?_⟩) ?_
    ·exact AD rfl
    ·exact AW (AY (U 1 rfl) underlying25 rfl Ay rfl) (Ae.refl _) rfl
    refine DagStepsP.cons (fun s' w' X U H=>Or.inl ⟨?_,?_⟩) ?_
    ·exact AD rfl
    ·have cz:s' 15=(.pointer (some ⟨br,0,none⟩)):=H 0 rfl 15 (.eq (.pointer (some ⟨br,0,none⟩))) rfl (by rw[ak];rfl);exact AW (AL cz Al (((X0.trans X).keep Br).cell rfl)) (Ae.refl _) rfl
    refine DagStepsP.cons (fun s' w' X U H=>Or.inl ⟨?_,?_⟩) ?_
    ·exact AD rfl
    ·exact AW (AY (U 1 rfl) underlying25 rfl CG rfl) (Ae.refl _) rfl
    refine DagStepsP.cons (fun s' w' X U H=>Or.inl ⟨?_,?_⟩) ?_
    ·exact AD rfl
    ·have c6:s' 17=(.pointer (some ⟨br,2,none⟩)):=H 2 rfl 17 (.eq (.pointer (some ⟨br,2,none⟩))) rfl (by rw[ak];rfl);exact AW (AL c6 B0 (((X0.trans X).keep Br).cell rfl)) (Ae.refl _) rfl
    refine DagStepsP.cons (fun s' w' X U H=>Or.inl ⟨?_,?_⟩) ?_
    ·exact AD rfl
    ·exact A7 (AI func144 kQ kQ rfl) (Ie _)
    refine DagStepsP.cons (fun s' w' X U H=>Or.inl ⟨?_,?_⟩) ?_
    ·exact AD rfl
    ·have cy:s' 16=(.int .i64 t.kind):=H 1 rfl 16 (.eq (.int .i64 t.kind)) rfl (by rw[ak];rfl);have cs:s' 18=(.slice aa t.args.length ac):=H 3 rfl 18 (.eq (.slice aa t.args.length ac)) rfl (by rw[ak];rfl);have da:s' 19=(.agg #[(.int .i64 0),(.slice none 0 0),(.slice none 0 0),(.int .i64 0),(.int .i64 0),(.bool false)]):=H 4 rfl 19 (.eq (.agg #[(.int .i64 0),(.slice none 0 0),(.slice none 0 0),(.int .i64 0),(.int .i64 0),(.bool false)])) rfl (by rw[ak];rfl);exact A7 (AI func141 kQ kQ (Xh cy cs rfl rfl da)) ((O5 _ S t.kind _ _ _ t.args Ca BX BB _ (b9.ext (Ae.trans E (X0.trans X))) (Cn _ _ _) (fun x hx=>by have:=hS x hx;have:=E.size;have:=X0.size;have:=X.size;omega) (fun x hm hk=>(Cm (ha x hm)).1 qO) hsz (Kz ha) (fun w x vs hm hx=>Bh.mk (first:=#[]) (cap:=#[]) func142 kQ kQ rfl (Oz w x vs hx (Cm (ha x hm)).2)) (fun w x vs hm hx=>Bh.mk (first:=#[]) (cap:=#[]) func143 kQ kQ rfl (JO w x vs hx))).mono (fun r w h=>⟨Cx (S':=fun b=>S b∨w'.heap.size≤b) (fun b hb=>by rcases hb with h1|h1;exact .inl h1;exact .inr (by have:=X0.size;have:=X.size;omega)) (by rw[cq];exact h.1),h.2⟩))
    refine DagStepsP.tail ?_;exact DagStepsP.nil
   ·intro s' w4 X4 U H;obtain ⟨a0,au,a7,az,cu,b6⟩:=H 5 rfl 20 (.gen (E8 (fun b=>S b∨n1≤b) N) (BV _ _)) rfl (by rw[ak];rfl);obtain ⟨j4,rfl⟩:=Am.out (σ:=s') (l:=[(2,(.pointer (some ⟨bo,0,none⟩))),(20,(.agg #[(.int .i64 N.kind),(.slice a0 N.set.length au),(.slice a7 N.args.length az),(.int .i64 N.mn),(.int .i64 N.mx),(.bool N.neg)]))]) ⟨U 2 rfl,cu,trivial⟩;clear U H;replace Br:=X4.keep Br;replace Bo:=X4.keep Bo;replace E:=E.ext X4;refine Ab (b:=bo) (o:=0) (c':=(R6 N a0 au a7 az)) rfl rfl qS AH rfl Bo qL rfl ?_;intro w5 S5;replace b6:=AS.chg S5.chg (fun y hy h=>by have h2:y=bo:=h;rcases hy with h1|h1;have:=hS y h1;omega;omega) _ b6;replace Br:=S5.keep qO Br;replace E:=S5.step E qQ;replace Bo:=S5.blk;refine AB (AC (AJ (Ac (AP (A1 results113 (vs:=[(.int .i64 N.kind),(.slice a0 N.set.length au),(.slice a7 N.args.length az),(.int .i64 N.mn),(.int .i64 N.mx),(.bool N.neg)]) (b:=bo) rfl Ad AH rfl (Bo.cells rfl) ?_)))));exact ⟨⟨_,rfl,AS.mono (fun y hy=>by rcases hy with h1|h1;exact .inl h1;exact .inr qO) _ b6⟩,E⟩
  ·refine AA (qV (Aj rfl rfl) (qA _ rfl (AB (qC rfl (fun h7=>?_) (fun h7=>?_)))))
   ·have cw:N=GS t.kind t.args BX Ca FS:=hN.trans (YV h7);have cv:w0.heap.size≤wo.heap.size:=E.size;have b3:br<wo.heap.size:=Br.lt;have bw:bo<wo.heap.size:=Bo.lt;refine AG ?_;obtain ⟨c1,aj⟩:∃Fs:List Fact,Fs=[.eq (P6 br 0),.eq (I6 t.kind),.eq (P6 br 2),.eq (.slice aa t.args.length ac),.gen (E8 (fun b=>S b∨n1≤b) FS) (BV _ _),.gen (E8 (fun b=>S b∨n1≤b) N) (BV _ _),.eq undef]:=⟨_,rfl⟩;refine Iq [true,true,true,true,true,true,false] [6] [23,24,25,26,27,28,105] [[],[0],[],[2],[],[1,3,4],[]] c1 aj mixed qK qK qK qK ?_ ?_
    ·intro wd X0;refine DagStepsP.cons (fun s' w' X U H=>Or.inl ⟨?_,?_⟩) ?_
     ·exact AD rfl
     ·exact AW (AY (U 1 rfl) underlying25 rfl Ay rfl) (Ae.refl _) rfl
     refine DagStepsP.cons (fun s' w' X U H=>Or.inl ⟨?_,?_⟩) ?_
     ·exact AD rfl
     ·have c5:s' 23=(.pointer (some ⟨br,0,none⟩)):=H 0 rfl 23 (.eq (.pointer (some ⟨br,0,none⟩))) rfl (by rw[aj];rfl);exact AW (AL c5 Al (((X0.trans X).keep Br).cell rfl)) (Ae.refl _) rfl
     refine DagStepsP.cons (fun s' w' X U H=>Or.inl ⟨?_,?_⟩) ?_
     ·exact AD rfl
     ·exact AW (AY (U 1 rfl) underlying25 rfl CG rfl) (Ae.refl _) rfl
     refine DagStepsP.cons (fun s' w' X U H=>Or.inl ⟨?_,?_⟩) ?_
     ·exact AD rfl
     ·have c0:s' 25=(.pointer (some ⟨br,2,none⟩)):=H 2 rfl 25 (.eq (.pointer (some ⟨br,2,none⟩))) rfl (by rw[aj];rfl);exact AW (AL c0 B0 (((X0.trans X).keep Br).cell rfl)) (Ae.refl _) rfl
     refine DagStepsP.cons (fun s' w' X U H=>Or.inl ⟨?_,?_⟩) ?_
     ·exact AD rfl
     ·exact A7 (AI func145 kQ kQ rfl) ((Vo _).mono (fun r w h=>⟨(by obtain ⟨⟨a1,a2,a3,a4,h1,h2⟩,_⟩:=h;exact ⟨a1,a2,a3,a4,h1,AS.mono (fun b hb=>.inr (by have:=X0.size;have:=X.size;have hb':_≤b:=hb;omega)) _ h2⟩:E8 (fun b=>S b∨n1≤b) FS r w),h.2⟩))
     refine DagStepsP.cons (fun s' w' X U H=>Or.inl ⟨?_,?_⟩) ?_
     ·exact AD rfl
     ·have ct:s' 24=(.int .i64 t.kind):=H 1 rfl 24 (.eq (.int .i64 t.kind)) rfl (by rw[aj];rfl);have db:s' 26=(.slice aa t.args.length ac):=H 3 rfl 26 (.eq (.slice aa t.args.length ac)) rfl (by rw[aj];rfl);obtain ⟨c3,cr,c2,cj,cm,cp⟩:=H 4 rfl 27 (.gen (E8 (fun b=>S b∨n1≤b) FS) (BV _ _)) rfl (by rw[aj];rfl);exact A7 (AI func141 kQ kQ (Xh ct db rfl rfl cm)) ((O5 _ (fun b=>(S b∨n1≤b)∧b<w'.heap.size) t.kind _ _ _ t.args BX Ca FS _ (DH.lt (Mv (fun b hb=>.inl hb) (b9.ext (Ae.trans E (X0.trans X))))) (AS.lt _ cp) (fun x hx=>hx.2) (fun x hm hk=>(Cm (ha x hm)).1 qO) hsz (Kz ha) (fun w x vs hm hx=>Bh.mk (first:=#[]) (cap:=#[]) func143 kQ kQ rfl (JO w x vs hx)) (fun w x vs hm hx=>Bh.mk (first:=#[]) (cap:=#[]) func142 kQ kQ rfl (Oz w x vs hx (Cm (UA ha x hm)).2))).mono (fun r w h=>⟨Cx (S':=fun b=>((S b∨n1≤b)∧b<w'.heap.size)∨w'.heap.size≤b) (fun b hb=>by rcases hb with h1|h1;exact h1.1;exact .inr (by have:=X0.size;have:=X.size;omega)) (by rw[cw];exact h.1),h.2⟩))
     refine DagStepsP.tail ?_;exact DagStepsP.nil
    ·intro s' w7 X7 U H;obtain ⟨aw,av,ax,a6,cx,ca⟩:=H 5 rfl 28 (.gen (E8 (fun b=>S b∨n1≤b) N) (BV _ _)) rfl (by rw[aj];rfl);obtain ⟨j7,rfl⟩:=Am.out (σ:=s') (l:=[(2,(.pointer (some ⟨bo,0,none⟩))),(28,(.agg #[(.int .i64 N.kind),(.slice aw N.set.length av),(.slice ax N.args.length a6),(.int .i64 N.mn),(.int .i64 N.mx),(.bool N.neg)]))]) ⟨U 2 rfl,cx,trivial⟩;clear U H;replace Br:=X7.keep Br;replace Bo:=X7.keep Bo;replace E:=E.ext X7;refine Ab (b:=bo) (o:=0) (c':=(R6 N aw av ax a6)) rfl rfl qS AH rfl Bo qL rfl ?_;intro w8 S8;replace ca:=AS.chg S8.chg (fun y hy h=>by have h2:y=bo:=h;rcases hy with h1|h1;have:=hS y h1;omega;omega) _ ca;replace Br:=S8.keep qO Br;replace E:=S8.step E qQ;replace Bo:=S8.blk;refine AB (AC (AJ (Ac (AP (A1 results113 (vs:=[(.int .i64 N.kind),(.slice aw N.set.length av),(.slice ax N.args.length a6),(.int .i64 N.mn),(.int .i64 N.mx),(.bool N.neg)]) (b:=bo) rfl Ad AH rfl (Bo.cells rfl) ?_)))));exact ⟨⟨_,rfl,AS.mono (fun y hy=>by rcases hy with h1|h1;exact .inl h1;exact .inr qO) _ ca⟩,E⟩
   ·refine AA (qV (Aj rfl rfl) (qA _ rfl (AB (qC rfl (fun h5=>?_) (fun h5=>?_)))))
    ·have bm:=hp.one qO;obtain ⟨x,hx⟩:=AX (l:=t.args) (i:=0) qO;have bi:=List.mem_of_getElem? hx;have b2:=ha x bi;have bj:t.args.headD BB=x:=GN hx;obtain ⟨ab,ao,cd,rfl,an⟩:=ap.resolve_left (fun h=>by rw[h] at hx;cases hx);obtain ⟨us,be,ar⟩:=an.get hx;have am:=ar;obtain ⟨ag,ah,ai,af,rfl,_,aq,al⟩:=ar.form;refine AA (qF br 0 2 rfl underlying25 rfl CG rfl (qV (AL rfl B0 (Br.cell rfl)) (qV (AN (b:=ab) (o:=ao) (len:=t.args.length) (cap:=ac) (i:=0) (o':=ao+0*6) rfl rfl rfl underlying23 AH qO qO) (qV (AK rfl Ad AH rfl (be.ext E)) ?_))));have bq:=hN.trans (YX h5 bj);refine As (v:=(.agg (R6 x ag ah ai af))) (c:=(R6 x ag ah ai af)) (n:=6) qD A9 rfl AH rfl rfl rfl qS ?_;intro bx wx Nx;have Fx:=Nx.ge E;have Ox_br:=Nx.lt Br;have Ox_bo:=Nx.lt Bo;replace Br:=Nx.keep Br;replace Bo:=Nx.keep Bo;replace E:=E.ext Nx.ext;have Bx:=Nx.blk;refine AB (AA (qF bx 0 0 rfl underlying25 rfl Ay rfl (qV (AL rfl Al (Bx.cell rfl)) (AB (AU (AG (AA (qV (Aj rfl rfl) (qA _ rfl (AB (qC rfl (fun k0=>?_) (fun k0=>?_))))))))))))
     ·have cc:=decide_eq_true k0;have ad:N=BP:=by rw[bq,if_pos (.inl k0)]
      refine AO (AC (Az (BC cc) (AA (qE rfl (AI func146 kQ kQ rfl) (FO _) ?_))));rintro _ bn ⟨rfl,ae⟩;replace Br:=ae.keep Br;replace Bo:=ae.keep Bo;replace Bx:=ae.keep Bx;replace E:=E.ext ae;refine Ab (b:=bo) (o:=0) (c':=#[(I6 1),(.slice none 0 0),(.slice none 0 0),(I6 0),(I6 0),(.bool false)]) rfl rfl qS AH rfl Bo qL rfl ?_;intro w11 bs;replace Br:=bs.keep qO Br;replace Bx:=bs.keep qO Bx;replace E:=bs.step E qQ;replace Bo:=bs.blk;refine AB (AJ (Ac (Ac (AP (A1 results113 (vs:=[(.int .i64 1),(.slice none 0 0),(.slice none 0 0),(.int .i64 0),(.int .i64 0),(.bool false)]) (b:=bo) rfl Ad AH rfl (Bo.cells rfl) ?_)))));exact ⟨⟨_,rfl,by rw[ad];exact Cn _ _ _⟩,E⟩
     ·have cc:=decide_eq_false k0;refine AR (qV (Aj rfl rfl) (qA _ rfl (AB (AC (qC rfl (fun k1=>?_) (fun k1=>?_))))))
      ·have ad:N=BP:=by rw[bq,if_pos (.inr k1)]
       refine AA (qE rfl (AI func146 kQ kQ rfl) (FO _) ?_);rintro _ bn ⟨rfl,ae⟩;replace Br:=ae.keep Br;replace Bo:=ae.keep Bo;replace Bx:=ae.keep Bx;replace E:=E.ext ae;refine Ab (b:=bo) (o:=0) (c':=#[(I6 1),(.slice none 0 0),(.slice none 0 0),(I6 0),(I6 0),(.bool false)]) rfl rfl qS AH rfl Bo qL rfl ?_;intro w13 bt;replace Br:=bt.keep qO Br;replace Bx:=bt.keep qO Bx;replace E:=bt.step E qQ;replace Bo:=bt.blk;refine AB (AJ (Ac (Ac (AP (A1 results113 (vs:=[(.int .i64 1),(.slice none 0 0),(.slice none 0 0),(.int .i64 0),(.int .i64 0),(.bool false)]) (b:=bo) rfl Ad AH rfl (Bo.cells rfl) ?_)))));exact ⟨⟨_,rfl,by rw[ad];exact Cn _ _ _⟩,E⟩
      ·refine AA (qV (Aj rfl rfl) (qA _ rfl (AB (qC rfl (fun k5=>?_) (fun k5=>?_)))))
       ·have ad:N=x:=by rw[bq,if_neg qO,if_pos k5]
        have hR:AS S (wx) x _:=AS.ext E x am;refine AA (qV (AK (vs:=[(I6 x.kind),(.slice ag x.set.length ah),(.slice ai x.args.length af),(I6 x.mn),(I6 x.mx),(.bool x.neg)]) rfl Ad AH rfl (Bx.cells rfl)) (Ab (b:=bo) (o:=0) (c':=(R6 x ag ah ai af)) rfl rfl qS AH rfl Bo qL rfl ?_));intro w15 bh;replace hR:=AS.chg bh.chg (fun y hy h=>by have h2:y=bo:=h;have:=hS y hy;omega) x hR;replace Br:=bh.keep qO Br;replace Bx:=bh.keep qO Bx;replace E:=bh.step E qQ;replace Bo:=bh.blk;refine AB (AJ (Ac (Ac (AP (A1 results113 (vs:=[(.int .i64 x.kind),(.slice ag x.set.length ah),(.slice ai x.args.length af),(.int .i64 x.mn),(.int .i64 x.mx),(.bool x.neg)]) (b:=bo) rfl Ad AH rfl (Bo.cells rfl) ?_)))));exact ⟨⟨_,rfl,by rw[ad];exact AS.mono (fun y hy=>.inl hy) x hR⟩,E⟩
       ·have ad:N=t:=by rw[bq,if_neg qO,if_neg k5]
        have hR:AS S (wx) t _:=AS.ext E t bb;refine AO (AQ (AQ (AC (AA (qV (AK (vs:=[(I6 t.kind),(.slice sa t.set.length sc),(.slice (some ⟨ab,ao,none⟩) t.args.length ac),(I6 t.mn),(I6 t.mx),(.bool t.neg)]) rfl Ad AH rfl (Br.cells rfl)) (Ab (b:=bo) (o:=0) (c':=(R6 t sa sc (some ⟨ab,ao,none⟩) ac)) rfl rfl qS AH rfl Bo qL rfl ?_))))));intro w16 bk;replace hR:=AS.chg bk.chg (fun y hy h=>by have h2:y=bo:=h;have:=hS y hy;omega) t hR;replace Br:=bk.keep qO Br;replace Bx:=bk.keep qO Bx;replace E:=bk.step E qQ;replace Bo:=bk.blk;refine AB (AJ (A1 results113 (vs:=[(.int .i64 t.kind),(.slice sa t.set.length sc),(.slice (some ⟨ab,ao,none⟩) t.args.length ac),(.int .i64 t.mn),(.int .i64 t.mx),(.bool t.neg)]) (b:=bo) rfl Ad AH rfl (Bo.cells rfl) ?_));exact ⟨⟨_,rfl,by rw[ad];exact AS.mono (fun y hy=>.inl hy) t hR⟩,E⟩
    ·refine AA (qV (Aj rfl rfl) (qA _ rfl (AB (qC rfl (fun h6=>?_) (fun h6=>?_)))))
     ·have bm:=hp.one qO;obtain ⟨x,hx⟩:=AX (l:=t.args) (i:=0) qO;have bi:=List.mem_of_getElem? hx;have b2:=ha x bi;have bj:t.args.headD BB=x:=GN hx;obtain ⟨ab,ao,cd,rfl,an⟩:=ap.resolve_left (fun h=>by rw[h] at hx;cases hx);obtain ⟨us,be,ar⟩:=an.get hx;have am:=ar;obtain ⟨ag,ah,ai,af,rfl,_,aq,al⟩:=ar.form;refine AA (qF br 0 2 rfl underlying25 rfl CG rfl (qV (AL rfl B0 (Br.cell rfl)) (qV (AN (b:=ab) (o:=ao) (len:=t.args.length) (cap:=ac) (i:=0) (o':=ao+0*6) rfl rfl rfl underlying23 AH qO qO) (qV (AK rfl Ad AH rfl (be.ext E)) ?_))));have a5:=hN.trans (YW h6 bj);refine As (v:=(.agg (R6 x ag ah ai af))) (c:=(R6 x ag ah ai af)) (n:=6) qD A9 rfl AH rfl rfl rfl qS ?_;intro bx wx Nx;have Fx:=Nx.ge E;have Ox_br:=Nx.lt Br;have Ox_bo:=Nx.lt Bo;replace Br:=Nx.keep Br;replace Bo:=Nx.keep Bo;replace E:=E.ext Nx.ext;have Bx:=Nx.blk;refine AB (AU (AA (qF br 0 4 rfl underlying25 rfl Ay rfl (qV (AL rfl Al (Br.cell rfl)) (qV (Aj rfl rfl) (qM _ rfl ?_))))));rcases Bool.eq_false_or_eq_true (decide ((t.mx:Int)=0)) with gm|gm
      ·have a9:=gm;replace a9:=of_decide_eq_true a9;have ad:N=BP:=by rw[a5,if_pos (.inl a9)]
       refine AE rfl rfl qD (v:=.bool true) (BC gm) (Or.inl rfl) (AE rfl rfl qD (v:=.bool true) (BC gm) (Or.inl rfl) (AE rfl rfl qD (v:=.bool true) (BC gm) (Or.inl rfl) (qV (Aq (v:=(.bool true)) rfl (by rw[gm];rfl)) (qM _ rfl (AE rfl rfl qD (v:=.bool true) rfl (Or.inl rfl) (AE rfl rfl qD (v:=.bool true) rfl (Or.inl rfl) (AE rfl rfl qD (v:=.bool true) rfl (Or.inl rfl) (AE rfl rfl qD (v:=.bool true) rfl (Or.inl rfl) (AE rfl rfl qD (v:=undef) rfl (Or.inr rfl) (AE rfl rfl qD (v:=undef) rfl (Or.inr rfl) (AE rfl rfl qD (v:=undef) rfl (Or.inr rfl) (AE rfl rfl qD (v:=.bool true) rfl (Or.inl rfl) (qV (Aq rfl rfl) (qA _ rfl ?_))))))))))))));refine AB (Az rfl (AA (qE rfl (AI func146 kQ kQ rfl) (FO _) ?_)));rintro _ bn ⟨rfl,ae⟩;replace Br:=ae.keep Br;replace Bo:=ae.keep Bo;replace Bx:=ae.keep Bx;replace E:=E.ext ae;refine Ab (b:=bo) (o:=0) (c':=#[(I6 1),(.slice none 0 0),(.slice none 0 0),(I6 0),(I6 0),(.bool false)]) rfl rfl qS AH rfl Bo qL rfl ?_;intro w19 b4;replace Br:=b4.keep qO Br;replace Bx:=b4.keep qO Bx;replace E:=b4.step E qQ;replace Bo:=b4.blk;refine AB (AJ (Ac (Ac (AP (A1 results113 (vs:=[(.int .i64 1),(.slice none 0 0),(.slice none 0 0),(.int .i64 0),(.int .i64 0),(.bool false)]) (b:=bo) rfl Ad AH rfl (Bo.cells rfl) ?_)))));exact ⟨⟨_,rfl,by rw[ad];exact Cn _ _ _⟩,E⟩
      ·have a9:=gm;replace a9:=of_decide_eq_false a9;refine AF rfl rfl qD (BC gm) (qF bx 0 0 rfl underlying25 rfl Ay rfl (AF rfl rfl qD (BC gm) (qV (AL rfl Al (Bx.cell rfl)) (AF rfl rfl qD (BC gm) (qV (Aj rfl rfl) (qV (Aq (v:=(.bool (decide ((x.kind:Int)=1)))) rfl (by rw[gm];rfl)) (qM _ rfl ?_)))))));rcases Bool.eq_false_or_eq_true (decide ((x.kind:Int)=1)) with g1|g1
       ·have ba:=g1;replace ba:=of_decide_eq_true ba;have ad:N=BP:=by rw[a5,if_pos (.inr (.inl ba))]
        refine AE rfl rfl qD (v:=.bool true) (BC g1) (Or.inl rfl) (AE rfl rfl qD (v:=.bool true) (BC g1) (Or.inl rfl) (AE rfl rfl qD (v:=.bool true) (BC g1) (Or.inl rfl) (AE rfl rfl qD (v:=.bool true) (BC g1) (Or.inl rfl) (AE rfl rfl qD (v:=undef) rfl (Or.inr rfl) (AE rfl rfl qD (v:=undef) rfl (Or.inr rfl) (AE rfl rfl qD (v:=undef) rfl (Or.inr rfl) (AE rfl rfl qD (v:=.bool true) (BC g1) (Or.inl rfl) (qV (Aq (v:=(.bool true)) rfl (by rw[g1];rfl)) (qA _ rfl (AB (Az rfl (AA (qE rfl (AI func146 kQ kQ rfl) (FO _) ?_)))))))))))));rintro _ bn ⟨rfl,ae⟩;replace Br:=ae.keep Br;replace Bo:=ae.keep Bo;replace Bx:=ae.keep Bx;replace E:=E.ext ae;refine Ab (b:=bo) (o:=0) (c':=#[(I6 1),(.slice none 0 0),(.slice none 0 0),(I6 0),(I6 0),(.bool false)]) rfl rfl qS AH rfl Bo qL rfl ?_;intro w21 b5;replace Br:=b5.keep qO Br;replace Bx:=b5.keep qO Bx;replace E:=b5.step E qQ;replace Bo:=b5.blk;refine AB (AJ (Ac (Ac (AP (A1 results113 (vs:=[(.int .i64 1),(.slice none 0 0),(.slice none 0 0),(.int .i64 0),(.int .i64 0),(.bool false)]) (b:=bo) rfl Ad AH rfl (Bo.cells rfl) ?_)))));exact ⟨⟨_,rfl,by rw[ad];exact Cn _ _ _⟩,E⟩
       ·have ba:=g1;replace ba:=of_decide_eq_false ba;refine AF rfl rfl qD (BC g1) (qF bx 0 0 rfl underlying25 rfl Ay rfl (AF rfl rfl qD (BC g1) (qV (AL rfl Al (Bx.cell rfl)) (AF rfl rfl qD (BC g1) (qV (Aj rfl rfl) (AF rfl rfl qD (BC g1) (qM _ rfl ?_)))))));rcases Bool.eq_false_or_eq_true (decide ((x.kind:Int)=0)) with g0|g0
        ·have ay:=g0;replace ay:=of_decide_eq_true ay;refine AF rfl rfl qD (BC g0) (qF br 0 3 rfl underlying25 rfl Ay rfl (AF rfl rfl qD (BC g0) (qV (AL rfl Al (Br.cell rfl)) (AF rfl rfl qD (BC g0) (qV (Aj rfl rfl) (AF rfl rfl qD (BC g1) (qV (Aq (v:=(.bool (decide ((t.mn:Int)=0)))) rfl (by rw[g0];rfl)) (qV (Aq (v:=(.bool (decide ((t.mn:Int)=0)))) rfl (by rw[g1];rfl)) (qA _ rfl (AB (qC rfl (fun gz=>?_) (fun gz=>?_))))))))))))
         ·have ad:N=BP:=by rw[a5,if_pos (.inr (.inr ⟨ay,gz⟩))]
          refine AA (qE rfl (AI func146 kQ kQ rfl) (FO _) ?_);rintro _ bn ⟨rfl,ae⟩;replace Br:=ae.keep Br;replace Bo:=ae.keep Bo;replace Bx:=ae.keep Bx;replace E:=E.ext ae;refine Ab (b:=bo) (o:=0) (c':=#[(I6 1),(.slice none 0 0),(.slice none 0 0),(I6 0),(I6 0),(.bool false)]) rfl rfl qS AH rfl Bo qL rfl ?_;intro w24 b0;replace Br:=b0.keep qO Br;replace Bx:=b0.keep qO Bx;replace E:=b0.step E qQ;replace Bo:=b0.blk;refine AB (AJ (Ac (Ac (AP (A1 results113 (vs:=[(.int .i64 1),(.slice none 0 0),(.slice none 0 0),(.int .i64 0),(.int .i64 0),(.bool false)]) (b:=bo) rfl Ad AH rfl (Bo.cells rfl) ?_)))));exact ⟨⟨_,rfl,by rw[ad];exact Cn _ _ _⟩,E⟩
         ·refine AA (qF bx 0 0 rfl underlying25 rfl Ay rfl (qV (AL rfl Al (Bx.cell rfl)) (qV (Aj rfl rfl) (qM _ rfl (AE rfl rfl qD (v:=.bool true) (BC g0) (Or.inl rfl) (AE rfl rfl qD (v:=.bool true) (BC g0) (Or.inl rfl) (AE rfl rfl qD (v:=.bool true) (BC g0) (Or.inl rfl) (AE rfl rfl qD (v:=.bool true) (BC g0) (Or.inl rfl) (AE rfl rfl qD (v:=undef) rfl (Or.inr rfl) (AE rfl rfl qD (v:=undef) rfl (Or.inr rfl) (AE rfl rfl qD (v:=undef) rfl (Or.inr rfl) (AE rfl rfl qD (v:=.bool true) (BC g0) (Or.inl rfl) (qV (Aq (v:=(.bool true)) rfl (by rw[g0];rfl)) (qA _ rfl ?_))))))))))))));refine AB (Az rfl (AA (qV (AK (vs:=[(I6 x.kind),(.slice ag x.set.length ah),(.slice ai x.args.length af),(I6 x.mn),(I6 x.mx),(.bool x.neg)]) rfl Ad AH rfl (Bx.cells rfl)) (Ab (b:=bo) (o:=0) (c':=(R6 x ag ah ai af)) rfl rfl qS AH rfl Bo qL rfl ?_))));intro c9 bu;replace Br:=bu.keep qO Br;replace Bx:=bu.keep qO Bx;replace E:=bu.step E qQ;replace Bo:=bu.blk;refine AB (AJ (Ac (Ac (AP (A1 results113 (vs:=[(.int .i64 x.kind),(.slice ag x.set.length ah),(.slice ai x.args.length af),(.int .i64 x.mn),(.int .i64 x.mx),(.bool x.neg)]) (b:=bo) rfl Ad AH rfl (Bo.cells rfl) ?_)))));have ad:N=x:=by rw[a5,if_neg qO,if_pos (.inl ay)]
          have hR:AS S (c9) x _:=AS.ext E x am;exact ⟨⟨_,rfl,by rw[ad];exact AS.mono (fun y hy=>.inl hy) x hR⟩,E⟩
        ·have ay:=g0;replace ay:=of_decide_eq_false ay;refine AE rfl rfl qD (v:=.bool false) (BC g0) (Or.inl rfl) (AE rfl rfl qD (v:=.bool false) (BC g0) (Or.inl rfl) (AE rfl rfl qD (v:=.bool false) (BC g0) (Or.inl rfl) (AF rfl rfl qD (BC g1) (qV (Aq (v:=(.bool false)) rfl (by rw[g0];rfl)) (qV (Aq (v:=(.bool false)) rfl (by rw[g1];rfl)) (qA _ rfl (AB (Ah rfl (AA (qF bx 0 0 rfl underlying25 rfl Ay rfl (qV (AL rfl Al (Bx.cell rfl)) (qV (Aj rfl rfl) (qM _ rfl (AF rfl rfl qD (BC g0) ?_))))))))))))));refine qF br 0 3 rfl underlying25 rfl Ay rfl (AF rfl rfl qD (BC g0) (qV (AL rfl Al (Br.cell rfl)) (AF rfl rfl qD (BC g0) (qV (Aj rfl rfl) (AF rfl rfl qD (BC g0) (qM _ rfl ?_))))));rcases Bool.eq_false_or_eq_true (decide ((t.mn:Int)=1)) with g2|g2
         ·have a8:=g2;replace a8:=of_decide_eq_true a8;refine AF rfl rfl qD (BC g2) (qF br 0 4 rfl underlying25 rfl Ay rfl (AF rfl rfl qD (BC g2) (qV (AL rfl Al (Br.cell rfl)) (AF rfl rfl qD (BC g2) (qV (Aj rfl rfl) (AF rfl rfl qD (BC g0) (qV (Aq (v:=(.bool (decide ((t.mx:Int)=1)))) rfl (by rw[g2];rfl)) (qV (Aq (v:=(.bool (decide ((t.mx:Int)=1)))) rfl (by rw[g0];rfl)) (qA _ rfl (AB (qC rfl (fun g3=>?_) (fun g3=>?_))))))))))))
          ·have ad:N=x:=by rw[a5,if_neg qO,if_pos (.inr ⟨a8,g3⟩)]
           have hR:AS S (wx) x _:=AS.ext E x am;refine AA (qV (AK (vs:=[(I6 x.kind),(.slice ag x.set.length ah),(.slice ai x.args.length af),(I6 x.mn),(I6 x.mx),(.bool x.neg)]) rfl Ad AH rfl (Bx.cells rfl)) (Ab (b:=bo) (o:=0) (c':=(R6 x ag ah ai af)) rfl rfl qS AH rfl Bo qL rfl ?_));intro w28 bp;replace hR:=AS.chg bp.chg (fun y hy h=>by have h2:y=bo:=h;have:=hS y hy;omega) x hR;replace Br:=bp.keep qO Br;replace Bx:=bp.keep qO Bx;replace E:=bp.step E qQ;replace Bo:=bp.blk;refine AB (AJ (Ac (Ac (AP (A1 results113 (vs:=[(.int .i64 x.kind),(.slice ag x.set.length ah),(.slice ai x.args.length af),(.int .i64 x.mn),(.int .i64 x.mx),(.bool x.neg)]) (b:=bo) rfl Ad AH rfl (Bo.cells rfl) ?_)))));exact ⟨⟨_,rfl,by rw[ad];exact AS.mono (fun y hy=>.inl hy) x hR⟩,E⟩
          ·have ad:N=t:=by rw[a5,if_neg qO,if_neg qO]
           have hR:AS S (wx) t _:=AS.ext E t bb;refine AO (AQ (AQ (AC (AA (qV (AK (vs:=[(I6 t.kind),(.slice sa t.set.length sc),(.slice (some ⟨ab,ao,none⟩) t.args.length ac),(I6 t.mn),(I6 t.mx),(.bool t.neg)]) rfl Ad AH rfl (Br.cells rfl)) (Ab (b:=bo) (o:=0) (c':=(R6 t sa sc (some ⟨ab,ao,none⟩) ac)) rfl rfl qS AH rfl Bo qL rfl ?_))))));intro bn bd;replace hR:=AS.chg bd.chg (fun y hy h=>by have h2:y=bo:=h;have:=hS y hy;omega) t hR;replace Br:=bd.keep qO Br;replace Bx:=bd.keep qO Bx;replace E:=bd.step E qQ;replace Bo:=bd.blk;refine AB (AJ (A1 results113 (vs:=[(.int .i64 t.kind),(.slice sa t.set.length sc),(.slice (some ⟨ab,ao,none⟩) t.args.length ac),(.int .i64 t.mn),(.int .i64 t.mx),(.bool t.neg)]) (b:=bo) rfl Ad AH rfl (Bo.cells rfl) ?_));exact ⟨⟨_,rfl,by rw[ad];exact AS.mono (fun y hy=>.inl hy) t hR⟩,E⟩
         ·have a8:=g2;replace a8:=of_decide_eq_false a8;have ad:N=t:=by rw[a5,if_neg qO,if_neg qO]
          have hR:AS S (wx) t _:=AS.ext E t bb;refine AE rfl rfl qD (v:=.bool false) (BC g2) (Or.inl rfl) (AE rfl rfl qD (v:=.bool false) (BC g2) (Or.inl rfl) (AE rfl rfl qD (v:=.bool false) (BC g2) (Or.inl rfl) (AF rfl rfl qD (BC g0) (qV (Aq (v:=(.bool false)) rfl (by rw[g2];rfl)) (qV (Aq (v:=(.bool false)) rfl (by rw[g0];rfl)) (qA _ rfl (AB (Ah rfl (AO (AQ (AQ (AC (AA (qV (AK (vs:=[(I6 t.kind),(.slice sa t.set.length sc),(.slice (some ⟨ab,ao,none⟩) t.args.length ac),(I6 t.mn),(I6 t.mx),(.bool t.neg)]) rfl Ad AH rfl (Br.cells rfl)) (Ab (b:=bo) (o:=0) (c':=(R6 t sa sc (some ⟨ab,ao,none⟩) ac)) rfl rfl qS AH rfl Bo qL rfl ?_)))))))))))))));intro w30 bl;replace hR:=AS.chg bl.chg (fun y hy h=>by have h2:y=bo:=h;have:=hS y hy;omega) t hR;replace Br:=bl.keep qO Br;replace Bx:=bl.keep qO Bx;replace E:=bl.step E qQ;replace Bo:=bl.blk;refine AB (AJ (A1 results113 (vs:=[(.int .i64 t.kind),(.slice sa t.set.length sc),(.slice (some ⟨ab,ao,none⟩) t.args.length ac),(.int .i64 t.mn),(.int .i64 t.mx),(.bool t.neg)]) (b:=bo) rfl Ad AH rfl (Bo.cells rfl) ?_));exact ⟨⟨_,rfl,by rw[ad];exact AS.mono (fun y hy=>.inl hy) t hR⟩,E⟩
     ·refine AA (qV (Aj rfl rfl) (qA _ rfl (AB (qC rfl (fun h8=>?_) (fun h8=>?_)))))
      ·have bm:=hp.one qO;obtain ⟨x,hx⟩:=AX (l:=t.args) (i:=0) qO;have bi:=List.mem_of_getElem? hx;have b2:=ha x bi;have bj:t.args.headD BB=x:=GN hx;obtain ⟨ab,ao,cd,rfl,an⟩:=ap.resolve_left (fun h=>by rw[h] at hx;cases hx);obtain ⟨us,be,ar⟩:=an.get hx;have am:=ar;obtain ⟨ag,ah,ai,af,rfl,_,aq,al⟩:=ar.form;refine AA (qF br 0 2 rfl underlying25 rfl CG rfl (qV (AL rfl B0 (Br.cell rfl)) (qV (AN (b:=ab) (o:=ao) (len:=t.args.length) (cap:=ac) (i:=0) (o':=ao+0*6) rfl rfl rfl underlying23 AH qO qO) (qV (AK rfl Ad AH rfl (be.ext E)) ?_))));have ch:=hN.trans (YU h8 bj);refine As (v:=(.agg (R6 x ag ah ai af))) (c:=(R6 x ag ah ai af)) (n:=6) qD A9 rfl AH rfl rfl rfl qS ?_;intro bx wx Nx;have Fx:=Nx.ge E;have Ox_br:=Nx.lt Br;have Ox_bo:=Nx.lt Bo;replace Br:=Nx.keep Br;replace Bo:=Nx.keep Bo;replace E:=E.ext Nx.ext;have Bx:=Nx.blk;refine AB (AA (qF bx 0 0 rfl underlying25 rfl Ay rfl (qV (AL rfl Al (Bx.cell rfl)) (qV (Aj rfl rfl) (AB (qC rfl (fun k8=>?_) (fun k8=>?_)))))))
       ·obtain ⟨y,hy⟩:=AX (l:=x.args) (i:=0) (List.length_pos_iff.2 ((Cm b2).2 k8));obtain ⟨yb,yo,hyb,rfl,bc⟩:=al.resolve_left ((Cm b2).2 k8);have ck:=AM hy;obtain ⟨ys,cl,cf⟩:=bc.get hy;have b7:=cf;obtain ⟨cg,cb,ce,ci,rfl,_,_,_⟩:=cf.form;refine AA (qF bx 0 2 rfl underlying25 rfl CG rfl (qV (AL rfl B0 (Bx.cell rfl)) (qV (AN (b:=yb) (o:=yo) (len:=x.args.length) (cap:=af) (i:=0) (o':=yo+0*6) rfl rfl rfl underlying23 AH qO qO) (qV (AK rfl Ad AH rfl (cl.ext E)) ?_))));have ad:N=y:=by rw[ch,if_pos k8,GN hy]
        have hR:AS S (wx) y _:=AS.ext E y b7;refine Ab (b:=bo) (o:=0) (c':=(R6 y cg cb ce ci)) rfl rfl qS AH rfl Bo qL rfl ?_;intro w33 bg;replace hR:=AS.chg bg.chg (fun y hy h=>by have h2:y=bo:=h;have:=hS y hy;omega) y hR;replace Br:=bg.keep qO Br;replace Bx:=bg.keep qO Bx;replace E:=bg.step E qQ;replace Bo:=bg.blk;refine AB (AJ (Ac (AP (A1 results113 (vs:=[(.int .i64 y.kind),(.slice cg y.set.length cb),(.slice ce y.args.length ci),(.int .i64 y.mn),(.int .i64 y.mx),(.bool y.neg)]) (b:=bo) rfl Ad AH rfl (Bo.cells rfl) ?_))));exact ⟨⟨_,rfl,by rw[ad];exact AS.mono (fun y hy=>.inl hy) y hR⟩,E⟩
       ·have ad:N=t:=by rw[ch,if_neg k8]
        have hR:AS S (wx) t _:=AS.ext E t bb;refine AO (AQ (AC (AA (qV (AK (vs:=[(I6 t.kind),(.slice sa t.set.length sc),(.slice (some ⟨ab,ao,none⟩) t.args.length ac),(I6 t.mn),(I6 t.mx),(.bool t.neg)]) rfl Ad AH rfl (Br.cells rfl)) (Ab (b:=bo) (o:=0) (c':=(R6 t sa sc (some ⟨ab,ao,none⟩) ac)) rfl rfl qS AH rfl Bo qL rfl ?_)))));intro w34 bf;replace hR:=AS.chg bf.chg (fun y hy h=>by have h2:y=bo:=h;have:=hS y hy;omega) t hR;replace Br:=bf.keep qO Br;replace Bx:=bf.keep qO Bx;replace E:=bf.step E qQ;replace Bo:=bf.blk;refine AB (AJ (A1 results113 (vs:=[(.int .i64 t.kind),(.slice sa t.set.length sc),(.slice (some ⟨ab,ao,none⟩) t.args.length ac),(.int .i64 t.mn),(.int .i64 t.mx),(.bool t.neg)]) (b:=bo) rfl Ad AH rfl (Bo.cells rfl) ?_));exact ⟨⟨_,rfl,by rw[ad];exact AS.mono (fun y hy=>.inl hy) t hR⟩,E⟩
      ·have ad:N=t:=hN.trans (YT ⟨h3,h4,h5,h6,h7,h8⟩);have hR:AS S (wo) t _:=AS.ext E t bb;refine AO (AQ (AC (AA (qV (AK (vs:=[(I6 t.kind),(.slice sa t.set.length sc),(.slice aa t.args.length ac),(I6 t.mn),(I6 t.mx),(.bool t.neg)]) rfl Ad AH rfl (Br.cells rfl)) (Ab (b:=bo) (o:=0) (c':=(R6 t sa sc aa ac)) rfl rfl qS AH rfl Bo qL rfl ?_)))));intro w35 bz;replace hR:=AS.chg bz.chg (fun y hy h=>by have h2:y=bo:=h;have:=hS y hy;omega) t hR;replace Br:=bz.keep qO Br;replace E:=bz.step E qQ;replace Bo:=bz.blk;refine AB (AJ (A1 results113 (vs:=[(.int .i64 t.kind),(.slice sa t.set.length sc),(.slice aa t.args.length ac),(.int .i64 t.mn),(.int .i64 t.mx),(.bool t.neg)]) (b:=bo) rfl Ad AH rfl (Bo.cells rfl) ?_));exact ⟨⟨_,rfl,by rw[ad];exact AS.mono (fun y hy=>.inl hy) t hR⟩,E⟩
end Go.Proofs
namespace Go.Proofs
open Go Go.Eng Go.Sort
section
variable {P : Program} {N : Nat} {Q : Dn} {σ : CC} {w : World} {K : CC → World → Prop} {ops : Array Oper} {rest : List Oper} {d : Nat} {ty : TypeId} {pos : String} {af : Array Edge} {t : TypeId} {x y : Operand}
theorem Wb {e bytes n:Nat} {z:Value} (s:d<N) (r:P.underlying t=some (.slice e)) (a:Df P e 1) (c:LS P e bytes) (f:Ex P e z) (l:z.cells=#[z]) (p:ev σ x=.int .i64 ((n:Nat):Int)) (q:ev σ y=.int .i64 ((n:Nat):Int)) (hb:n*bytes<=140737488355328) (hn:n<=140737488355328)
 (k:∀b w',New w w' b (List.replicate n z).toArray e->DT P N ops K Q rest (Eo σ d (.slice (some ⟨b,0,none⟩) n n)) w'):DT P N ops K Q (⟨some d,.makeSlice t x y,ty,pos,af,none⟩::rest) σ w:=by
 refine Bn (v:=.slice (some ⟨w.heap.size,0,none⟩) n n) (w':={w with heap:=w.heap.push (.cells (List.replicate n z).toArray e (0,0))}) O O s ?_ (k _ _ (New.mk' w _ e));unfold Df at a;unfold LS at c;unfold Ex at f;cases hi:P.info? e with
 | none=>rw[hi] at a;simp at a
 | some i=>
 rw[hi] at a c f;simp at a c f;have h:=run_make (P:=P) w t e i _ r hi f .i64 .i64 ((n:Nat):Int) ((n:Nat):Int) qO (Int.le_refl _) (by rw[c];have:((bytes:Nat):Int)*((n:Nat):Int)=(((n*bytes:Nat):Nat):Int):=(by rw[Int.natCast_mul,Int.mul_comm]);rw[this];omega) qO;have o:madeCells z.cells (n*i.size)=(List.replicate n z).toArray:=by
  rw[a,Nat.mul_one,l];apply Array.ext';simp only[madeCells];apply List.ext_getElem?;intro j;simp only[Array.toList_map,List.getElem?_map,List.getElem?_replicate];rcases Nat.lt_or_ge j n with g|g
  .have m:(Array.range n).toList[j]?=some j:=by simp[g]
   rw[m,if_pos g];simp[Nat.mod_one]
  .have m:(Array.range n).toList[j]?=none:=by simp;omega
   rw[m,if_neg qO];rfl
 simp only[Int.toNat_natCast,o] at h;simp only[execOp,p,q,Sem.run_bind,h,Result.andThen_ok];rfl
theorem RV {e bytes n size base:Nat} {z:Value} (m:d<N) (o:P.underlying t=some (.slice e)) (a:Df P e size) (b:LS P e bytes) (g:Ex P e z) (j:ev σ x=.int .i64 0) (l:ev σ y=.int .i64 ((n:Nat):Int)) (hb:n*bytes<=140737488355328) (hn:n<=140737488355328) (f:base<=w.heap.size)
 (k:∀w',Ae w w'->w'.ownsRow base e size (.slice (some ⟨w.heap.size,0,none⟩) 0 n) 0 []->DT P N ops K Q rest (Eo σ d (.slice (some ⟨w.heap.size,0,none⟩) 0 n)) w'):DT P N ops K Q (⟨some d,.makeSlice t x y,ty,pos,af,none⟩::rest) σ w:=by
 unfold Df at a;unfold LS at b;unfold Ex at g;cases hi:P.info? e with
 | none=>rw[hi] at a;simp at a
 | some i=>
 rw[hi] at a b g;simp at a b g;have h:=run_make (P:=P) w t e i _ o hi g .i64 .i64 0 ((n:Nat):Int) qO qO (by rw[b];have:((bytes:Nat):Int)*((n:Nat):Int)=(((n*bytes:Nat):Nat):Int):=(by rw[Int.natCast_mul,Int.mul_comm]);rw[this];omega) qO;have c:=New.mk' w (madeCells z.cells (n*size)) e;refine Bn (v:=.slice (some ⟨w.heap.size,0,none⟩) 0 n) (w':={w with heap:=w.heap.push (.cells (madeCells z.cells (n*size)) e (0,0))}) O O m ?_ (k _ c.ext ⟨qP,.inr ⟨w.heap.size,n,madeCells z.cells (n*size),O,f,c.blk,Nat.zero_le _,by simp only[maxLen];omega,by simp[madeCells],qP⟩⟩);simp only[Int.toNat_natCast,a] at h;simp only[execOp,j,l,Sem.run_bind,h,Result.andThen_ok];rfl
theorem Kf {dst:Option Tmp} {g:Option (Nat×Bool)} {s:TypeId} {e:TypeId} {b n c:Nat} {l:List Int} (k:P.underlying s=some (.slice e)) (a:P.underlying e=some (.int .u8)) (f:P.underlying t=some .string) (d:ev σ x=.slice (some ⟨b,0,none⟩) n c)
 (m:BH w b (l.map (Value.int .u8)).toArray e) (q:l.length=n):(execOp (ev σ) ⟨dst,.convert s t x,ty,pos,af,g⟩).run P w=.ok (.value (.string (strOfNums l))) w:=by
 have h:=run_convert_bytes_arg (P:=P) w s e k a b 0 n c l q (λi hi=>by
  rw[Nat.zero_add];have p:l[i]?=some l[i]:=List.getElem?_eq_getElem qO;have j:=m.cell (o:=i) (v:=.int .u8 (l.getD i 0)) (by simp[List.getD,p]);exact j) t f
 simp only[execOp,d,Sem.run_bind,h,Result.andThen_ok];rfl
end
def SI (base e size n:Nat) (xs:List Value) (old:Value) (hs:Nat):G2:=λv w=>(∃a c,v=.slice a n c)∧w.ownsRow base e size v n xs∧∀k,v.ownBlock=some k->old.ownBlock=some k∨hs<=k
theorem LE (base e size n:Nat) (xs:List Value) (a:Value) (b:Nat):∀v w w',Ae w w'->SI base e size n xs a b v w->SI base e size n xs a b v w':=by
 rintro v w w' e ⟨c,d,f⟩;exact ⟨c,BG d e,f⟩
theorem NV {P:Program} {N:Nat} {σ:CC} {w:World} {dst:Option Tmp} {ty:TypeId} {pos:String} {af:Array Edge} {g:Option (Nat×Bool)} {M:Nat->Prop} {t:TypeId} {s x:Operand} {base e size bytes n m c D E Q:Nat} {z v:Value} {xs news:List Value} (G:P.underlying t=some (.slice e)) (f:Df P e size) (l:LS P e bytes) (A:Ex P e z) (B:z.cells.size=size) (R:0<size)
 (S:ev σ s=v) (o:w.ownsRow base e size v n xs) (T:ev σ x=.slice (some ⟨D,E,none⟩) m c) (K:news.length=m*size) (r:BA w D E news) (J:∀u∈news,u.oneCell'=true)
 (p:n+m<=maxLen) (a:(n+m)*bytes<=140737488355328) (q:base<=w.heap.size) (Z:∀y,v.ownBlock=some y->M y) (I:Q<=w.heap.size) :
 En M P N ⟨dst,.call ⟨.builtin .append,#[s,x],#[t,t]⟩,ty,pos,af,g⟩ (SI base e size (n+m) (xs++news) v Q) σ w:=by
 unfold Df at f;unfold LS at l;unfold Ex at A;cases hi:P.info? e with
 | none=>rw[hi] at f;simp at f
 | some i=>
 rw[hi] at f l A;simp at f l A;have d:∀j u,news[j]?=some u->w.cell? ((⟨D,E,none⟩:Addr).add j)=some u:=λj u U=>by rw[Addr.add_lit];exact r j u U
 obtain ⟨v',w',F,L,C,_⟩:=run_append_own (P:=P) w base t ty e i z size bytes G hi A f l B R v n xs o ⟨D,E,none⟩ m c news K d J p a q;have X:Chg (λx=>v.ownBlock=some x) w w':=⟨C.os,C.tape,C.output,Io (P:=P) G hi A f l o K d J p a F,C.size,λb hb hn=>C.block b hb (λh=>hn h.symm)⟩;have hW:=Im (P:=P) G hi A f l B R o K d J p a F;refine Ba (v:=v') (w':=w') (by simp[execOp,resolve,invoke,builtin,S,T,F]) (X.mono λy _ V=>Z y V) ⟨Be L,L,λk W=>?_⟩;rcases hW k W with H|H
 .exact .inl H
 .exact .inr (Nat.le_trans I H)
def Rk (e:Nat) (c:Array Value) (hs:Nat):G2:=λv w=>∃b,v=.slice (some ⟨b,0,none⟩) 1 1∧BH w b c e∧hs<=b
theorem Ko (e:Nat) (c:Array Value) (a:Nat):∀v w w',Ae w w'->Rk e c a v w->Rk e c a v w':=by
 rintro v w w' x ⟨b,d,f,g⟩;exact ⟨b,d,Ae.keep x f,g⟩
theorem SN {P:Program} {N:Nat} {σ:CC} {w:World} {dst:Option Tmp} {ty:TypeId} {pos:String} {af:Array Edge} {g:Option (Nat×Bool)} {M:Nat->Prop} {t e n d:Nat} {x:Operand} {v z:Value} {c:Array Value} (k:P.underlying t=some (.slice e)) (b:Df P e n) (m:Ex P e z) (j:ev σ x=v)
 (l:¬(1*n > 2 ^ 24)) (h:1*n≠0) (f:Instr.fill (λi=>some (i*n,n)) ((Array.range (1*n)).map (z.cells[· % z.cells.size]!)) [(0,v)]=some c) (a:d<=w.heap.size) :
 En M P N ⟨dst,.buildSlice t 1 #[(0,x)],ty,pos,af,g⟩ (Rk e c d) σ w:=by
 have hn:=New.mk' w c e;exact Ba (CV (parts:=[(0,x)]) (ps:=[(0,v)]) (by simp only[List.map,j]) k b m l h f) (Ae.chg hn.ext) ⟨_,O,hn.blk,a⟩
theorem TN {w:World} {b e base:Nat} {v:Value} (h:BH w b #[v] e) (hb:base<=b):w.ownsRow base e 1 (.slice (some ⟨b,0,none⟩) 1 1) 1 [v]:=
 ⟨O,.inr ⟨b,1,#[v],O,hb,h,Nat.le_refl _,qD,O,O⟩⟩
structure LSt (To e sz:Nat) (w:World) (base:Nat) (vo:Value) (vs:List Value) (ns:List (Nat×List Value)):Prop where
 o:w.ownsRow base To 1 vo ns.length vs
 len:vs.length=ns.length
 inn:∀(i:Nat) v p,vs[i]?=some v->ns[i]?=some p->w.ownsRow base e sz v p.1 p.2
 apo:∀(i:Nat) v b,vs[i]?=some v->v.ownBlock=some b->vo.ownBlock≠some b
theorem LSt.start (a e c:Nat) (w:World) (base:Nat):LSt a e c w base (.slice none 0 0) [] []:=
 ⟨World.ownsRow_nil _ _ _ _,O,λi v p h=>by simp at h,λi v b h=>by simp at h⟩
theorem LSt.chg {M:Nat->Prop} {m e j base:Nat} {w w':World} {p:Value} {vs:List Value} {g:List (Nat×List Value)} (h:LSt m e j w base p vs g) (c:Chg M w w') (n:∀b,base<=b->b<w.heap.size->¬M b):LSt m e j w' base p vs g:=
 ⟨Co h.o c λk a=>n k (h.o.lt k a).1 (h.o.lt k a).2,h.len,λi v l d f=>Co (h.inn i v l d f) c λk a=>n k ((h.inn i v l d f).lt k a).1 ((h.inn i v l d f).lt k a).2,h.apo⟩
theorem LSt.ext {a e d base:Nat} {w w':World} {g:Value} {vs:List Value} {b:List (Nat×List Value)} (h:LSt a e d w base g vs b) (c:Ae w w'):LSt a e d w' base g vs b:=h.chg c λ_ _ _ f=>f
theorem LSt.on {a e d base n:Nat} {w:World} {c:Value} {vs:List Value} {b:List (Nat×List Value)} (h:LSt a e d w base c vs b) (hn:n=b.length):w.ownsRow base a 1 c n vs:=by subst hn;exact h.o
theorem LSt.push {D e B base y n m:Nat} {w w':World} {r v' u:Value} {vs us:List Value} {s:List (Nat×List Value)} (h:LSt D e B w base r vs s) (hn:n=s.length) (A:w.ownsRow y e B u m us) (hb:base<=y) (t:∀k,r.ownBlock=some k->k<y)
 (G:w'.ownsRow base D 1 v' (n+1) (vs++[u])) (F:Chg (λx=>r.ownBlock=some x) w w') (E:∀k,v'.ownBlock=some k->r.ownBlock=some k∨w.heap.size<=k):LSt D e B w' base v' (vs++[u]) (s++[(m,us)]):=by
 have f:∀(i:Nat) v,(vs++[u])[i]?=some v->vs[i]?=some v∨(i=vs.length∧v=u):=by
  intro i v d;rcases Nat.lt_or_ge i vs.length with a|a
  .left;rwa [List.getElem?_append_left a] at d
  .right;rw[List.getElem?_append_right a] at d;have g:=AM d;simp at g;obtain rfl:i=vs.length:=qO
   simp at d;exact ⟨O,d.symm⟩
 have q:∀b,u.ownBlock=some b->r.ownBlock≠some b:=λb z H=>by
  have a:=t b H;have g:=(A.lt b z).1;omega
 refine ⟨by rw[List.length_append,<-hn];exact G,by simp[h.len],?_,?_⟩
 .intro i v p d j;rcases f i v d with a|⟨a,rfl⟩
  .rw[List.getElem?_append_left (by have:=AM a;have:=h.len;omega)] at j;exact Co (h.inn i v p a j) F λk C=>h.apo i v k a C
  .rw[a,h.len] at j;simp at j;subst j;exact M0 (Co A F λk C=>q k C) hb
 .intro i v b d c o;rcases f i v d with a|⟨_,rfl⟩
  .rcases E b o with g|g
   .exact h.apo i v b a c g
   .obtain ⟨p,j⟩:=AX (l:=s) (i:=i) (by have:=AM a;have:=h.len;omega);have:=((h.inn i v p a j).lt b c).2;omega
  .rcases E b o with g|g
   .exact q b c g
   .have:=(A.lt b c).2;omega
end Go.Proofs
namespace Go.Proofs
open Go Go.Eng Go.Sort
set_option maxRecDepth 100000
theorem RP (t:Re):CS t=EL (.mk t.kind t.set (t.args.map CS) t.mn t.mx t.neg):=QW t
theorem Je {S:Nat->Prop} {w:World} {a:List Re} {rows:List (List Value)} {x:Re} {r:List Value} (h:Ao S w a rows) (b:AS S w x r):Ao S w (a++[x]) (rows++[r]):=Ao.append (Ao.single b) h
theorem WT {T A:Nat->Prop} {w w':World} {b:Nat} {c:Array Value} {e:TypeId} (h:∀y,T y->A y∧y<w.heap.size) (x:Put w w' b c e):∀y,T y->A y∧y<w'.heap.size:=λy a=>⟨(h y a).1,Nat.lt_of_lt_of_le (h y a).2 x.chg.size⟩
theorem Iy {T A:Nat->Prop} {w w':World} (h:∀y,T y->A y∧y<w.heap.size) (x:Ae w w'):∀y,T y->A y∧y<w'.heap.size:=λy a=>⟨(h y a).1,Nat.lt_of_lt_of_le (h y a).2 x.size⟩
theorem KH {b:List Int}:∀{a:List Re} {i:Nat} {x:Re},DO b a=false->a[i]?=some x->C_ b x=false
 | [],i,x,_,h=>by simp at h
 | t::a,0,x,h,hx=>by simp at hx;subst hx;simp only[DO,Bool.or_eq_false_iff] at h;exact h.1
 | t::a,i+1,x,h,hx=>by simp only[DO,Bool.or_eq_false_iff] at h;exact KH h.2 (by simpa using hx)
theorem UL:∀(n:Nat) (t:Re) (w0:World) (S:Nat→Prop) (vs:List Value),t.size≤n→n≤1000000→CY t→C_ [9,10] t=false→AS S w0 t vs→(∀x,S x→x<w0.heap.size)→
    Bi prog 76 #[.agg vs.toArray] w0 fun r w=>(∃us,r=.agg us.toArray∧AS (fun b=>S b∨w0.heap.size≤b) w (CS t) us)∧Ae w0 w:=by
  intro n
  induction n with
  | zero=>intro t w0 S vs h;have:=t.size_pos;omega
  | succ n ih=>
  intro t w0 S vs hn hnb ak hu ht hS;have ht0:=ht;obtain ⟨sa,sc,aa,ac,rfl,aq,bj,ah⟩:=ht.form;have hal:=CR t;have ba:DO [9,10] t.args=false:=by cases t;exact (HL hu).2
  have bb:t.kind≠9∧t.kind≠10:=by cases t with|mk k s a m x g=>have h1:=(HL hu).1;constructor<;>intro e<;>simp only[Re.kind] at e<;>subst e<;>simp at h1
  have a0:=Ht (DL ak);rw[F_] at a0;have hsz:=t.size_eq;rw[RP];refine qR func76 rfl ntmps76 rfl (fun E=>(AA (BL (v:=(.agg (R6 t sa sc aa ac))) (c:=(R6 t sa sc aa ac)) qD rfl rfl ?_)));intro br wr Nr;have Fr:=Nr.ge E;replace E:=E.ext Nr.ext;have Br:=Nr.blk;refine Bg (c:=#[(I6 0),(.slice none 0 0),(.slice none 0 0),(I6 0),(I6 0),(.bool false)]) qD A9 rfl ?_;intro bo wo No;have Fo:=No.ge E;have Oo_br:=No.lt Br;replace Br:=No.keep Br;replace E:=E.ext No.ext;have Bo:=No.blk;refine AB (AA (qF br 0 2 rfl underlying25 rfl CG rfl (qV (AL rfl B0 (Br.cell rfl)) (qV (Aa underlying23 rfl) ?_))));obtain ⟨n1,am⟩:∃n1,n1=wo.heap.size:=⟨_,rfl⟩;have hob:br<n1∧bo<n1∧w0.heap.size≤bo∧w0.heap.size≤br∧w0.heap.size≤n1:=⟨by rw[am];exact Br.lt,by rw[am];exact Bo.lt,qO,qO,by rw[am];exact E.size⟩;have af:n1≤wo.heap.size:=qO
  refine RV (n:=t.args.length) (base:=n1) (size:=6) (bytes:=80) qD underlying23 AH LC A9 rfl rfl qO qO (af) ?_;intro w1 X1 bq;replace Br:=X1.keep Br;replace Bo:=X1.keep Bo;replace af:=Nat.le_trans af X1.size;replace E:=E.ext X1;refine qA _ rfl (AB (AG (AA (qF br 0 2 rfl underlying25 rfl CG rfl (qV (AL rfl B0 (Br.cell rfl)) (qV (Aa underlying23 rfl) (qM _ rfl (AB (AU (Av (fun nn_ σ W2=>∃(i:Nat) (la:Option Addr) (lc:Nat) (ad:List (List Value)) (T:Nat→Prop),(∃jj_,σ=Bj jj_ [(1,(P6 br 0)),(2,(P6 bo 0)),(11,(.slice aa t.args.length ac)),(12,(I6 (t.args.length:Int))),(13,(I6 (i:Int))),(3,(.slice la i lc))])∧Chg Ak w0 W2∧BH W2 br (R6 t sa sc aa ac) 25∧BH W2 bo #[(I6 0),(.slice none 0 0),(.slice none 0 0),(I6 0),(I6 0),(.bool false)] 25∧(i≤t.args.length)∧(W2.ownsRow n1 Hj 6 (.slice la i lc) i ad.flatten)∧(Ao T W2 ((t.args.take i).map CS) ad)∧(n1≤W2.heap.size)∧(∀y,T y→(S y∨n1≤y)∧y<W2.heap.size)∧(∀b,(Value.slice la i lc).ownBlock=some b→¬T b)∧nn_=t.args.length - i) (n:=t.args.length - 0) ?_ ?_))))))))))
  · exact ⟨0,some ⟨wo.heap.size,0,none⟩,t.args.length,[],(fun _=>False),Am.out ⟨rfl,rfl,rfl,rfl,rfl,rfl,trivial⟩,E,Br,Bo,Nat.zero_le _,bq,rfl,af,(fun y h=>h.elim),(fun b _ h=>h),rfl⟩
  · clear E Br Bo;rintro _ _ W2 ⟨i,la,lc,ad,T,⟨j2,rfl⟩,E,Br,Bo,hi,hO,hR,ae,hT,a2,rfl⟩;refine AA (qV (BE rfl rfl) (AB (AG (qC rfl (fun bm=>?_) (fun bm=>?_)))))
    · obtain ⟨x,hx⟩:=AX (l:=t.args) (i:=i) qO;have bk:=JA (DL ak) hx;have bl:C_ [9,10] x=false:=KH ba hx;have hxz:=Re.size_arg hx;obtain ⟨ab,ao,hab,rfl,ax⟩:=ah.resolve_left (fun h=>by rw[h] at hx;cases hx);obtain ⟨us,bh,bc⟩:=ax.get hx;have al:=bc;obtain ⟨av,a4,a6,az,rfl,_,_,_⟩:=bc.form;obtain ⟨M,hM⟩:∃M,M=CS x:=⟨_,rfl⟩;refine AO (AC (AG (AU (AA (qV (AN (b:=ab) (o:=ao) (len:=t.args.length) (cap:=ac) (i:=i) (o':=ao+i*6) rfl rfl rfl underlying23 AH qO qO) (qV (AK rfl Ad AH rfl (bh.ext E)) (As (v:=(.agg (R6 x av a4 a6 az))) (c:=(R6 x av a4 a6 az)) (n:=6) qD A9 rfl AH rfl rfl rfl qS ?_)))))));intro bu wu Nu;have Fu:=Nu.ge E;have Ou_br:=Nu.lt Br;have Ou_bo:=Nu.lt Bo;replace Br:=Nu.keep Br;replace Bo:=Nu.keep Bo;replace hO:=BG hO Nu.ext;replace hR:=Ao.ext Nu.ext hR;replace ae:=Nat.le_trans ae Nu.ext.size;replace hT:=Iy hT Nu.ext;replace E:=E.ext Nu.ext;have Bu:=Nu.blk;refine AB (AR (qM _ rfl (qV (AK (vs:=[(I6 x.kind),(.slice av x.set.length a4),(.slice a6 x.args.length az),(I6 x.mn),(I6 x.mx),(.bool x.neg)]) rfl Ad AH rfl (Bu.cells rfl)) ?_)));obtain ⟨n2,an⟩:∃n2,n2=(wu).heap.size:=⟨_,rfl⟩;have bf:n1≤n2:=by rw[an];exact ae
      have bt:∀b,(Value.slice la i lc).ownBlock=some b→n1≤b∧b<n2:=fun b hb=>⟨(hO.lt b hb).1,by rw[an];exact (hO.lt b hb).2⟩;refine qE rfl (AI func76 kQ kQ rfl) ((ih x _ S _ qO qO bk bl (AS.ext E x al) (fun y hy=>by have:=hS y hy;have:=E.size;omega)).mono (R':=fun r w=>E8 (fun b=>S b∨n2≤b) M r w∧Ae wu w) (fun r w h=>⟨Cx (S':=fun b=>S b∨_≤b) (fun b hb=>by rcases hb with h1|h1;exact .inl h1;exact .inr (by rw[an];exact h1)) (by rw[hM];exact h.1),h.2⟩)) ?_;rintro _ w9 ⟨⟨ma,mc,pa,pc,rfl,hX⟩,X9⟩;replace Br:=X9.keep Br;replace Bo:=X9.keep Bo;replace Bu:=X9.keep Bu;replace hO:=BG hO X9;replace hR:=Ao.ext X9 hR;replace ae:=Nat.le_trans ae X9.size;replace hT:=Iy hT X9;replace E:=E.ext X9;have aw:=AS.lt M hX;refine A3 (ps:=[(0,(.agg (R6 M ma mc pa pc)))]) (c:=(R6 M ma mc pa pc)) qD rfl underlying23 AH A9 qD qD qK ?_;intro bz wz Nz;have Fz:=Nz.ge E;have Oz_br:=Nz.lt Br;have Oz_bo:=Nz.lt Bo;have Oz_bu:=Nz.lt Bu;replace Br:=Nz.keep Br;replace Bo:=Nz.keep Bo;replace Bu:=Nz.keep Bu;replace hO:=BG hO Nz.ext;replace hR:=Ao.ext Nz.ext hR;replace ae:=Nat.le_trans ae Nz.ext.size;replace hT:=Iy hT Nz.ext;replace aw:=AS.ext Nz.ext M aw;replace E:=E.ext Nz.ext;have Bz:=Nz.blk;have hQ9:True:=trivial;refine CQ (base:=n1) (n:=i) (m:=1) (xs:=ad.flatten) (news:=[(I6 M.kind),(.slice ma M.set.length mc),(.slice pa M.args.length pc),(I6 M.mn),(I6 M.mx),(.bool M.neg)]) (size:=6) (bytes:=80) (v:=(.slice la i lc)) qD underlying23 AH LC A9 rfl qD rfl hO rfl (rfl) (Bz.cells rfl) qS (by unfold maxLen;omega) qO (ae) ?_;intro v9 a9 bd ag bn;replace Br:=ag.keep (fun h=>by have:=(hO.lt _ h).1;omega) Br;replace Bo:=ag.keep (fun h=>by have:=(hO.lt _ h).1;omega) Bo;replace E:=E.step ag (fun x hx h=>absurd (hO.lt x h).1 qO);obtain ⟨bp,bi,rfl⟩:=Be bd;have aj:∀y,(T y∨((S y∨n2≤y)∧y<w9.heap.size))→(S y∨n1≤y)∧y<(a9).heap.size∧(Value.slice la i lc).ownBlock≠some y:=by
        intro y hy;have bg:=Nz.ext.size;have hz2:=ag.size;rcases hy with hy|⟨hy,hy2⟩
        · exact ⟨(hT y hy).1,by have:=(hT y hy).2;omega,fun hb=>a2 y hb hy⟩
        · refine ⟨hy.imp id (fun h=>by have:=X9.size;omega),qO,fun hb=>?_⟩;have h9:=bt y hb;rcases hy with h1|h1
          · have:=hS y h1;omega
          · omega
      have bv:Ao (fun y=>T y∨((S y∨n2≤y)∧y<w9.heap.size)) (a9) ((t.args.take (i+1)).map CS) (ad++[[.int .i64 M.kind,.slice ma M.set.length mc,.slice pa M.args.length pc,.int .i64 M.mn,.int .i64 M.mx,.bool M.neg]]):=by
        rw[List.take_add_one,hx,Option.toList_some,List.map_append,List.map_cons,List.map_nil,←hM];exact Je (Ao.mono (fun y hy=>.inl hy) (Ao.chg ag (fun y hy hm=>a2 y hm hy) hR)) (AS.mono (fun y hy=>.inr hy) M (AS.chg ag (fun y hy hm=>(aj y (.inr hy)).2.2 hm) M aw))
      refine qA _ rfl (AB (AQ (AC (AR (qV (Ax rfl rfl (A8 qO)) (qM _ rfl (AB (AC ?_))))))));exact ⟨t.args.length - (i+1),qO,i+1,bp,bi,ad++[[.int .i64 M.kind,.slice ma M.set.length mc,.slice pa M.args.length pc,.int .i64 M.mn,.int .i64 M.mx,.bool M.neg]],(fun y=>T y∨((S y∨n2≤y)∧y<w9.heap.size)),Am.out ⟨rfl,rfl,rfl,rfl,rfl,rfl,trivial⟩,E,Br,Bo,qO,(by simpa using bd),bv,Nat.le_trans ae ag.size,(fun y hy=>⟨(aj y hy).1,(aj y hy).2.1⟩),(fun b hb hy=>by rcases bn b hb with h|h;exact (aj b hy).2.2 h;have bg:=Nz.ext.size;rcases hy with hy|hy;have:=(hT b hy).2;omega;have:=hy.2;omega),rfl⟩
    · have a8:i=t.args.length:=qO
      rw[a8] at hO hR a2;rw[a8];rw[List.take_length] at hR;refine Aw (AZ (AZ (Ap (AC (AA (qM _ rfl (qF br 0 2 rfl underlying25 rfl CG rfl (Bb (b:=br) (o:=2) (c':=(R6 t sa sc la lc)) (v:=(.slice la t.args.length lc)) rfl rfl rfl CG Br qP rfl ?_))))))));intro w4 S4;replace hO:=Co hO S4.chg (fun y hy h=>by have h2:y=br:=h;have:=(hO.lt y hy).1;omega);replace hR:=Ao.chg S4.chg (fun y hy h=>by have h2:y=br:=h;rcases (hT y hy).1 with h1|h1;have:=hS y h1;omega;omega) hR;replace hT:=WT hT S4;replace ae:=Nat.le_trans ae S4.chg.size;replace Bo:=S4.keep qO Bo;replace E:=S4.step E qQ;replace Br:=S4.blk;refine AB (AA (qV (AK (vs:=[(I6 t.kind),(.slice sa t.set.length sc),(.slice la t.args.length lc),(I6 t.mn),(I6 t.mx),(.bool t.neg)]) rfl Ad AH rfl (Br.cells rfl)) ?_));have ai:(t.args.map CS).length=t.args.length:=List.length_map _;obtain ⟨be,ar⟩:=HT hO hR ai;have bs:AS (fun y=>(S y∨n1≤y)∧y<(w4).heap.size) (w4) (.mk t.kind t.set (t.args.map CS) t.mn t.mx t.neg) [.int .i64 t.kind,.slice sa t.set.length sc,.slice la t.args.length lc,.int .i64 t.mn,.int .i64 t.mx,.bool t.neg]:=by
        have h9:=AS.of (S:=fun y=>(S y∨n1≤y)∧y<(w4).heap.size) (w:=w4) (k:=t.kind) (set:=t.set) (args:=t.args.map CS) (mn:=t.mn) (mx:=t.mx) (ng:=t.neg) (sa:=sa) (sc:=sc) (aa:=la) (ac:=lc) (BY.mono (BY.chg aq E (fun _ _ f=>f)) fun y hy=>⟨.inl hy,by have:=hS y hy;have:=E.size;omega⟩) (by rw[ai];exact be) (by
          rcases ar with h|⟨ob,a3,ay,ap,a5⟩
          · exact .inl h
          · exact .inr ⟨ob,0,⟨.inr a3,ay⟩,ap,FF fun i t ht=>by obtain ⟨vs,h6,h7⟩:=a5 i t ht;exact ⟨vs,h6,AS.mono (fun y hy=>hT y hy) t h7⟩⟩)
        rw[ai] at h9;exact h9
      obtain ⟨N,hN⟩:∃N,N=EL (.mk t.kind t.set (t.args.map CS) t.mn t.mx t.neg):=⟨_,rfl⟩;have a7:n1≤(w4).heap.size:=ae;refine qE rfl (AI func113 kQ kQ rfl) ((J8 _ _ _ _ bs (fun y hy=>hy.2) (Ph ak bb.1 bb.2 ai) (fun y hy=>KW (DL ak) ba y (by rw[F_];exact hy)) (by show Re.sizes (t.args.map CS)≤1000000;omega)).mono (R':=fun r w=>E8 (fun b=>S b∨n1≤b) N r w∧Ae _ w) (fun r w h=>⟨Cx (S':=fun b=>((S b∨n1≤b)∧b<_)∨_≤b) (fun b hb=>by rcases hb with h1|h1;exact h1.1;exact .inr (Nat.le_trans a7 h1)) (by rw[hN];exact h.1),h.2⟩)) ?_;rintro _ w49 ⟨⟨xa,xc,ya,yc,rfl,au⟩,a1⟩;replace Br:=a1.keep Br;replace Bo:=a1.keep Bo;replace E:=E.ext a1;refine Ab (b:=bo) (o:=0) (c':=(R6 N xa xc ya yc)) rfl rfl qS AH rfl Bo qL rfl ?_;intro w5 S5;replace au:=AS.chg S5.chg (fun y hy h=>by have h2:y=bo:=h;rcases hy with h1|h1;have:=hS y h1;omega;omega) _ au;replace Br:=S5.keep qO Br;replace E:=S5.step E qQ;replace Bo:=S5.blk;refine AB (AJ (A1 results76 (vs:=[(.int .i64 N.kind),(.slice xa N.set.length xc),(.slice ya N.args.length yc),(.int .i64 N.mn),(.int .i64 N.mx),(.bool N.neg)]) (b:=bo) rfl Ad AH rfl (Bo.cells rfl) ?_));exact ⟨⟨_,rfl,by rw[←hN];exact AS.mono (fun y hy=>by rcases hy with h1|h1;exact .inl h1;exact .inr qO) _ au⟩,E⟩
end Go.Proofs
namespace Go.Proofs
open Go Go.Eng Go.Sort
set_option maxRecDepth 100000
def Pe (S:Nat->Prop) (l:List Re):G2:=λv w=>∃b,v=.slice (some ⟨b,0,none⟩) l.length l.length∧DH S w (.slice (some ⟨b,0,none⟩) l.length l.length) l
theorem Ea (S:Nat->Prop) (l:List Re):EI (Pe S l):=by
 rintro v w w' e ⟨b,a,c⟩;exact ⟨b,a,DH.ext c e⟩
section
variable {N : Nat} {σ : CC} {w : World} {dst : Option Tmp} {ty : TypeId} {pos : String} {af : Array Edge} {g : Option (Nat × Bool)} {S : Nat → Prop} {X Y : Re} {x y z : Operand} {sa aa sa' aa' : Option Addr} {sc ac sc' ac' : Nat}
theorem It (d:ev σ x=.agg #[.int .i64 X.kind,.slice sa X.set.length sc,.slice aa X.args.length ac,.int .i64 X.mn,.int .i64 X.mx,.bool X.neg]) (e:ev σ y=.agg #[.int .i64 Y.kind,.slice sa' Y.set.length sc',.slice aa' Y.args.length ac',.int .i64 Y.mn,.int .i64 Y.mx,.bool Y.neg]) (c:AS S w X [.int .i64 X.kind,.slice sa X.set.length sc,.slice aa X.args.length ac,.int .i64 X.mn,.int .i64 X.mx,.bool X.neg]) (f:AS S w Y [.int .i64 Y.kind,.slice sa' Y.set.length sc',.slice aa' Y.args.length ac',.int .i64 Y.mn,.int .i64 Y.mx,.bool Y.neg]) (a:∀b,w.heap.size<=b->S b) :
 Jy prog N ⟨dst,.buildSlice 23 2 #[(0,x),(1,y)],ty,pos,af,g⟩ (Pe S [X,Y]) σ w:=by
 have hn:=New.mk' w (#[.int .i64 X.kind,.slice sa X.set.length sc,.slice aa X.args.length ac,.int .i64 X.mn,.int .i64 X.mx,.bool X.neg,.int .i64 Y.kind,.slice sa' Y.set.length sc',.slice aa' Y.args.length ac',.int .i64 Y.mn,.int .i64 Y.mx,.bool Y.neg]) Hj;refine AW (CV (parts:=[(0,x),(1,y)]) (ps:=[(0,.agg #[.int .i64 X.kind,.slice sa X.set.length sc,.slice aa X.args.length ac,.int .i64 X.mn,.int .i64 X.mx,.bool X.neg]),(1,.agg #[.int .i64 Y.kind,.slice sa' Y.set.length sc',.slice aa' Y.args.length ac',.int .i64 Y.mn,.int .i64 Y.mx,.bool Y.neg])]) (by simp only[List.map,d,e]) underlying23 AH A9 qD qD qK) hn.ext ⟨_,O,?_⟩;exact ⟨_,_,O,qP,.inr ⟨_,0,a _ (Nat.le_refl _),O,A5.two (hn.blk.cells (by rfl)) (AS.ext hn.ext _ c) (hn.blk.cells (by rfl)) (AS.ext hn.ext _ f)⟩⟩
theorem SL (d:ev σ x=.agg #[.int .i64 X.kind,.slice sa X.set.length sc,.slice aa X.args.length ac,.int .i64 X.mn,.int .i64 X.mx,.bool X.neg]) (c:AS S w X [.int .i64 X.kind,.slice sa X.set.length sc,.slice aa X.args.length ac,.int .i64 X.mn,.int .i64 X.mx,.bool X.neg]) (a:∀b,w.heap.size<=b->S b) :
 Jy prog N ⟨dst,.buildSlice 23 1 #[(0,x)],ty,pos,af,g⟩ (Pe S [X]) σ w:=by
 have hn:=New.mk' w #[.int .i64 X.kind,.slice sa X.set.length sc,.slice aa X.args.length ac,.int .i64 X.mn,.int .i64 X.mx,.bool X.neg] Hj;refine AW (CV (parts:=[(0,x)]) (ps:=[(0,.agg #[.int .i64 X.kind,.slice sa X.set.length sc,.slice aa X.args.length ac,.int .i64 X.mn,.int .i64 X.mx,.bool X.neg])]) (by simp only[List.map,d]) underlying23 AH A9 qD qD qK) hn.ext ⟨_,O,?_⟩;exact ⟨_,_,O,qP,.inr ⟨_,0,a _ (Nat.le_refl _),O,A5.one (hn.blk.cells (by rfl)) (AS.ext hn.ext _ c)⟩⟩
theorem V' {b n:Nat} {l:List Re} {k m x:Int} (h:DH S w (.slice (some ⟨b,0,none⟩) n n) l) (hn:l.length=n):AS S w (.mk k [] l m x false) [.int .i64 k,.slice none 0 0,.slice (some ⟨b,0,none⟩) l.length l.length,.int .i64 m,.int .i64 x,.bool false]:=by
 subst hn;obtain ⟨aa,ac,a,c,d⟩:=h;simp only[Value.slice.injEq,true_and] at a;obtain ⟨rfl,rfl⟩:=a;exact AS.of (set:=[]) (BY.nil _ _ _ _ _) c d
theorem QJ {b n:Nat} {l:List Re} (a:ev σ x=.slice (some ⟨b,0,none⟩) n n) (h:DH S w (.slice (some ⟨b,0,none⟩) n n) l) (hn:l.length=n) :
 Jy prog N ⟨dst,.build 25 #[(0,.const (.int .i64 4)),(2,x)],ty,pos,af,g⟩ (E8 S (.mk 4 [] l 0 0 false)) σ w:=by
 subst hn;exact AW (BJ (parts:=[(0,.const (I6 4)),(2,x)]) (ps:=[(0,.int .i64 4),(2,.slice (some ⟨b,0,none⟩) l.length l.length)]) (v:=.agg #[.int .i64 4,.slice none 0 0,.slice (some ⟨b,0,none⟩) l.length l.length,.int .i64 0,.int .i64 0,.bool false]) (by simp only[List.map,a];rfl) qK) (Ae.refl _) ⟨none,0,some ⟨b,0,none⟩,l.length,O,V' h O⟩
theorem QI {b n:Nat} {l:List Re} {m u:Int} (a:ev σ x=.slice (some ⟨b,0,none⟩) n n) (c:ev σ y=.int .i64 m) (d:ev σ z=.int .i64 u) (h:DH S w (.slice (some ⟨b,0,none⟩) n n) l) (hn:l.length=n) :
 Jy prog N ⟨dst,.build 25 #[(0,.const (.int .i64 6)),(2,x),(3,y),(4,z)],ty,pos,af,g⟩ (E8 S (.mk 6 [] l m u false)) σ w:=by
 subst hn;exact AW (BJ (parts:=[(0,.const (I6 6)),(2,x),(3,y),(4,z)]) (ps:=[(0,.int .i64 6),(2,.slice (some ⟨b,0,none⟩) l.length l.length),(3,.int .i64 m),(4,.int .i64 u)]) (v:=.agg #[.int .i64 6,.slice none 0 0,.slice (some ⟨b,0,none⟩) l.length l.length,.int .i64 m,.int .i64 u,.bool false]) (by simp only[List.map,a,c,d];rfl) qK) (Ae.refl _) ⟨none,0,some ⟨b,0,none⟩,l.length,O,V' h O⟩
end
theorem SB (w0:World) (S:Nat→Prop) (v:Value) (ts:List Re) (h:DH S w0 v ts) (hne:ts≠[]) (hl:ts.length≤1000000) :
  Bi prog 149 #[v] w0 fun r w=>(∃a c,r=.slice a ts.length c∧DH (fun b=>S b∨w0.heap.size≤b) w r ts)∧Ae w0 w:=by
 obtain ⟨aa,c,rfl,aq,h3⟩:=h;obtain ⟨b,o,hSb,rfl,ae⟩:=h3.resolve_left hne;have ao:=List.length_pos_iff.2 hne;obtain ⟨rows,ab,ac⟩:=A5.rows ae;obtain ⟨base,aj⟩:∃base,base=w0.heap.size:=⟨_,rfl⟩;refine qR func149 rfl ntmps149 rfl (fun E=>(AA (qA _ rfl (AB (AG (AA (qM _ rfl (Bn (v:=(.bool false)) rfl rfl qD (Ke (a:=some ⟨b,o,none⟩) underlying23 rfl rfl) (AB (Ah rfl (AO (AC (AA (G4 qD underlying23 AH ?_))))))))))))));intro bq wq Nq;have Fq:=Nq.ge E;replace E:=E.ext Nq.ext;have Bq:=Nq.blk;refine qM _ rfl ?_;have ad:=HU (base:=base) (size:=6) Bq qO;have ap:base≤wq.heap.size:=by have:=Nq.ext.size;omega
 refine CQ (base:=base) (n:=0) (m:=ts.length) (xs:=[]) (news:=rows.flatten) (size:=6) (bytes:=80) (v:=(.slice (some ⟨bq,0,none⟩) 0 0)) qD underlying23 AH LC A9 rfl qD rfl ad rfl (by rw[CW ab.six,ab.len]) (ac.ext Nq.ext) (ab.one) (by unfold maxLen;omega) qO (ap) ?_;intro v9 w29 ah an Dv9;replace E:=E.step an (fun x hx h=>absurd (ad.lt x h).1 qO);obtain ⟨la,lc,rfl⟩:=Be ah;refine qA _ rfl (AB (AJ (AV results149 (v:=(.slice la (0+ts.length) lc)) rfl ?_)));simp only[Nat.zero_add,List.nil_append] at ah;obtain ⟨al,ai⟩:=HT ah (ab.ext E) rfl;simp only[Nat.zero_add];refine ⟨⟨la,lc,rfl,la,lc,rfl,al,?_⟩,E⟩;rcases ai with h|⟨ob,am,ak,ag,af⟩
 ·exact .inl h
 ·exact .inr ⟨ob,0,.inr qO,ag,FF fun i t ht=>by obtain ⟨vs,h6,h7⟩:=af i t ht;exact ⟨vs,h6,AS.mono (fun y hy=>.inl hy) t h7⟩⟩
def Gv (c:Int) (n:Nat):Prop:=∀(t:Re) (w0:World) (S:Nat->Prop) (vs:List Value),t.size<n->Au t->AS S w0 t vs->(∀x,S x->x<w0.heap.size)->
  Bi prog 120 #[.agg vs.toArray,.int .i64 c] w0 λr w=>(∃us,r=.agg us.toArray∧AS (λb=>S b∨w0.heap.size<=b) w (A6 c t) us)∧Ae w0 w
section
variable {c : Int} {t x : Re}
theorem Fl (c:Int) (t:Re):A6 c t=if t.kind=2 then (if Cu t.set c=true then BP else BB) else if t.kind=3 then EK c t.args else if t.kind=4∨t.kind=7∨t.kind=8 then Cz t.kind [] (CL c t.args) 0 0 false else if t.kind=5 then De [(CL c t.args).headD BB,t] else if t.kind=6 then De [(CL c t.args).headD BB,Cz 6 [] [t.args.headD BB] (max 0 (t.mn - 1)) (t.mx - 1) false] else BB:=by
 cases t;simp only[A6];rfl
theorem YN (h:t.kind=2):A6 c t=if Cu t.set c=true then BP else BB:=by rw[Fl];simp[h]
theorem YS (h:t.kind=3):A6 c t=EK c t.args:=by rw[Fl];simp[h]
theorem XX (h:t.kind=4∨t.kind=7∨t.kind=8):A6 c t=EL (.mk t.kind [] (t.args.map (A6 c)) 0 0 false):=by rw[Fl,if_neg qO,if_neg qO,if_pos h,Hq];rfl
theorem YR (h:t.kind=5) (a:t.args=[x]):A6 c t=De [A6 c x,t]:=by rw[Fl,if_neg qO,if_neg qO,if_neg qO,if_pos h,a];rfl
theorem YQ (h:t.kind=6) (a:t.args=[x]):A6 c t=De [A6 c x,EL (.mk 6 [] [x] (max 0 (t.mn - 1)) (t.mx - 1) false)]:=by rw[Fl,if_neg qO,if_neg qO,if_neg qO,if_neg qO,if_pos h,a];rfl
theorem YP (h:t.kind=0∨t.kind=1):A6 c t=BB:=by rw[Fl,if_neg qO,if_neg qO,if_neg qO,if_neg qO,if_neg qO]
end
end Go.Proofs
namespace Go.Proofs
open Go Go.Eng Go.Sort
set_option maxRecDepth 100000
theorem Uw (c:Int) (n:Nat) (ih:Gv c n) (t:Re) (hn:t.size≤n) (h300:t.size≤300) (hok:Au t) (hk:t.kind=2) (w0:World) (S:Nat→Prop) (vs:List Value) (ht:AS S w0 t vs) (hS:∀x,S x→x<w0.heap.size) :
  Bi prog 120 #[.agg vs.toArray,.int .i64 c] w0 fun r w=>(∃us,r=.agg us.toArray∧AS (fun b=>S b∨w0.heap.size≤b) w (A6 c t) us)∧Ae w0 w:=by
 have aj:=ht;obtain ⟨sa,sc,aa,ac,rfl,ae,al,ag⟩:=ht.form;have hRs:DH S w0 (.slice aa t.args.length ac) t.args:=Lu aj;have hal:=CR t;have ak:=t.size_eq;refine qR func120 rfl ntmps120 rfl (fun E=>(AA (BL (v:=(.agg (R6 t sa sc aa ac))) (c:=(R6 t sa sc aa ac)) qD rfl rfl ?_)));intro br wr Nr;have Fr:=Nr.ge E;replace E:=E.ext Nr.ext;have Br:=Nr.blk;refine Bg (c:=#[(I6 0),(.slice none 0 0),(.slice none 0 0),(I6 0),(I6 0),(.bool false)]) qD A9 rfl ?_;intro bo wo No;have Fo:=No.ge E;have Oo_br:=No.lt Br;replace Br:=No.keep Br;replace E:=E.ext No.ext;have Bo:=No.blk;refine AB (AG (AA (qF br 0 0 rfl underlying25 rfl Ay rfl (qV (AL rfl Al (Br.cell rfl)) (AB (AU (AA (qV (Aj rfl rfl) (qA _ rfl (AB ?_))))))))));have ai:(decide ((t.kind:Int)=2))=true:=decide_eq_true hk;refine Az (BC ai) (AA (qF br 0 1 rfl underlying25 rfl CM rfl (qV (AL rfl Cb (Br.cell rfl)) (qM _ rfl (qE rfl (AI func67 kQ kQ rfl) (Vf _ _ t.set c (ae.at.ext E)) ?_)))));rintro _ w9 ⟨rfl,X9⟩;replace Br:=X9.keep Br;replace Bo:=X9.keep Bo;replace E:=E.ext X9;refine AB (A_ rfl (fun ad=>?_) (fun ad=>?_))
 ·have af:=ad;refine AA (qE rfl (AI func146 kQ kQ rfl) (FO _) ?_);rintro _ ah ⟨rfl,ab⟩;replace Br:=ab.keep Br;replace Bo:=ab.keep Bo;replace E:=E.ext ab;refine Ab (b:=bo) (o:=0) (c':=#[(I6 1),(.slice none 0 0),(.slice none 0 0),(I6 0),(I6 0),(.bool false)]) rfl rfl qS AH rfl Bo qL rfl ?_;intro w3 S3;replace Br:=S3.keep qO Br;replace E:=S3.step E qQ;replace Bo:=S3.blk;refine AB (AJ (Ac (AP (A1 results120 (vs:=[(.int .i64 1),(.slice none 0 0),(.slice none 0 0),(.int .i64 0),(.int .i64 0),(.bool false)]) (b:=bo) rfl Ad AH rfl (Bo.cells rfl) ?_))));exact ⟨⟨_,rfl,by rw[YN hk,if_pos ad];exact Cn _ _ _⟩,E⟩
 ·have af:=ad;refine AO (AQ (AC (AA (qE rfl (AI func144 kQ kQ rfl) (Ie _) ?_))));rintro _ ah ⟨rfl,ab⟩;replace Br:=ab.keep Br;replace Bo:=ab.keep Bo;replace E:=E.ext ab;refine Ab (b:=bo) (o:=0) (c':=#[(I6 0),(.slice none 0 0),(.slice none 0 0),(I6 0),(I6 0),(.bool false)]) rfl rfl qS AH rfl Bo qL rfl ?_;intro w4 S4;replace Br:=S4.keep qO Br;replace E:=S4.step E qQ;replace Bo:=S4.blk;refine AB (AJ (A1 results120 (vs:=[(.int .i64 0),(.slice none 0 0),(.slice none 0 0),(.int .i64 0),(.int .i64 0),(.bool false)]) (b:=bo) rfl Ad AH rfl (Bo.cells rfl) ?_));exact ⟨⟨_,rfl,by rw[YN hk,if_neg (by rw[ad];decide)];exact Cn _ _ _⟩,E⟩
theorem Ux (c:Int) (n:Nat) (ih:Gv c n) (t:Re) (hn:t.size≤n) (h300:t.size≤300) (hok:Au t) (hk:t.kind=0∨t.kind=1) (w0:World) (S:Nat→Prop) (vs:List Value) (ht:AS S w0 t vs) (hS:∀x,S x→x<w0.heap.size) :
  Bi prog 120 #[.agg vs.toArray,.int .i64 c] w0 fun r w=>(∃us,r=.agg us.toArray∧AS (fun b=>S b∨w0.heap.size≤b) w (A6 c t) us)∧Ae w0 w:=by
 have ag:=ht;obtain ⟨sa,sc,aa,ac,rfl,aj,al,ad⟩:=ht.form;have hRs:DH S w0 (.slice aa t.args.length ac) t.args:=Lu ag;have hal:=CR t;have ai:=t.size_eq;refine qR func120 rfl ntmps120 rfl (fun E=>(AA (BL (v:=(.agg (R6 t sa sc aa ac))) (c:=(R6 t sa sc aa ac)) qD rfl rfl ?_)));intro br wr Nr;have Fr:=Nr.ge E;replace E:=E.ext Nr.ext;have Br:=Nr.blk;refine Bg (c:=#[(I6 0),(.slice none 0 0),(.slice none 0 0),(I6 0),(I6 0),(.bool false)]) qD A9 rfl ?_;intro bo wo No;have Fo:=No.ge E;have Oo_br:=No.lt Br;replace Br:=No.keep Br;replace E:=E.ext No.ext;have Bo:=No.blk;refine AB (AG (AA (qF br 0 0 rfl underlying25 rfl Ay rfl (qV (AL rfl Al (Br.cell rfl)) (AB (AU (AA (qV (Aj rfl rfl) (qA _ rfl (AB ?_))))))))));have af:(decide ((t.kind:Int)=2))=false:=decide_eq_false qO;refine Ah (BC af) (AA (qV (Aj rfl rfl) (qA _ rfl (AB ?_))));have am:(decide ((t.kind:Int)=3))=false:=decide_eq_false qO;refine Ah (BC am) (AG (AA (qV (Aj rfl rfl) (qA _ rfl (AB ?_)))));have ah:(decide ((t.kind:Int)=4))=false:=decide_eq_false qO;refine Ah (BC ah) (AA (qV (Aj rfl rfl) (qA _ rfl (AB ?_))));have ao:(decide ((t.kind:Int)=7))=false:=decide_eq_false qO;refine Ah (BC ao) (AR (qV (Aj rfl rfl) (qA _ rfl (AB (AC ?_)))));have ae:(decide ((t.kind:Int)=8))=false:=decide_eq_false qO;refine Ah (BC ae) (AA (qV (Aj rfl rfl) (qA _ rfl (AB ?_))));have an:(decide ((t.kind:Int)=5))=false:=decide_eq_false qO;refine Ah (BC an) (AA (qV (Aj rfl rfl) (qA _ rfl (AB ?_))));have ak:(decide ((t.kind:Int)=6))=false:=decide_eq_false qO;refine Ah (BC ak) (AO (AQ (AC (AA (qE rfl (AI func144 kQ kQ rfl) (Ie _) ?_)))));rintro _ w29 ⟨rfl,ab⟩;replace Br:=ab.keep Br;replace Bo:=ab.keep Bo;replace E:=E.ext ab;refine Ab (b:=bo) (o:=0) (c':=#[(I6 0),(.slice none 0 0),(.slice none 0 0),(I6 0),(I6 0),(.bool false)]) rfl rfl qS AH rfl Bo qL rfl ?_;intro w8 S8;replace Br:=S8.keep qO Br;replace E:=S8.step E qQ;replace Bo:=S8.blk;refine AB (AJ (A1 results120 (vs:=[(.int .i64 0),(.slice none 0 0),(.slice none 0 0),(.int .i64 0),(.int .i64 0),(.bool false)]) (b:=bo) rfl Ad AH rfl (Bo.cells rfl) ?_));exact ⟨⟨_,rfl,by rw[YP hk];exact Cn _ _ _⟩,E⟩
theorem Ut (c:Int) (n:Nat) (ih:Gv c n) (t:Re) (hn:t.size≤n) (h300:t.size≤300) (hok:Au t) (hk:t.kind=5) (w0:World) (S:Nat→Prop) (vs:List Value) (ht:AS S w0 t vs) (hS:∀x,S x→x<w0.heap.size) :
  Bi prog 120 #[.agg vs.toArray,.int .i64 c] w0 fun r w=>(∃us,r=.agg us.toArray∧AS (fun b=>S b∨w0.heap.size≤b) w (A6 c t) us)∧Ae w0 w:=by
 have ay:=ht;obtain ⟨sa,sc,aa,ac,rfl,ba,bj,ai⟩:=ht.form;have hRs:DH S w0 (.slice aa t.args.length ac) t.args:=Lu ay;have hal:=CR t;have bg:=t.size_eq;refine qR func120 rfl ntmps120 rfl (fun E=>(AA (BL (v:=(.agg (R6 t sa sc aa ac))) (c:=(R6 t sa sc aa ac)) qD rfl rfl ?_)));intro br wr Nr;have Fr:=Nr.ge E;replace E:=E.ext Nr.ext;have Br:=Nr.blk;refine Bg (c:=#[(I6 0),(.slice none 0 0),(.slice none 0 0),(I6 0),(I6 0),(.bool false)]) qD A9 rfl ?_;intro bo wo No;have Fo:=No.ge E;have Oo_br:=No.lt Br;replace Br:=No.keep Br;replace E:=E.ext No.ext;have Bo:=No.blk;refine AB (AG (AA (qF br 0 0 rfl underlying25 rfl Ay rfl (qV (AL rfl Al (Br.cell rfl)) (AB (AU (AA (qV (Aj rfl rfl) (qA _ rfl (AB ?_))))))))));obtain ⟨n1,am⟩:∃n1,n1=wo.heap.size:=⟨_,rfl⟩;have hob:br<n1∧bo<n1∧w0.heap.size≤bo∧w0.heap.size≤n1:=⟨by rw[am];exact Br.lt,by rw[am];exact Bo.lt,qO,by rw[am];exact E.size⟩;have bl:n1≤wo.heap.size:=qO
 have E1:Ae wo wo:=Ae.refl _;have bd:(decide ((t.kind:Int)=2))=false:=decide_eq_false qO;refine Ah (BC bd) (AA (qV (Aj rfl rfl) (qA _ rfl (AB ?_))));have a3:(decide ((t.kind:Int)=3))=false:=decide_eq_false qO;refine Ah (BC a3) (AG (AA (qV (Aj rfl rfl) (qA _ rfl (AB ?_)))));have a1:(decide ((t.kind:Int)=4))=false:=decide_eq_false qO;refine Ah (BC a1) (AA (qV (Aj rfl rfl) (qA _ rfl (AB ?_))));have bc:(decide ((t.kind:Int)=7))=false:=decide_eq_false qO;refine Ah (BC bc) (AR (qV (Aj rfl rfl) (qA _ rfl (AB (AC ?_)))));have a0:(decide ((t.kind:Int)=8))=false:=decide_eq_false qO;refine Ah (BC a0) (AA (qV (Aj rfl rfl) (qA _ rfl (AB ?_))));have a4:(decide ((t.kind:Int)=5))=true:=decide_eq_true hk;refine Az (BC a4) ?_;obtain ⟨x,au,ax⟩:∃x,t.args=[x]∧Au x:=by obtain ⟨y,hy,_⟩:=hok.n.k5 hk;exact ⟨y,hy,hok.a y (by rw[hy];simp)⟩
 have hx:t.args[0]?=some x:=by rw[au];rfl
 have bs:t.args.length=1:=by rw[au];rfl
 have hxz:=Re.size_arg hx;obtain ⟨ab,ao,hab,rfl,aq⟩:=ai.resolve_left (fun h=>by rw[h] at hx;cases hx);obtain ⟨us,bh,az⟩:=aq.get hx;have al:=az;obtain ⟨an,av,aw,ar,rfl,_,_,_⟩:=az.form;have hsm:=FA (c:=c) ax qO;obtain ⟨N,hN⟩:∃N,N=A6 c t:=⟨_,rfl⟩;obtain ⟨D,hD⟩:∃D,D=A6 c x:=⟨_,rfl⟩;have a2:N=De [D,t]:=by rw[hN,hD];exact YR hk au
 have bv:w0.heap.size≤wo.heap.size:=E.size;have aj:br<wo.heap.size:=Br.lt;have ak:bo<wo.heap.size:=Bo.lt;refine AG ?_;obtain ⟨a8,ad⟩:∃Fs:List Fact,Fs=[.eq (P6 br 2),.eq (.slice (some ⟨ab,ao,none⟩) t.args.length ac),.eq (.pointer (some ⟨ab,ao+0*6,none⟩)),.eq (.agg (R6 x an av aw ar)),.eq (I6 c),.gen (E8 (fun b=>S b∨n1≤b) D) (BV _ _),.eq (.agg (R6 t sa sc (some ⟨ab,ao,none⟩) ac)),.gen (Pe (fun b=>S b∨n1≤b) [D,t]) (Ea _ _),.gen (E8 (fun b=>S b∨n1≤b) N) (BV _ _),.eq undef]:=⟨_,rfl⟩;refine Iq [true,true,true,true,true,true,true,true,true,false] [9] [75,76,77,78,79,80,81,82,83,119] [[],[0],[1],[2],[],[3,4],[],[5,6],[5,7],[]] a8 ad mixed qK qK qK qK ?_ ?_
 ·intro wd X0;refine DagStepsP.cons (fun s' w' X U H=>Or.inl ⟨?_,?_⟩) ?_
  ·exact AD rfl
  ·exact AW (AY (U 2 rfl) underlying25 rfl CG rfl) (Ae.refl _) rfl
  refine DagStepsP.cons (fun s' w' X U H=>Or.inl ⟨?_,?_⟩) ?_
  ·exact AD rfl
  ·have a6:s' 75=(.pointer (some ⟨br,2,none⟩)):=H 0 rfl 75 (.eq (.pointer (some ⟨br,2,none⟩))) rfl (by rw[ad];rfl);exact AW (AL a6 B0 (((X0.trans X).keep Br).cell rfl)) (Ae.refl _) rfl
  refine DagStepsP.cons (fun s' w' X U H=>Or.inl ⟨?_,?_⟩) ?_
  ·exact AD rfl
  ·have bi:s' 76=(.slice (some ⟨ab,ao,none⟩) t.args.length ac):=H 1 rfl 76 (.eq (.slice (some ⟨ab,ao,none⟩) t.args.length ac)) rfl (by rw[ad];rfl);exact AW (AN (i:=0) bi rfl rfl underlying23 AH qO qO) (Ae.refl _) rfl
  refine DagStepsP.cons (fun s' w' X U H=>Or.inl ⟨?_,?_⟩) ?_
  ·exact AD rfl
  ·have bb:s' 77=(.pointer (some ⟨ab,ao+0*6,none⟩)):=H 2 rfl 77 (.eq (.pointer (some ⟨ab,ao+0*6,none⟩))) rfl (by rw[ad];rfl);exact AW (AK bb Ad AH rfl (bh.ext (Ae.trans E (X0.trans X)))) (Ae.refl _) rfl
  refine DagStepsP.cons (fun s' w' X U H=>Or.inl ⟨?_,?_⟩) ?_
  ·exact AD rfl
  ·exact AW (Ai (U 1 rfl)) (Ae.refl _) rfl
  refine DagStepsP.cons (fun s' w' X U H=>Or.inl ⟨?_,?_⟩) ?_
  ·exact AD rfl
  ·have bu:s' 78=(.agg #[(.int .i64 x.kind),(.slice an x.set.length av),(.slice aw x.args.length ar),(.int .i64 x.mn),(.int .i64 x.mx),(.bool x.neg)]):=H 3 rfl 78 (.eq (.agg #[(.int .i64 x.kind),(.slice an x.set.length av),(.slice aw x.args.length ar),(.int .i64 x.mn),(.int .i64 x.mx),(.bool x.neg)])) rfl (by rw[ad];rfl);have bp:s' 79=(.int .i64 c):=H 4 rfl 79 (.eq (.int .i64 c)) rfl (by rw[ad];rfl);exact A7 (AI func120 kQ kQ (G8 bu bp)) ((ih x _ S _ qO ax (AS.ext (Ae.trans E (X0.trans X)) x al) (fun y hy=>by have:=hS y hy;have:=E.size;have:=X0.size;have:=X.size;omega)).mono (fun r w h=>⟨Cx (S':=fun b=>S b∨w'.heap.size≤b) (fun b hb=>by rcases hb with h1|h1;exact .inl h1;exact .inr (by have:=E.size;have:=X0.size;have:=X.size;omega)) (by rw[hD];exact h.1),h.2⟩))
  refine DagStepsP.cons (fun s' w' X U H=>Or.inl ⟨?_,?_⟩) ?_
  ·exact AD rfl
  ·exact AW (AK (U 2 rfl) Ad AH rfl (((X0.trans X).keep Br).cells rfl)) (Ae.refl _) rfl
  refine DagStepsP.cons (fun s' w' X U H=>Or.inl ⟨?_,?_⟩) ?_
  ·exact AD rfl
  ·obtain ⟨bq,a7,a5,be,a9,bt⟩:=H 5 rfl 80 (.gen (E8 (fun b=>S b∨n1≤b) D) (BV _ _)) rfl (by rw[ad];rfl);have bn:s' 81=(.agg #[(.int .i64 t.kind),(.slice sa t.set.length sc),(.slice (some ⟨ab,ao,none⟩) t.args.length ac),(.int .i64 t.mn),(.int .i64 t.mx),(.bool t.neg)]):=H 6 rfl 81 (.eq (.agg #[(.int .i64 t.kind),(.slice sa t.set.length sc),(.slice (some ⟨ab,ao,none⟩) t.args.length ac),(.int .i64 t.mn),(.int .i64 t.mx),(.bool t.neg)])) rfl (by rw[ad];rfl);exact It a9 bn bt (AS.mono (fun y hy=>.inl hy) t (AS.ext (Ae.trans E (X0.trans X)) t ay)) (fun b hb=>.inr (by have:=E.size;have:=X0.size;have:=X.size;omega))
  refine DagStepsP.cons (fun s' w' X U H=>Or.inl ⟨?_,?_⟩) ?_
  ·exact AD rfl
  ·obtain ⟨b82,bk,bf⟩:=H 7 rfl 82 (.gen (Pe (fun b=>S b∨n1≤b) [D,t]) (Ea _ _)) rfl (by rw[ad];rfl);exact A7 (AI func140 kQ kQ (G9 bk)) ((K7 _ (fun b=>(S b∨n1≤b)∧b<w'.heap.size) _ [D,t] (DH.lt bf) (fun y hy=>hy.2) (fun y hm hk=>by rcases List.mem_cons.1 hm with rfl|hm;exact (Cm (by rw[hD];exact Ds c ax)).1 (.inl hk);simp at hm;subst hm;omega) (by simp only[Re.sizes];rw[hD];omega)).mono (fun r w h=>⟨Cx (S':=fun b=>((S b∨n1≤b)∧b<w'.heap.size)∨w'.heap.size≤b) (fun b hb=>by rcases hb with h1|h1;exact h1.1;exact .inr (by have:=E.size;have:=X0.size;have:=X.size;omega)) (by rw[a2];exact h.1),h.2⟩))
  refine DagStepsP.tail ?_;exact DagStepsP.nil
 ·intro s' w7 X7 U H;obtain ⟨af,ah,ag,ae,bm,ap⟩:=H 8 rfl 83 (.gen (E8 (fun b=>S b∨n1≤b) N) (BV _ _)) rfl (by rw[ad];rfl);obtain ⟨j7,rfl⟩:=Am.out (σ:=s') (l:=[(4,(.pointer (some ⟨bo,0,none⟩))),(83,(.agg #[(.int .i64 N.kind),(.slice af N.set.length ah),(.slice ag N.args.length ae),(.int .i64 N.mn),(.int .i64 N.mx),(.bool N.neg)]))]) ⟨U 4 rfl,bm,trivial⟩;clear U H;replace Br:=X7.keep Br;replace Bo:=X7.keep Bo;replace E:=E.ext X7;refine Ab (b:=bo) (o:=0) (c':=(R6 N af ah ag ae)) rfl rfl qS AH rfl Bo qL rfl ?_;intro w8 S8;replace ap:=AS.chg S8.chg (fun y hy h=>by have h2:y=bo:=h;rcases hy with h1|h1;have:=hS y h1;omega;omega) _ ap;replace Br:=S8.keep qO Br;replace E:=S8.step E qQ;replace Bo:=S8.blk;refine AB (AC (AJ (Ac (AP (A1 results120 (vs:=[(.int .i64 N.kind),(.slice af N.set.length ah),(.slice ag N.args.length ae),(.int .i64 N.mn),(.int .i64 N.mx),(.bool N.neg)]) (b:=bo) rfl Ad AH rfl (Bo.cells rfl) ?_)))));exact ⟨⟨_,rfl,by rw[←hN];exact AS.mono (fun y hy=>by rcases hy with h1|h1;exact .inl h1;exact .inr qO) _ ap⟩,E⟩
end Go.Proofs
namespace Go.Eng
open Go
inductive Cvs (n:Nat):List Fact->List Fact->Prop where
  | nil:Cvs n [] []
  | cons {F F':Fact} {l l':List Fact} (h:∀v w,w.heap.size=n->F.In v w->F'.In v w) (t:Cvs n l l'):Cvs n (F::l) (F'::l')
theorem Cvs.get {n:Nat}:∀{l a:List Fact},Cvs n l a->∀{j:Nat} {b:Fact},a[j]?=some b->∃F,l[j]?=some F∧∀v w,w.heap.size=n->F.In v w->b.In v w
 | _,_,.nil,_,_,h=>by simp at h
 | _,_,.cons h _,0,_,h1=>by simp at h1;subst h1;exact ⟨_,O,h⟩
 | _,_,.cons _ t,j+1,_,h1=>by
  obtain ⟨F,c,d⟩:=t.get (j:=j) (by simpa using h1);exact ⟨F,by simpa using c,d⟩
theorem Cvs.same {n:Nat} {F:Fact} {l a:List Fact} (t:Cvs n l a):Cvs n (F::l) (F::a):=.cons (λ_ _ _ h=>h) t
def SP (P:Program) (t:TypeId) (c:Array Value) (d:Nat) (o:Oper):Prop:=
 (∃z rt pos af,Ex P t z∧z.cells=c∧o=⟨some d,.alloc t,rt,pos,af,none⟩)∧o.dst=some d∧o.guard=none
theorem SP.mk' {P:Program} {t:TypeId} {c:Array Value} {d:Nat} {z:Value} {e:TypeId} {pos:String} {af:Array Edge} (b:Ex P t z) (a:z.cells=c):SP P t c d ⟨some d,.alloc t,e,pos,af,none⟩:=⟨⟨_,_,_,_,b,a,O⟩,O,O⟩
def WW (l:List Oper) (hd:List Bool) (ts:List Nat) (lt f:Nat):Bool:=
 (List.range l.length).all λi=>hd.getD i false || (ts.contains i && bif Nat.beq i f then (List.range l.length).all (λu=>!hd.getD u false || (Nat.beq u lt || Et l i u)) else ts.any λp=>!hd.getD p true && Et l i p)
def WG (ops:Array Oper) (hd:List Bool) (ts:List Nat) (lt f al:Nat) (ks:List Nat):Bool:=!hd.getD lt false || (II ops ks (((hd.set lt false).set f true).toArray) && (Nat.beq ks.length ts.length && !Nat.beq al lt))
theorem Hy:∀hd:List Bool,Cv hd hd=0
 | []=>rfl
 | true::hd=>by have:=Hy hd;simpa[Cv] using this
 | false::hd=>by have:=Hy hd;simpa[Cv] using this
theorem NQ {P:Program} {N:Nat} {Q:Dn} {σ:CC} {w:World} {id:Nat} {l:List Oper} (hd:List Bool) (ts:List Nat) (lt f:Nat) (ks:List Nat) (ds:List Nat) (wss:List (List Nat)) (Fs:(Nat->Prop)->List Fact) {Gs:(Nat->Prop)->List Fact} (hG:Fs=Gs) (R0:Nat->Prop) (hR0:∀y,w.heap.size<=y->R0 y) (al dA:Nat) {tA:TypeId} {oA:Oper} {cA:Array Value} {lo:Nat} (hlo:lo<=w.heap.size) (hdA:ds[al]?=some dA) (hoA:l[al]?=some oA) (hoA2:SP P tA cA dA oA) (hFA:∀R,∃h,(Fs R)[al]?=some (.gen (RD tA cA lo) h))
 (hcv:∀n,Cvs n (Fs R0) (Fs λy=>R0 y∧y≠n)) (hm:P.follows .mixedOrders=true) (hB:Ev N hd 0 l ds wss hd=true) (hn:Ge ds=true)
 (hAt:hd[al]?=some true) (hT:(WW l hd ts lt f && II l.toArray ts hd.toArray)=true) (hL:WG l.toArray hd ts lt f al ks=true) (hN:Nat.beq (Cv hd (List.replicate l.length false)+ts.length) l.length=true)
 (steps:∀w1,Ae w w1->∀RR:Nat->Prop,(∀y,y<w.heap.size->R0 y->RR y)->(∀y,w1.heap.size<=y->RR y)->DagStepsP P N ds (Fs RR) σ w1 l wss hd (Gs RR))
 (k:∀σ' w' (RR:Nat->Prop) β,Ae w w'->(∀t,ds.contains t=false->σ' t=σ t)->(∀y,RR y->R0 y∧y≠β)->σ' dA=.pointer (some ⟨β,0,none⟩)->(∀j,hd[j]?=some true->Holds ds (Fs RR) j σ' w')->DT P N l.toArray (Q .normal) Q (ts.filterMap λk=>l[k]?) σ' w')
 (k2:hd.getD lt false=true->∀σ' w' (RR:Nat->Prop) β,Ae w w'->(∀t,ds.contains t=false->σ' t=σ t)->(∀y,RR y->R0 y∧y≠β)->σ' dA=.pointer (some ⟨β,0,none⟩)->(∀j,hd[j]?=some true->j≠lt->Holds ds (Fs RR) j σ' w')->DT P N l.toArray (Q .normal) Q ((f::ks).filterMap λk=>l[k]?) σ' w'):Wp P N (.region id l.toArray true) Q σ w:=by
 intro dz a ha he;have eQ:Dk dz N (Li (Q .normal) Q)=Dk dz N Q:=by funext e a w;cases e<;>rfl
 refine wp_region_any hm ?_;obtain ⟨w1,b4⟩:∃w1:World,w1={w with drawn:=w.drawn+1}:=⟨_,O⟩;have bj:Ae w w1:=by rw[b4];exact GO w
 rw[<-b4];have a7:=steps w1 bj R0 (λy _ h=>h) (λy hy=>hR0 y (by have:=bj.size;omega));rw[<-hG] at a7;rw[Bool.and_eq_true] at hT;obtain ⟨cg,cz⟩:=hT;obtain ⟨cb,b3⟩:=JP hB;obtain ⟨bk,cr,cx⟩:=hoA2;have cw:∀(m:Nat) (RR:Nat->Prop) (wB:World) (listed:Array Bool) (a:Act) (w':World),DagStepsP P N ds (Fs RR) σ wB l wss hd (Fs RR)->Ae w wB->(listed.getD al false=false->RR=R0)->(listed.getD al false=true->∃β,(∀y,RR y->R0 y∧y≠β)∧DQ a dA=.pointer (some ⟨β,0,none⟩))->Cv hd listed.toList=m->listed.size=l.length->(∀(t:Nat),hd[t]?=some false->listed.toList[t]?=some false)->Ok dz N a->Ae wB w'->(∀t,ds.contains t=false->DQ a t=σ t)->(∀j,hd[j]?=some true->listed.getD j false=true->Holds ds (Fs RR) j (DQ a) w')->
  wpAny P .any l.toArray (Dk dz N Q) (m+ts.length) listed a w':=by
  intro m
  induction m with
  | zero=>
   intro RR wB listed a w' bs a0 bl bd b9 b6 aw ha hx hu hh;have hl:listed=hd.toArray:=by
    apply Array.ext';exact Gj (by simp;omega) b9 aw
   have cd:listed.getD al false=true:=by
    rw[hl];exact CN (by simpa using hAt)
   rw[Nat.zero_add];obtain ⟨β,bn,bi⟩:=bd cd;have h1:=k (DQ a) w' RR β (a0.trans hx) hu bn bi (λj hj=>hh j hj (CN (by rw[hl];exact hj))) dz a ha O;rw[eQ] at h1;exact Do ts listed a w' (by rw[hl];exact cz) (by simpa using h1)
  | succ m ih=>
   intro RR wB listed a w' bs a0 bl bd hcm b6 aw ha hx hu hh;obtain ⟨i0,ap,bc⟩:=HY (hd:=hd) (listed:=listed.toList) qO;rw[show m+1+ts.length=(m+ts.length)+1 by omega];refine ⟨λhr=>?_,λi hi=>?_⟩
   .exfalso;have bt:∀i:Nat,hd[i]?=some true->listed.getD i true=true:=by
     intro i
     induction i using Nat.strongRecOn with
     | _ i ihi=>
      intro hi;cases hv:listed.getD i true with
      | true=>rfl
      | false=>
       exfalso;obtain ⟨o,ho⟩:=AX (l:=l) (i:=i) (by have:=AM hi;omega);obtain ⟨d,ws,h,_,_,h2,h3⟩:=ET hB ho;rw[hi] at h2;cases h2;simp only[cond_true,Bool.and_eq_true,Nat.zero_add] at h3;have:i∈Region.ready .any l.toArray listed:=by
        refine mem_ready.2 ⟨hv,o,by simpa using ho,λe he hb=>?_⟩;have h4:=h3.1;simp only[EG,Bool.and_eq_true,Array.all_eq_true_iff_forall_mem,Bool.or_eq_true,Bool.not_eq_true'] at h4;have h5:=h3.2.1;simp only[Array.all_eq_true_iff_forall_mem,Bool.or_eq_true,Bool.not_eq_true'] at h5;have h6:=(h4.1.2 e he).resolve_left (by simp[hb]);have ak:e.on<i:=by simpa[Nat.blt_eq] using h6
        have h7:=(h5 e he).resolve_left (by simp[hb]);have bv:e.on<hd.length:=by have:=AM hi;omega
        have h8:hd[e.on]?=some true:=by
         rw[List.getD_eq_getElem?_getD,List.getElem?_eq_getElem bv,Option.getD_some] at h7;rw[List.getElem?_eq_getElem bv,h7]
        have h9:=ihi e.on ak h8;have hj:e.on<listed.size:=qO
        simpa only[Array.getD_eq_getD_getElem?,Array.getElem?_eq_getElem hj,Option.getD_some] using h9
       rw[hr] at this;cases this
    have:=bt i0 ap;rw[CN bc] at this;cases this
   .obtain ⟨h1,o,h2,h3⟩:=mem_ready.1 hi;have ho:l[i]?=some o:=by simpa using h2
    have ck:i<l.length:=AM ho;by_cases hih:hd[i]?=some true
    rotate_left
    .-- one of the tail: all of the head but one are listed
     have hb:hd[i]?=some false:=by
      obtain ⟨b,hb⟩:=AX (l:=hd) (i:=i) qO;cases b with
      | true=>exact absurd hb hih
      | false=>exact hb
     have h4:=List.all_eq_true.1 cg i (List.mem_range.2 ck);rw[List.getD_eq_getElem?_getD,hb,Option.getD_some,Bool.false_or,Bool.and_eq_true] at h4;have a5:∀u,Et l i u=true->listed.getD u false=true:=λu be=>by
      unfold Et at be;rw[ho] at be;simp only[Array.any_eq_true',Bool.and_eq_true] at be;obtain ⟨e,he,bf,bo⟩:=be;have:=Nat.eq_of_beq_eq_true bo;rw[<-this];exact h3 e he bf
     cases hif:Nat.beq i f with
     | false=>
      exfalso;rw[hif,cond_false] at h4;obtain ⟨p,_,h6⟩:=List.any_eq_true.1 h4.2;rw[Bool.and_eq_true,Bool.not_eq_true'] at h6;have h7:=a5 p h6.2;have hp:hd[p]?=some false:=by
       have h8:=h6.1;rw[List.getD_eq_getElem?_getD] at h8;cases h9:hd[p]? with
       | none=>rw[h9] at h8;cases h8
       | some b=>rw[h9,Option.getD_some] at h8;rw[h8]
      rw[CN (aw p hp)] at h7;cases h7
     | true=>
      rw[hif,cond_true] at h4;have bz:i=f:=Nat.eq_of_beq_eq_true hif;have ab:∀u,hd[u]?=some true->u≠lt->listed.getD u false=true:=λu bu cn=>by
       have h6:=List.all_eq_true.1 h4.2 u (List.mem_range.2 (by have:=AM bu;omega));rw[List.getD_eq_getElem?_getD,bu,Option.getD_some,Bool.not_true,Bool.false_or,Bool.or_eq_true] at h6;rcases h6 with h6|h6
       .exact absurd (Nat.eq_of_beq_eq_true h6) cn
       .exact a5 u h6
      have bg:i0=lt:=Classical.byContradiction λag=>by
       have:=ab i0 ap ag;rw[CN bc] at this;cases this
      subst bg;have bx:listed.toList=hd.set i0 false:=by
       apply List.ext_getElem?;intro t;rw[List.getElem?_set];by_cases ht:i0=t
       .subst ht;rw[if_pos O,if_pos (AM ap)];exact bc
       .rw[if_neg ht];cases h9:hd[t]? with
        | none=>exact List.getElem?_eq_none (by have:=List.getElem?_eq_none_iff.1 h9;simp;omega)
        | some b=>
         cases b with
         | false=>exact aw t h9
         | true=>
          have av:=ab t h9 (Ne.symm ht);have b1:t<listed.size:=by have:=AM h9;omega
          simp only[Array.getD_eq_getD_getElem?,Array.getElem?_eq_getElem b1,Option.getD_some] at av;rw[Array.getElem?_toList,Array.getElem?_eq_getElem b1,av]
      have cu:m=0:=by
       have h9:=GH ap bc;have av:listed.toList.set i0 true=hd:=by
        rw[bx,List.set_set];apply List.ext_getElem?;intro t;rw[List.getElem?_set];by_cases ht:i0=t
        .subst ht;rw[if_pos O,if_pos (AM ap),ap]
        .rw[if_neg ht]
       rw[av,Hy] at h9;omega
      subst cu;have ac:hd.getD i0 false=true:=by rw[List.getD_eq_getElem?_getD,ap,Option.getD_some]
      unfold WG at hL;rw[ac,Bool.not_true,Bool.false_or,Bool.and_eq_true,Bool.and_eq_true,Bool.not_eq_true'] at hL;obtain ⟨ci,bh,b2⟩:=hL;have bh:=Nat.eq_of_beq_eq_true bh;have ag:al≠i0:=λe=>by rw[e,Nat.beq_refl] at b2;cases b2
      obtain ⟨β,bn,bi⟩:=bd (ab al hAt ag);have h9:=k2 ac (DQ a) w' RR β (a0.trans hx) hu bn bi (λj hj cf=>hh j hj (ab j hj cf)) dz a ha O;rw[eQ] at h9;have b0:wpList P l.toArray (Dk dz N Q) ((f::ks).filterMap λk=>l.toArray[k]?) a w':=by simpa using h9
      have hw:wpOp P l.toArray (Dk dz N Q) i (wpList P l.toArray (Dk dz N Q) (ks.filterMap λk=>l.toArray[k]?)) a w':=by
       rw[List.filterMap_cons,<-bz,h2] at b0;unfold wpOp;simp only[h2];exact b0
      rw[Nat.zero_add,<-bh];refine wpOp_mono (λa2 w2 av=>Do ks _ a2 w2 ?_ av) hw;have b8:listed.setIfInBounds i true=(((hd.set i0 false).set f true).toArray):=by
       apply Array.ext';rw[Array.toList_setIfInBounds,bx,bz]
      rw[b8];exact ci
    obtain ⟨d,ws,h,ax,cc,b5,h4⟩:=ET hB ho;rw[hih] at b5;cases b5;obtain ⟨ws',F,a4,hF,a6⟩:=bs.get ho hih;rw[cc] at a4;cases a4;simp only[cond_true,Bool.and_eq_true,Nat.zero_add] at h4;have ay:=h4.2.2;have h4:=h4.1;simp only[EG,Bool.and_eq_true,List.all_eq_true,Array.any_eq_true',Array.all_eq_true_iff_forall_mem,Bool.or_eq_true,Bool.not_eq_true'] at h4;obtain ⟨⟨⟨ad,bq⟩,_⟩,a8⟩:=h4;have ad:o.dst=some d:=by
     split at ad
     .rename_i d' h;rw[h,Nat.eq_of_beq_eq_true ad]
     .cases ad
    have bq:d<N:=by simpa[Nat.blt_eq] using bq
    have hH:∀j,ws.contains j=true->Holds ds (Fs RR) j (DQ a) w':=by
     intro j hj;have ca:j∈ws:=by simpa using hj
     obtain ⟨e,he,hb⟩:=a8 j ca;obtain ⟨bf,bo⟩:=hb;have ce:e.on=j:=Nat.eq_of_beq_eq_true bo;have a1:=h3 e he bf;rw[ce] at a1;refine hh j ?_ a1;obtain ⟨b,hb⟩:=AX (l:=hd) (i:=j) (by
      rcases Nat.lt_or_ge j listed.size with h9|h9
      .omega
      .simp[Array.getD_eq_getD_getElem?,Array.getElem?_eq_none h9] at a1)
     cases b with
     | true=>exact hb
     | false=>rw[CN (aw j hb)] at a1;cases a1
    have gd:∀j b,o.guard=some (j,b)->∀dj,ds[j]?=some dj->(∃oj,l[j]?=some oj∧oj.dst=some dj)∧dj<N:=λj b ac dj am=>by
     obtain ⟨oj,an⟩:=AX (l:=l) (i:=j) (by have:=AM am;omega);obtain ⟨dj',_,hj,ba,_,h5,h6⟩:=ET hB an;rw[am] at ba;cases ba;unfold JI at ay;rw[ac] at ay;simp only at ay;have h7:hj=true:=by rw[List.getD_eq_getElem?_getD,h5,Option.getD_some] at ay;exact ay
     rw[h7] at h6;simp only[cond_true,Bool.and_eq_true,EG] at h6;obtain ⟨⟨⟨aa,ae⟩,_⟩,_⟩:=h6.1;refine ⟨⟨oj,an,?_⟩,by simpa[Nat.blt_eq] using ae⟩;split at aa
     .rename_i d' h;rw[h,Nat.eq_of_beq_eq_true aa]
     .cases aa
    have aj:∀(R2:Nat->Prop) (wC:World) v w2,DagStepsP P N ds (Fs R2) σ wC l wss hd (Fs R2)->Ae w wC->Ae wC w2->((listed.setIfInBounds i true).getD al false=false->R2=R0)->((listed.setIfInBounds i true).getD al false=true->∃β,(∀y,R2 y->R0 y∧y≠β)∧Eo (DQ a) d v dA=.pointer (some ⟨β,0,none⟩))->(∀F,(Fs R2)[i]?=some F->F.In v w2)->(∀j,j≠i->hd[j]?=some true->listed.getD j false=true->Holds ds (Fs R2) j (DQ a) w2)->wpAny P .any l.toArray (Dk dz N Q) (m+ts.length) (listed.setIfInBounds i true) (a.put o.dst v) w2:=by
     intro R2 wC v w2 ah cm cl cy ct hv c0;have aq:DQ (a.put o.dst v)=Eo (DQ a) d v:=by rw[ad];exact EF ha bq v
     have cj:listed.toList[i]?=some false:=by
      have hj:i<listed.size:=qO
      simp only[Array.getD_eq_getD_getElem?,Array.getElem?_eq_getElem hj,Option.getD_some] at h1;rw[Array.getElem?_toList,Array.getElem?_eq_getElem hj,h1]
     refine ih R2 wC _ _ _ ah cm cy (λh=>by obtain ⟨β,h5,h6⟩:=ct h;exact ⟨β,h5,by rw[aq];exact h6⟩) ?_ (by simpa using b6) (λt ht=>?_) (ha.put _ _) cl ?_ ?_
     .rw[Array.toList_setIfInBounds];have:=GH hih cj;omega
     .rw[Array.toList_setIfInBounds,List.getElem?_set];have ag:i≠t:=λe=>by rw[<-e,hih] at ht;cases ht
      rw[if_neg ag];exact aw t ht
     .intro t ht;rw[aq,<-hu t ht];simp only[Eo];cases hb:Nat.beq t d
      .rfl
      .exfalso;have:t=d:=Nat.eq_of_beq_eq_true hb;subst this;have:=List.mem_of_getElem? ax;simp[this] at ht
     .intro j az hj d' F' ai bw;rw[aq];by_cases a3:j=i
      .subst a3;rw[ax] at ai;cases ai;simp only[Eo,Nat.beq_refl,cond_true];exact hv _ bw
      .have ag:Nat.beq d' d=false:=by
        cases hb:Nat.beq d' d
        .rfl
        .exfalso;have:d'=d:=Nat.eq_of_beq_eq_true hb;subst this;exact a3 (Ct hn ai ax)
       simp only[Eo,ag,cond_false];rw[getD_set_ne _ (Ne.symm a3)] at hj;exact c0 j a3 az hj d' F' ai bw
    by_cases hia:i=al
    .-- the new variable itself
     subst hia;rw[hoA] at ho;cases ho;rw[hdA] at ax;cases ax;have b7:=bl (getD_both h1);subst b7;obtain ⟨z,rt,pos,af,hz,cp,cs⟩:=bk;have hw:Region.wanted oA (yielded l.toArray a.tmps)=true:=by simp[Region.wanted,cx]
     have bm:Jy P N oA (λv w2=>v=.pointer (some ⟨w'.heap.size,0,none⟩)∧BH w2 w'.heap.size cA tA∧w'.heap.size<w2.heap.size) (DQ a) w':=by
      subst cs;subst cp;have hn:=New.mk' w' z.cells tA;exact AW (v:=.pointer (some ⟨w'.heap.size,0,none⟩)) (by simp[execOp,Instr.alloc,hz.run,newVar,newRow]) hn.ext ⟨O,hn.blk,hn.blk.lt⟩
     unfold wpOp;simp only[h2,hw,if_true];refine Or.inl (bm _ a ha O _ _ ?_);rintro v w2 au ⟨rfl,bp,ak⟩;have ao:=a0.trans hx;have hs1:=ao.size;have ah:=steps w2 (ao.trans au) (λy=>RR y∧y≠w'.heap.size) (λy hy h=>⟨h,qO⟩) (λy hy=>⟨hR0 y qO,qO⟩);rw[<-hG] at ah;refine aj _ w2 _ w2 ah (ao.trans au) (Ae.refl _) (λh=>?_) (λ_=>⟨w'.heap.size,λy h=>h,by simp[Eo]⟩) (λF2 a9=>?_) (λj a3 az hj=>?_)
     .rw[CN (b:=true) (by rw[Array.toList_setIfInBounds,List.getElem?_set,if_pos O,if_pos (by simpa using (by omega:i<listed.size))])] at h;cases h
     .obtain ⟨h5,h6⟩:=hFA λy=>RR y∧y≠w'.heap.size;rw[h6] at a9;cases a9;exact ⟨_,O,bp,qO⟩
     .intro dj Fj am cv;obtain ⟨F0,ch,hc⟩:=(hcv w'.heap.size).get cv;exact Fact.ext (hc _ _ O (hh j az hj dj F0 am ch)) au
    have bb:∀v w2,Ae w' w2->F.In v w2->wpAny P .any l.toArray (Dk dz N Q) (m+ts.length) (listed.setIfInBounds i true) (a.put o.dst v) w2:=by
     intro v w2 au hv;refine aj RR wB v w2 bs a0 (hx.trans au) (λh=>bl (by rw[getD_set_ne _ (by omega:i≠al)] at h;exact h)) (λh=>?_) (λF2 a9=>by rw[hF] at a9;cases a9;exact hv) (λj _ az hj d3 F3 cq co=>Fact.ext (hh j az hj d3 F3 cq co) au);rw[getD_set_ne _ (by omega:i≠al)] at h;obtain ⟨β,h5,h6⟩:=bd h;refine ⟨β,h5,?_⟩;have ag:Nat.beq dA d=false:=by
      cases hb:Nat.beq dA d
      .rfl
      .exfalso;have:dA=d:=Nat.eq_of_beq_eq_true hb;subst this;exact hia (Ct hn ax hdA)
     simp only[Eo,ag,cond_false];exact h6
    rcases a6 (DQ a) w' hx hu hH with ⟨hg,bm⟩|⟨⟨j,b,dj,ac,am,ar⟩,br⟩
    .have hw:Region.wanted o (yielded l.toArray a.tmps)=true:=by
      cases ac:o.guard with
      | none=>simp[Region.wanted,ac]
      | some p=>
       obtain ⟨j,b⟩:=p;obtain ⟨dj,am,ar⟩:=hg j b ac;obtain ⟨aa,ae⟩:=gd j b ac dj am;have h6:a.tmps[dj]?=some (Value.bool b):=by
        have h2:a.tmps.getD dj undef=.bool b:=ar;have ak:dj<a.tmps.size:=by rw[ha.size];exact ae
        rw[Array.getElem?_eq_getElem ak];simpa[ak] using h2
       obtain ⟨oj,an,aa⟩:=aa;simp[Region.wanted,ac,yielded,an,aa,h6]
     unfold wpOp;simp only[h2,hw,if_true];exact Or.inl (bm _ a ha O _ _ bb)
    .have hw:Region.wanted o (yielded l.toArray a.tmps)=false:=by
      obtain ⟨aa,ae⟩:=gd j b ac dj am;have ak:dj<a.tmps.size:=by rw[ha.size];exact ae
      have h6:a.tmps[dj]?=some (DQ a dj):=by
       rw[Array.getElem?_eq_getElem ak];simp[DQ,ak]
      obtain ⟨oj,an,aa⟩:=aa;rcases ar with ar|ar
      .rw[ar] at h6;cases b<;>simp[Region.wanted,ac,yielded,an,aa,h6]
      .rw[ar] at h6;simp[Region.wanted,ac,yielded,an,aa,h6,undef]
     unfold wpOp;simp only[h2,hw,Bool.false_eq_true,if_false];exact bb undef w' (Ae.refl _) br
 have h1:=cw (Cv hd (Array.replicate l.toArray.size false).toList) R0 w1 (Array.replicate l.toArray.size false) a w1 a7 bj (λ_=>rfl) (λh=>by rw[getD_replicate_false] at h;cases h) O qP (λt ht=>by have h9:=AM ht;rw[Array.toList_replicate,List.getElem?_replicate,if_pos (by rw[List.size_toArray];omega)]) ha (Ae.refl _) (λt _=>by rw[he]) (λj _ hj=>by rw[getD_replicate_false] at hj;cases hj);have e3:Cv hd (Array.replicate l.toArray.size false).toList+ts.length=l.toArray.size:=by have h9:=Nat.eq_of_beq_eq_true hN;simpa using h9
 rw[e3] at h1;exact h1
end Go.Eng
namespace Go.Proofs
open Go Go.Eng Go.Sort
set_option maxRecDepth 100000
theorem Pg {S:Nat->Prop} {x:Re} {v:Value} {w:World} {n:Nat} (e:w.heap.size=n) (h:E8 S x v w):E8 (λy=>S y∧y≠n) x v w:=by
 obtain ⟨sa,sc,aa,ac,a,c⟩:=h;exact ⟨sa,sc,aa,ac,a,AS.mono (λy b=>⟨b.1,qO⟩) x (AS.lt x c)⟩
theorem Pd {S:Nat->Prop} {l:List Re} {v:Value} {w:World} {n:Nat} (e:w.heap.size=n) (h:Pe S l v w):Pe (λy=>S y∧y≠n) l v w:=by
 obtain ⟨b,a,d⟩:=h;exact ⟨b,a,Mv (λy c=>⟨c.1,qO⟩) (DH.lt d)⟩
theorem VA {S:Nat->Prop} {w:World} {c a ac:Nat} {x:Re} {l:List Re} (h:DH S w (.slice (some ⟨c,a,none⟩) (x::l).length ac) (x::l)):DH S w (.slice (some ⟨c,a+6,none⟩) l.length (ac - 1)) l:=by
 obtain ⟨aa,ac',f,j,g⟩:=h;simp only[Value.slice.injEq,true_and] at f;obtain ⟨rfl,rfl⟩:=f;obtain ⟨b,o,i,d,e⟩:=g.resolve_left qP;simp only[Option.some.injEq,Addr.mk.injEq,and_true] at d;obtain ⟨rfl,rfl⟩:=d;simp only[List.length_cons] at j;simp only[A5] at e;exact ⟨_,_,O,qO,.inr ⟨_,_,i,O,e.2⟩⟩
theorem UZ {l:List Re} (h:∀y∈l,y.kind≠0∧y.kind≠1∧y.kind≠3):De l=Bv 3 BP l:=by
 have d:BI 3 l=l:=by
  induction l with
  | nil=>rfl
  | cons y l ih=>
   have a:=h y qP;have b:=ih λz f=>h z (by simp[f]);unfold BI at b⊢;rw[List.flatMap_cons,b];simp[a]
 have e:EJ CZ l=l:=List.filter_eq_self.2 λy a=>by
  have:=h y a;simp[CZ,this]
 have c:l.any BX=false:=by
  rw[List.any_eq_false];intro y a;have:=h y a;simp[BX,this]
 unfold De;simp only[d,e,c];simp
theorem PS (c:Int) {l:List Re} (h:l≠[]):A6 c (Bv 3 BP l)=EK c l:=by
 match l,h with
 | [y],_=>simp[Bv,EK]
 | y::z::l,_=>show A6 c (.mk 3 [] (y::z::l) 0 0 false)=_;simp[A6]
theorem YF (l:List Re):PreN 4 [] l 0 0 false:=⟨qO,O,λ_=>rfl,λ_=>⟨O,O⟩,qO,qO,qO,qO⟩
theorem YB {c:Int} {t x:Re} {l:List Re} (h:t.kind=3) (b:t.args=x::l) (a:l≠[]):A6 c t=if Cq x=true then EL (.mk 4 [] [De [A6 c x,Bv 3 BP l],A6 c (Bv 3 BP l)] 0 0 false) else De [A6 c x,Bv 3 BP l]:=by
 rw[YS h,b,PS c a]
 conv=>lhs;unfold EK
 rw[if_neg a];rfl
theorem Uv (c:Int) (n:Nat) (ih:Gv c n) (t:Re) (hn:t.size≤n) (h300:t.size≤300) (hok:Au t) (hk:t.kind=3) (w0:World) (S:Nat→Prop) (vs:List Value) (ht:AS S w0 t vs) (hS:∀x,S x→x<w0.heap.size) :
    Bi prog 120 #[.agg vs.toArray,.int .i64 c] w0 fun r w=>(∃us,r=.agg us.toArray∧AS (fun b=>S b∨w0.heap.size≤b) w (A6 c t) us)∧Ae w0 w:=by
  have dk:=ht;obtain ⟨sa,sc,aa,ac,rfl,db,ch,a6⟩:=ht.form;have dl:DH S w0 (.slice aa t.args.length ac) t.args:=Lu dk;have hal:=CR t;have a3:=t.size_eq;obtain ⟨a8,b3⟩:=hok.n.k3 hk;obtain ⟨x,l,am,bt⟩:∃x l,t.args=x::l∧l≠[]:=by
    match h:t.args with
    | []=>rw[h] at a8;simp at a8
    | [y]=>rw[h] at a8;simp at a8
    | y::z::l=>exact ⟨y,z::l,rfl,qP⟩
  have bj:∀y∈l,y.kind≠0∧y.kind≠1∧y.kind≠3:=fun y hy=>b3 y (by rw[am];simp[hy]);have bl:Au x:=hok.a x (by rw[am];simp);have dp:∀y∈l,Au y:=fun y hy=>hok.a y (by rw[am];simp[hy]);have hx:t.args[0]?=some x:=by rw[am];rfl
  have cp:t.args.length=l.length+1:=by rw[am];rfl
  have hl1:0<l.length:=List.length_pos_iff.2 bt;have hxz:=Re.size_arg hx;obtain ⟨ab,ao,hab,rfl,bn⟩:=a6.resolve_left (fun h=>by rw[h] at hx;cases hx);obtain ⟨us,b1,b7⟩:=bn.get hx;have az:=b7;obtain ⟨an,ax,ay,av,rfl,_,_,_⟩:=b7.form;have b0:DH S w0 (.slice (some ⟨ab,ao+6,none⟩) l.length (ac - 1)) l:=by
    refine VA (x:=x) ?_;rw[←am];exact dl
  obtain ⟨R,hR⟩:∃R,R=Bv 3 BP l:=⟨_,rfl⟩;have dd:De l=R:=by rw[hR];exact UZ bj
  have a5:Au R:=by rw[hR];exact QN dp bj
  have dh:t.size=x.size+Re.sizes l+1:=by rw[a3,am];simp only[Re.sizes]
  have hRz:R.size≤Re.sizes l+1:=by rw[hR];exact La l
  have hxp:=x.size_pos;obtain ⟨D,hD⟩:∃D,D=A6 c x:=⟨_,rfl⟩;obtain ⟨F,hF⟩:∃F,F=De [D,R]:=⟨_,rfl⟩;obtain ⟨G,hG⟩:∃G,G=A6 c R:=⟨_,rfl⟩;obtain ⟨N,hN⟩:∃N,N=EL (.mk 4 [] [F,G] 0 0 false):=⟨_,rfl⟩;have b2:Au D:=by rw[hD];exact Ds c bl
  have cr:Au G:=by rw[hG];exact Ds c a5
  have b8:A6 c t=if Cq x=true then N else F:=by rw[hN,hG,hF,hD,hR];exact YB hk am bt
  have hDz:D.size≤200000:=by rw[hD];exact FA bl qO
  have hGz:G.size≤200000:=by rw[hG];exact FA a5 qO
  have b9:Au F:=by
    rw[hF];refine Ik fun z hz=>?_;simp only[List.mem_cons,List.not_mem_nil,or_false] at hz;rcases hz with rfl|rfl
    · exact b2
    · exact a5
  have hFz:F.size≤200400:=by
    have:=GT [D,R];rw[←hF] at this;simp only[Re.sizes] at this;omega
  rw[b8];clear b8 a3 a8 b3;refine qR func120 rfl ntmps120 rfl (fun E=>(AA (BL (v:=(.agg (R6 t sa sc (some ⟨ab,ao,none⟩) ac))) (c:=(R6 t sa sc (some ⟨ab,ao,none⟩) ac)) qD rfl rfl ?_)));intro br wr Nr;have Fr:=Nr.ge E;replace E:=E.ext Nr.ext;have Br:=Nr.blk;refine Bg (c:=#[(I6 0),(.slice none 0 0),(.slice none 0 0),(I6 0),(I6 0),(.bool false)]) qD A9 rfl ?_;intro bo wo No;have Fo:=No.ge E;have Oo_br:=No.lt Br;replace Br:=No.keep Br;replace E:=E.ext No.ext;have Bo:=No.blk;refine AB (AG (AA (qF br 0 0 rfl underlying25 rfl Ay rfl (qV (AL (v:=(I6 t.kind)) rfl Al (Br.cell rfl)) (AB (AU (AA (qV (Aj (k:=.i64) (a:=t.kind) (b:=2) rfl rfl) (qA (.bool (decide ((t.kind:Int)=2))) rfl (AB ?_))))))))));obtain ⟨n1,bu⟩:∃n1,n1=wo.heap.size:=⟨_,rfl⟩;have hob:br<n1∧bo<n1∧w0.heap.size≤bo∧w0.heap.size≤n1:=⟨by rw[bu];exact Br.lt,by rw[bu];exact Bo.lt,qO,by rw[bu];exact E.size⟩;have dj:n1≤wo.heap.size:=qO
  have E1:Chg Ak wo wo:=Chg.refl _ _;have de:(decide ((t.kind:Int)=2))=false:=decide_eq_false qO;refine Ah (BC de) (AA (qV (Aj (k:=.i64) (a:=t.kind) (b:=3) rfl rfl) (qA (.bool (decide ((t.kind:Int)=3))) rfl (AB ?_))));have cd:(decide ((t.kind:Int)=3))=true:=decide_eq_true hk;refine Az (BC cd) (AA (qF br 0 2 rfl underlying25 rfl CG rfl (qV (AL (v:=(.slice (some ⟨ab,ao,none⟩) t.args.length ac)) rfl B0 (Br.cell rfl)) ?_)));obtain ⟨b4,a1⟩:∃a':Option Addr,(if ac=1 then (some ⟨ab,ao,none⟩) else Option.map (fun q:Addr=>q.add (1*6)) (some ⟨ab,ao,none⟩))=a':=⟨_,rfl⟩;refine qV (GA (a:=(some ⟨ab,ao,none⟩)) (len:=t.args.length) (cap:=ac) (lo:=1) (l:=1) (n':=l.length) (c':=ac - 1) underlying23 AH rfl rfl qO qO a1 qO qO) ?_;have a9:b4=some ⟨ab,ao+6,none⟩:=by rw[←a1,if_neg qO];rfl
  rw[←a9] at b0;refine qE rfl (AI (vs:=[(.slice b4 l.length (ac - 1))]) func149 kQ kQ rfl) ((SB _ S _ l (b0.ext E) bt qO).mono (R':=fun r w=>(∃a c,r=.slice a l.length c∧DH (fun b=>S b∨n1≤b) w r l)∧Ae wo w) (fun r w h=>⟨by obtain ⟨⟨a,c,h1,h2⟩,_⟩:=h;exact ⟨a,c,h1,Mv (fun b hb=>by rcases hb with h1|h1;exact .inl h1;exact .inr qO) h2⟩,h.2⟩)) ?_;rintro _ bi ⟨⟨ca,cc,rfl,ck⟩,a2⟩;replace Br:=a2.keep Br;replace Bo:=a2.keep Bo;replace E:=E.ext a2;replace E1:=E1.ext a2;obtain ⟨h25,c9⟩:∃h,h=bi.heap.size:=⟨_,rfl⟩;refine qE rfl (AI (vs:=[(.slice ca l.length cc)]) func140 kQ kQ rfl) ((K7 _ _ _ l (DH.lt ck) (fun y hy=>hy.2) (fun y hy hk=>by have:=bj y hy;omega) qO).mono (R':=fun r w=>E8 (fun b=>S b∨n1≤b) R r w∧Ae bi w) (fun r w h=>⟨Cx (S':=fun b=>((S b∨n1≤b)∧b<bi.heap.size)∨bi.heap.size≤b) (fun b hb=>by rcases hb with h1|h1;exact h1.1;exact .inr (by have:=a2.size;omega)) (by rw[←dd];exact h.1),h.2⟩)) ?_;rintro _ bm ⟨⟨xa,xc,ya,yc,rfl,c6⟩,bb⟩;replace Br:=bb.keep Br;replace Bo:=bb.keep Bo;replace E:=E.ext bb;replace E1:=E1.ext bb;have aj:=AS.lt R c6;obtain ⟨bs,bk⟩:∃h,h=bm.heap.size:=⟨_,rfl⟩;rw[←bk] at aj;have E2:Chg Ak bm bm:=Chg.refl _ _;refine As (v:=(.agg (R6 R xa xc ya yc))) (c:=(R6 R xa xc ya yc)) (n:=6) qD A9 rfl AH rfl rfl rfl qS ?_;intro bq wq Nq;have Fq:=Nq.ge E;have Fq_E1:=Nq.ge E1;have Fq_E2:=Nq.ge E2;have Oq_br:=Nq.lt Br;have Oq_bo:=Nq.lt Bo;replace Br:=Nq.keep Br;replace Bo:=Nq.keep Bo;replace aj:=AS.ext Nq.ext _ aj;replace E:=E.ext Nq.ext;have Bq:=Nq.blk;replace E1:=E1.ext Nq.ext;replace E2:=E2.ext Nq.ext;refine AB ?_;have dn:w0.heap.size≤wq.heap.size:=E.size;have bc:br<wq.heap.size:=Br.lt;have bg:bo<wq.heap.size:=Bo.lt;have be:bq<wq.heap.size:=Bq.lt;refine AG ?_;obtain ⟨cm,ad⟩:∃Fs:(Nat→Prop)→List Fact,Fs=fun RR=>[.eq (P6 br 2),.eq (.slice (some ⟨ab,ao,none⟩) t.args.length ac),.eq (.pointer (some ⟨ab,ao+0*6,none⟩)),.eq (.agg (R6 x an ax ay av)),.eq (I6 c),.gen (E8 RR D) (BV _ _),.eq (.agg (R6 R xa xc ya yc)),.gen (Pe RR [D,R]) (Ea _ _),.gen (E8 RR F) (BV _ _),.gen (RD 25 #[(I6 0),(.slice none 0 0),(.slice none 0 0),(I6 0),(I6 0),(.bool false)] wq.heap.size) (Fb _ _ _),.eq undef]:=⟨_,rfl⟩;refine NQ [true,true,true,true,true,true,true,true,true,true,false] [10] 11 10 [] [27,28,29,30,31,32,33,34,35,6,120] [[],[0],[1],[2],[],[3,4],[],[5,6],[5,7],[],[]] cm ad (fun b=>S b∨n1≤b) (fun y hy=>.inr (by have:=E1.size;omega)) 9 6 (lo:=wq.heap.size) (Nat.le_refl _) rfl rfl (SP.mk' A9 rfl) (fun RR=>⟨_,by rw[ad];rfl⟩) (fun n=>by rw[ad];repeat (first|exact Cvs.nil|refine Cvs.same ?_|refine Cvs.cons (fun v w e h=>by first|exact Pg e h|exact Pd e h|exact Mo e h) ?_)) mixed qK qK rfl qK qK qK ?_ ?_ (fun h9=>absurd h9 qD)
  · intro wd X0 RR a7 ap;refine DagStepsP.cons (fun s' w' X U H=>Or.inl ⟨?_,?_⟩) ?_
    · exact AD rfl
    · exact AW (AY (b:=br) (o:=0) (o':=2) (U 2 rfl) underlying25 rfl CG rfl) (Ae.refl _) rfl
    refine DagStepsP.cons (fun s' w' X U H=>Or.inl ⟨?_,?_⟩) ?_
    · exact AD rfl
    · have cf:s' 27=(.pointer (some ⟨br,2,none⟩)):=H 0 rfl 27 (.eq (.pointer (some ⟨br,2,none⟩))) rfl (by rw[ad];rfl);exact AW (AL (v:=(.slice (some ⟨ab,ao,none⟩) t.args.length ac)) cf B0 (((X0.trans X).keep Br).cell rfl)) (Ae.refl _) rfl
    refine DagStepsP.cons (fun s' w' X U H=>Or.inl ⟨?_,?_⟩) ?_
    · exact AD rfl
    · have cy:s' 28=(.slice (some ⟨ab,ao,none⟩) t.args.length ac):=H 1 rfl 28 (.eq (.slice (some ⟨ab,ao,none⟩) t.args.length ac)) rfl (by rw[ad];rfl);exact AW (AN (b:=ab) (o:=ao) (len:=t.args.length) (cap:=ac) (i:=0) (o':=ao+0*6) cy rfl rfl underlying23 AH qO qO) (Ae.refl _) rfl
    refine DagStepsP.cons (fun s' w' X U H=>Or.inl ⟨?_,?_⟩) ?_
    · exact AD rfl
    · have dm:s' 29=(.pointer (some ⟨ab,ao+0*6,none⟩)):=H 2 rfl 29 (.eq (.pointer (some ⟨ab,ao+0*6,none⟩))) rfl (by rw[ad];rfl);exact AW (AK (vs:=[(I6 x.kind),(.slice an x.set.length ax),(.slice ay x.args.length av),(I6 x.mn),(I6 x.mx),(.bool x.neg)]) dm Ad AH rfl (b1.ext (Ae.trans E (X0.trans X)))) (Ae.refl _) rfl
    refine DagStepsP.cons (fun s' w' X U H=>Or.inl ⟨?_,?_⟩) ?_
    · exact AD rfl
    · exact AW (Ai (v:=(I6 c)) (U 1 rfl)) (Ae.refl _) rfl
    refine DagStepsP.cons (fun s' w' X U H=>Or.inl ⟨?_,?_⟩) ?_
    · exact AD rfl
    · have cg:s' 30=(.agg #[(.int .i64 x.kind),(.slice an x.set.length ax),(.slice ay x.args.length av),(.int .i64 x.mn),(.int .i64 x.mx),(.bool x.neg)]):=H 3 rfl 30 (.eq (.agg #[(.int .i64 x.kind),(.slice an x.set.length ax),(.slice ay x.args.length av),(.int .i64 x.mn),(.int .i64 x.mx),(.bool x.neg)])) rfl (by rw[ad];rfl);have cj:s' 31=(.int .i64 c):=H 4 rfl 31 (.eq (.int .i64 c)) rfl (by rw[ad];rfl);exact A7 (AI (vs:=[(.agg (R6 x an ax ay av)),(I6 c)]) func120 kQ kQ (G8 cg cj)) ((ih x _ S _ qO bl (AS.ext (Ae.trans E (X0.trans X)) x az) (fun y hy=>by have:=hS y hy;have:=E.size;have:=X0.size;have:=X.size;omega)).mono (fun r w h=>⟨Cx (S':=fun b=>S b∨w'.heap.size≤b) (fun b hb=>by rcases hb with h1|h1;exact a7 b (by have:=hS b h1;have:=E.size;omega) (.inl h1);exact ap b (by have:=X.size;omega)) (by rw[hD];exact h.1),h.2⟩))
    refine DagStepsP.cons (fun s' w' X U H=>Or.inl ⟨?_,?_⟩) ?_
    · exact AD rfl
    · exact AW (AK (vs:=[(I6 R.kind),(.slice xa R.set.length xc),(.slice ya R.args.length yc),(I6 R.mn),(I6 R.mx),(.bool R.neg)]) (U 5 rfl) Ad AH rfl (((X0.trans X).keep Bq).cells rfl)) (Ae.refl _) rfl
    refine DagStepsP.cons (fun s' w' X U H=>Or.inl ⟨?_,?_⟩) ?_
    · exact AD rfl
    · obtain ⟨cv,dq,c0,dc,cb,df⟩:=H 5 rfl 32 (.gen (E8 RR D) (BV _ _)) rfl (by rw[ad];rfl);have c2:s' 33=(.agg #[(.int .i64 R.kind),(.slice xa R.set.length xc),(.slice ya R.args.length yc),(.int .i64 R.mn),(.int .i64 R.mx),(.bool R.neg)]):=H 6 rfl 33 (.eq (.agg #[(.int .i64 R.kind),(.slice xa R.set.length xc),(.slice ya R.args.length yc),(.int .i64 R.mn),(.int .i64 R.mx),(.bool R.neg)])) rfl (by rw[ad];rfl);exact It cb c2 df (AS.mono (S:=fun b=>(S b∨n1≤b)∧b<bs) (fun y hy=>a7 y (by have:=hy.2;have:=E2.size;omega) hy.1) R (AS.ext (X0.trans X) R aj)) (fun b hb=>ap b (by have:=X.size;omega))
    refine DagStepsP.cons (fun s' w' X U H=>Or.inl ⟨?_,?_⟩) ?_
    · exact AD rfl
    · obtain ⟨c4,cl,cs⟩:=H 7 rfl 34 (.gen (Pe RR [D,R]) (Ea _ _)) rfl (by rw[ad];rfl);exact A7 (AI (vs:=[(.slice (some ⟨c4,0,none⟩) 2 2)]) func140 kQ kQ (G9 cl)) ((K7 _ (fun b=>RR b∧b<w'.heap.size) _ [D,R] (DH.lt cs) (fun y hy=>hy.2) (fun y hm hk=>by rcases List.mem_cons.1 hm with rfl|hm;exact (Cm b2).1 (.inl hk);simp at hm;subst hm;exact (Cm a5).1 (.inl hk)) (by simp only[Re.sizes];omega)).mono (fun r w h=>⟨Cx (S':=fun b=>(RR b∧b<w'.heap.size)∨w'.heap.size≤b) (fun b hb=>by rcases hb with h1|h1;exact h1.1;exact ap b (by have:=X.size;omega)) (by rw[hF];exact h.1),h.2⟩))
    refine DagStepsP.cons (fun s' w' X U H=>Or.inl ⟨?_,?_⟩) ?_
    · exact AD rfl
    · exact H_ (c:=#[(I6 0),(.slice none 0 0),(.slice none 0 0),(I6 0),(I6 0),(.bool false)]) A9 rfl (by have:=X0.size;have:=X.size;omega)
    refine DagStepsP.tail ?_;exact DagStepsP.nil
  · intro s' w3 RR β X3 U a4 hβ H;obtain ⟨ae,ah,ag,af,c7,al⟩:=H 8 rfl 35 (.gen (E8 RR F) (BV _ _)) rfl (by rw[ad];rfl);obtain ⟨b6,e6,B6,g6⟩:=H 9 rfl 6 (.gen (RD 25 #[(.int .i64 0),(.slice none 0 0),(.slice none 0 0),(.int .i64 0),(.int .i64 0),(.bool false)] wq.heap.size) (Fb _ _ _)) rfl (by rw[ad];rfl);have b5:β=b6:=by have h9:=e6.symm.trans hβ;simpa using h9.symm
    rw[b5] at a4;clear hβ b5 β;obtain ⟨j3,rfl⟩:=Am.out (σ:=s') (l:=[(1,(.int .i64 c)),(2,(.pointer (some ⟨br,0,none⟩))),(4,(.pointer (some ⟨bo,0,none⟩))),(5,(.pointer (some ⟨bq,0,none⟩))),(35,(.agg #[(.int .i64 F.kind),(.slice ae F.set.length ah),(.slice ag F.args.length af),(.int .i64 F.mn),(.int .i64 F.mx),(.bool F.neg)])),(6,(.pointer (some ⟨b6,0,none⟩)))]) ⟨U 1 rfl,U 2 rfl,U 4 rfl,U 5 rfl,c7,e6,trivial⟩;clear U H;replace Br:=X3.keep Br;replace Bo:=X3.keep Bo;replace Bq:=X3.keep Bq;replace aj:=AS.ext X3 _ aj;replace E:=E.ext X3;replace E1:=E1.ext X3;replace E2:=E2.ext X3;refine Ab (b:=b6) (o:=0) (c':=(R6 F ae ah ag af)) rfl rfl qS AH rfl B6 qL rfl ?_;intro w4 S4;replace aj:=AS.chg S4.chg (fun y hy h=>by have h2:y=b6:=h;have:=hy.2;omega) _ aj;replace al:=AS.chg S4.chg (fun y hy h=>by have h2:y=b6:=h;have:=(a4 y hy).2;omega) _ al;replace Br:=S4.keep qO Br;replace Bo:=S4.keep qO Bo;replace Bq:=S4.keep qO Bq;replace E:=S4.step E qQ;replace E1:=S4.step E1 (Or.inl qO);replace E2:=S4.step E2 (Or.inl qO);replace B6:=S4.blk;refine AB (AC (AG (AA (qF br 0 2 rfl underlying25 rfl CG rfl (qV (AL (v:=(.slice (some ⟨ab,ao,none⟩) t.args.length ac)) rfl B0 (Br.cell rfl)) (qV (AN (b:=ab) (o:=ao) (len:=t.args.length) (cap:=ac) (i:=0) (o':=ao+0*6) rfl rfl rfl underlying23 AH qO qO) (qV (AK (vs:=[(I6 x.kind),(.slice an x.set.length ax),(.slice ay x.args.length av),(I6 x.mn),(I6 x.mx),(.bool x.neg)]) rfl Ad AH rfl (b1.ext E)) (qE rfl (AI (vs:=[(.agg (R6 x an ax ay av))]) func93 kQ kQ rfl) (UI 300 x _ _ qO qO (AS.at x (AS.ext E x az))) ?_))))))));rintro _ a0 ⟨rfl,ak⟩;replace Br:=ak.keep Br;replace Bo:=ak.keep Bo;replace Bq:=ak.keep Bq;replace B6:=ak.keep B6;replace aj:=AS.ext ak _ aj;replace al:=AS.ext ak _ al;replace E:=E.ext ak;replace E1:=E1.ext ak;replace E2:=E2.ext ak;refine qV (Dg (b:=Cq x) rfl) (AB (A_ (b:=!(Cq x)) rfl (fun he=>?_) (fun he=>?_)))
    · have cw:=he;replace he:=by simpa using he
      refine AA (qV (AK (vs:=[(I6 F.kind),(.slice ae F.set.length ah),(.slice ag F.args.length af),(I6 F.mn),(I6 F.mx),(.bool F.neg)]) rfl Ad AH rfl (B6.cells rfl)) (Ab (b:=bo) (o:=0) (c':=(R6 F ae ah ag af)) rfl rfl qS AH rfl Bo qL rfl ?_));intro w6 S6;replace al:=AS.chg S6.chg (fun y hy h=>by have h2:y=bo:=h;rcases (a4 y hy).1 with h1|h1;have:=hS y h1;omega;omega) _ al;replace Br:=S6.keep qO Br;replace Bq:=S6.keep qO Bq;replace B6:=S6.keep qO B6;replace E:=S6.step E qQ;replace Bo:=S6.blk;refine AB (AJ (AP (Ac (AP (A1 results120 (vs:=[(.int .i64 F.kind),(.slice ae F.set.length ah),(.slice ag F.args.length af),(.int .i64 F.mn),(.int .i64 F.mx),(.bool F.neg)]) (b:=bo) rfl Ad AH rfl (Bo.cells rfl) ?_)))));exact ⟨⟨_,rfl,by rw[if_neg (by simpa using he)];exact AS.mono (fun y hy=>by rcases (a4 y hy).1 with h1|h1;exact .inl h1;exact .inr qO) _ al⟩,E⟩
    · have cw:=he;replace he:=by simpa using he
      refine AO (AC ?_);have cu:w0.heap.size≤a0.heap.size:=E.size;have bh:br<a0.heap.size:=Br.lt;have bd:bo<a0.heap.size:=Bo.lt;have ba:bq<a0.heap.size:=Bq.lt;have bf:b6<a0.heap.size:=B6.lt;refine AG ?_;obtain ⟨c8,ai⟩:∃Fs:List Fact,Fs=[.eq (.agg (R6 F ae ah ag af)),.eq (.agg (R6 R xa xc ya yc)),.eq (I6 c),.gen (E8 (fun b=>S b∨n1≤b) G) (BV _ _),.gen (Pe (fun b=>S b∨n1≤b) [F,G]) (Ea _ _),.gen (E8 (fun b=>S b∨n1≤b) (.mk 4 [] [F,G] 0 0 false)) (BV _ _),.gen (E8 (fun b=>S b∨n1≤b) N) (BV _ _),.eq undef]:=⟨_,rfl⟩;refine Iq [true,true,true,true,true,true,true,false] [7] [43,44,45,46,47,48,49,117] [[],[],[],[1,2],[0,3],[4],[3,5],[]] c8 ai mixed qK qK qK qK ?_ ?_
      · intro wd X0;refine DagStepsP.cons (fun s' w' X U H=>Or.inl ⟨?_,?_⟩) ?_
        · exact AD rfl
        · exact AW (AK (vs:=[(I6 F.kind),(.slice ae F.set.length ah),(.slice ag F.args.length af),(I6 F.mn),(I6 F.mx),(.bool F.neg)]) (U 6 rfl) Ad AH rfl (((X0.trans X).keep B6).cells rfl)) (Ae.refl _) rfl
        refine DagStepsP.cons (fun s' w' X U H=>Or.inl ⟨?_,?_⟩) ?_
        · exact AD rfl
        · exact AW (AK (vs:=[(I6 R.kind),(.slice xa R.set.length xc),(.slice ya R.args.length yc),(I6 R.mn),(I6 R.mx),(.bool R.neg)]) (U 5 rfl) Ad AH rfl (((X0.trans X).keep Bq).cells rfl)) (Ae.refl _) rfl
        refine DagStepsP.cons (fun s' w' X U H=>Or.inl ⟨?_,?_⟩) ?_
        · exact AD rfl
        · exact AW (Ai (v:=(I6 c)) (U 1 rfl)) (Ae.refl _) rfl
        refine DagStepsP.cons (fun s' w' X U H=>Or.inl ⟨?_,?_⟩) ?_
        · exact AD rfl
        · have da:s' 44=(.agg #[(.int .i64 R.kind),(.slice xa R.set.length xc),(.slice ya R.args.length yc),(.int .i64 R.mn),(.int .i64 R.mx),(.bool R.neg)]):=H 1 rfl 44 (.eq (.agg #[(.int .i64 R.kind),(.slice xa R.set.length xc),(.slice ya R.args.length yc),(.int .i64 R.mn),(.int .i64 R.mx),(.bool R.neg)])) rfl (by rw[ai];rfl);have c3:s' 45=(.int .i64 c):=H 2 rfl 45 (.eq (.int .i64 c)) rfl (by rw[ai];rfl);exact A7 (AI (vs:=[(.agg (R6 R xa xc ya yc)),(I6 c)]) func120 kQ kQ (G8 da c3)) ((ih R _ (fun b=>(S b∨n1≤b)∧b<bs) _ qO a5 (AS.ext (X0.trans X) R aj) (fun y hy=>by have:=hy.2;have:=X0.size;have:=X.size;omega)).mono (fun r w h=>⟨Cx (S':=fun b=>((S b∨n1≤b)∧b<bs)∨w'.heap.size≤b) (fun b hb=>by rcases hb with h1|h1;exact h1.1;exact .inr (by have:=X0.size;have:=X.size;omega)) (by rw[hG];exact h.1),h.2⟩))
        refine DagStepsP.cons (fun s' w' X U H=>Or.inl ⟨?_,?_⟩) ?_
        · exact AD rfl
        · have ci:s' 43=(.agg #[(.int .i64 F.kind),(.slice ae F.set.length ah),(.slice ag F.args.length af),(.int .i64 F.mn),(.int .i64 F.mx),(.bool F.neg)]):=H 0 rfl 43 (.eq (.agg #[(.int .i64 F.kind),(.slice ae F.set.length ah),(.slice ag F.args.length af),(.int .i64 F.mn),(.int .i64 F.mx),(.bool F.neg)])) rfl (by rw[ai];rfl);obtain ⟨c1,cn,ct,dg,ce,di⟩:=H 3 rfl 46 (.gen (E8 (fun b=>S b∨n1≤b) G) (BV _ _)) rfl (by rw[ai];rfl);exact It ci ce (AS.mono (fun y hy=>(a4 y hy).1) F (AS.ext (X0.trans X) F al)) di (fun b hb=>.inr (by have:=X0.size;have:=X.size;omega))
        refine DagStepsP.cons (fun s' w' X U H=>Or.inl ⟨?_,?_⟩) ?_
        · exact AD rfl
        · obtain ⟨b47,cz,cq⟩:=H 4 rfl 47 (.gen (Pe (fun b=>S b∨n1≤b) [F,G]) (Ea _ _)) rfl (by rw[ai];rfl);exact QJ cz cq rfl
        refine DagStepsP.cons (fun s' w' X U H=>Or.inl ⟨?_,?_⟩) ?_
        · exact AD rfl
        · obtain ⟨bw,bz,bp,bv,c5,cx⟩:=H 5 rfl 48 (.gen (E8 (fun b=>S b∨n1≤b) (.mk 4 [] [F,G] 0 0 false)) (BV _ _)) rfl (by rw[ai];rfl);exact A7 (AI (vs:=[(.agg #[(I6 4),(.slice bw 0 bz),(.slice bp 2 bv),(I6 0),(I6 0),(.bool false)])]) func113 kQ kQ (G9 c5)) ((J8 _ (fun b=>(S b∨n1≤b)∧b<w'.heap.size) (.mk 4 [] [F,G] 0 0 false) _ (AS.lt _ cx) (fun y hy=>hy.2) (YF _) (fun y hy=>by simp only[Re.args,List.mem_cons,List.not_mem_nil,or_false] at hy;rcases hy with rfl|rfl;exact b9;exact cr) (by simp only[Re.args,Re.sizes];omega)).mono (fun r w h=>⟨Cx (S':=fun b=>((S b∨n1≤b)∧b<w'.heap.size)∨w'.heap.size≤b) (fun b hb=>by rcases hb with h1|h1;exact h1.1;exact .inr (by have:=X0.size;have:=X.size;omega)) (by rw[hN];exact h.1),h.2⟩))
        refine DagStepsP.tail ?_;exact DagStepsP.nil
      · intro s' w7 X7 U H;obtain ⟨au,ar,aq,aw,co,bx⟩:=H 6 rfl 49 (.gen (E8 (fun b=>S b∨n1≤b) N) (BV _ _)) rfl (by rw[ai];rfl);obtain ⟨j7,rfl⟩:=Am.out (σ:=s') (l:=[(4,(.pointer (some ⟨bo,0,none⟩))),(49,(.agg #[(.int .i64 N.kind),(.slice au N.set.length ar),(.slice aq N.args.length aw),(.int .i64 N.mn),(.int .i64 N.mx),(.bool N.neg)]))]) ⟨U 4 rfl,co,trivial⟩;clear U H;replace Br:=X7.keep Br;replace Bo:=X7.keep Bo;replace Bq:=X7.keep Bq;replace B6:=X7.keep B6;replace E:=E.ext X7;refine Ab (b:=bo) (o:=0) (c':=(R6 N au ar aq aw)) rfl rfl qS AH rfl Bo qL rfl ?_;intro w8 S8;replace bx:=AS.chg S8.chg (fun y hy h=>by have h2:y=bo:=h;rcases hy with h1|h1;have:=hS y h1;omega;omega) _ bx;replace Br:=S8.keep qO Br;replace Bq:=S8.keep qO Bq;replace B6:=S8.keep qO B6;replace E:=S8.step E qQ;replace Bo:=S8.blk;refine AB (AC (AJ (Ac (AP (A1 results120 (vs:=[(.int .i64 N.kind),(.slice au N.set.length ar),(.slice aq N.args.length aw),(.int .i64 N.mn),(.int .i64 N.mx),(.bool N.neg)]) (b:=bo) rfl Ad AH rfl (Bo.cells rfl) ?_)))));exact ⟨⟨_,rfl,by rw[if_pos (by simpa using he)];exact AS.mono (fun y hy=>by rcases hy with h1|h1;exact .inl h1;exact .inr qO) _ bx⟩,E⟩
end Go.Proofs
namespace Go.Proofs
open Go Go.Eng Go.Sort
set_option maxRecDepth 100000
theorem YE {m x:Int} (y:Re) (h:0<=m∧m<=x∧x<=8):PreN 6 [] [y] m x false:=⟨qO,O,λ_=>rfl,qO,qO,qO,λ_=>rfl,λ_=>h⟩
theorem Us (c:Int) (n:Nat) (ih:Gv c n) (t:Re) (hn:t.size≤n) (h300:t.size≤300) (hok:Au t) (hk:t.kind=6) (w0:World) (S:Nat→Prop) (vs:List Value) (ht:AS S w0 t vs) (hS:∀x,S x→x<w0.heap.size) :
  Bi prog 120 #[.agg vs.toArray,.int .i64 c] w0 fun r w=>(∃us,r=.agg us.toArray∧AS (fun b=>S b∨w0.heap.size≤b) w (A6 c t) us)∧Ae w0 w:=by
 have c2:=ht;obtain ⟨sa,sc,aa,ac,rfl,cr,cf,a3⟩:=ht.form;have hRs:DH S w0 (.slice aa t.args.length ac) t.args:=Lu c2;have hal:=CR t;have bc:=t.size_eq;obtain ⟨x,a7,cx,cv,hm1,hm2,hm3,hm4,hm5⟩:=hok.n.k6 hk;have a0:Au x:=hok.a x (by rw[a7];simp);have hx:t.args[0]?=some x:=by rw[a7];rfl
 have ci:t.args.length=1:=by rw[a7];rfl
 have hxz:=Re.size_arg hx;obtain ⟨ab,ao,hab,rfl,bd⟩:=a3.resolve_left (fun h=>by rw[h] at hx;cases hx);obtain ⟨us,bw,b5⟩:=bd.get hx;have ax:=b5;obtain ⟨aq,av,aw,au,rfl,_,_,_⟩:=b5.form;obtain ⟨m1,bz⟩:∃m1,m1=max 0 (t.mn - 1):=⟨_,rfl⟩;obtain ⟨x1,b4⟩:∃x1,x1=t.mx - 1:=⟨_,rfl⟩;obtain ⟨R,hR⟩:∃R,R=EL (.mk 6 [] [x] m1 x1 false):=⟨_,rfl⟩;have bt:PreN 6 [] [x] m1 x1 false:=YE x qO;have ch:Au R:=by rw[hR];exact IN bt (by intro z hz;simp at hz;subst hz;exact a0)
 have hRz:R.size≤400:=by
  have h4:=GE (k:=6) (s:=[]) (a:=[x]) (m:=m1) (x:=x1) (g:=false) qO qO;rw[hR,Eg];simp only[Re.sizes] at h4;simp only[Re.kind,Re.set,Re.args,Re.mn,Re.mx,Re.neg];omega
 obtain ⟨D,hD⟩:∃D,D=A6 c x:=⟨_,rfl⟩;obtain ⟨F,hF⟩:∃F,F=De [D,R]:=⟨_,rfl⟩;have cg:Au D:=by rw[hD];exact Ds c a0
 have hDz:D.size≤200000:=by rw[hD];exact FA a0 qO
 have b6:A6 c t=F:=by rw[hF,hD,hR,bz,b4];exact YQ hk a7
 rw[b6];clear b6 bc;refine qR func120 rfl ntmps120 rfl (fun E=>(AA (BL (v:=(.agg (R6 t sa sc (some ⟨ab,ao,none⟩) ac))) (c:=(R6 t sa sc (some ⟨ab,ao,none⟩) ac)) qD rfl rfl ?_)));intro br wr Nr;have Fr:=Nr.ge E;replace E:=E.ext Nr.ext;have Br:=Nr.blk;refine Bg (c:=#[(I6 0),(.slice none 0 0),(.slice none 0 0),(I6 0),(I6 0),(.bool false)]) qD A9 rfl ?_;intro bo wo No;have Fo:=No.ge E;have Oo_br:=No.lt Br;replace Br:=No.keep Br;replace E:=E.ext No.ext;have Bo:=No.blk;refine AB (AG (AA (qF br 0 0 rfl underlying25 rfl Ay rfl (qV (AL rfl Al (Br.cell rfl)) (AB (AU (AA (qV (Aj rfl rfl) (qA _ rfl (AB ?_))))))))));obtain ⟨n1,bk⟩:∃n1,n1=wo.heap.size:=⟨_,rfl⟩;have hob:br<n1∧bo<n1∧w0.heap.size≤bo∧w0.heap.size≤n1:=⟨by rw[bk];exact Br.lt,by rw[bk];exact Bo.lt,qO,by rw[bk];exact E.size⟩;have c0:n1≤wo.heap.size:=qO
 have cw:(decide ((t.kind:Int)=2))=false:=decide_eq_false qO;refine Ah (BC cw) (AA (qV (Aj rfl rfl) (qA _ rfl (AB ?_))));have b8:(decide ((t.kind:Int)=3))=false:=decide_eq_false qO;refine Ah (BC b8) (AG (AA (qV (Aj rfl rfl) (qA _ rfl (AB ?_)))));have co:(decide ((t.kind:Int)=4))=false:=decide_eq_false qO;refine Ah (BC co) (AA (qV (Aj rfl rfl) (qA _ rfl (AB ?_))));have ce:(decide ((t.kind:Int)=7))=false:=decide_eq_false qO;refine Ah (BC ce) (AR (qV (Aj rfl rfl) (qA _ rfl (AB (AC ?_)))));have cm:(decide ((t.kind:Int)=8))=false:=decide_eq_false qO;refine Ah (BC cm) (AA (qV (Aj rfl rfl) (qA _ rfl (AB ?_))));have b9:(decide ((t.kind:Int)=5))=false:=decide_eq_false qO;refine Ah (BC b9) (AA (qV (Aj rfl rfl) (qA _ rfl (AB ?_))));have cc:(decide ((t.kind:Int)=6))=true:=decide_eq_true hk;refine Az (BC cc) ?_;have cl:w0.heap.size≤wo.heap.size:=E.size;have a5:br<wo.heap.size:=Br.lt;have a6:bo<wo.heap.size:=Bo.lt;refine AG ?_;obtain ⟨cp,ad⟩:∃Fs:(Nat→Prop)→List Fact,Fs=fun RR=>[.eq (P6 br 2),.eq (.slice (some ⟨ab,ao,none⟩) t.args.length ac),.eq (.pointer (some ⟨ab,ao+0*6,none⟩)),.eq (.agg (R6 x aq av aw au)),.gen (Pe RR [x]) (Ea _ _),.eq (P6 br 3),.eq (I6 t.mn),.eq (I6 (t.mn - 1)),.eq (I6 m1),.eq (P6 br 4),.eq (I6 t.mx),.eq (I6 (t.mx - 1)),.gen (E8 RR (.mk 6 [] [x] m1 x1 false)) (BV _ _),.gen (E8 RR R) (BV _ _),.gen (RD 25 #[(I6 0),(.slice none 0 0),(.slice none 0 0),(I6 0),(I6 0),(.bool false)] wo.heap.size) (Fb _ _ _),.eq undef]:=⟨_,rfl⟩;refine NQ [true,true,true,true,true,true,true,true,true,true,true,true,true,true,true,false] [15] 16 15 [] [86,87,88,89,90,91,92,93,94,95,96,97,98,99,10,125] [[],[0],[1],[2],[3],[],[5],[6],[7],[],[9],[10],[4,8,11],[12],[],[]] cp ad (fun b=>S b∨n1≤b) (fun y hy=>.inr qO) 14 10 (lo:=wo.heap.size) (Nat.le_refl _) rfl rfl (SP.mk' A9 rfl) (fun RR=>⟨_,by rw[ad];rfl⟩) (fun n=>by rw[ad];repeat (first|exact Cvs.nil|refine Cvs.same ?_|refine Cvs.cons (fun v w e h=>by first|exact Pg e h|exact Pd e h|exact Mo e h) ?_)) mixed qK qK rfl qK qK qK ?_ ?_ (fun h9=>absurd h9 qD)
 ·intro wd X0 RR bl a1;refine DagStepsP.cons (fun s' w' X U H=>Or.inl ⟨?_,?_⟩) ?_
  ·exact AD rfl
  ·exact AW (AY (U 2 rfl) underlying25 rfl CG rfl) (Ae.refl _) rfl
  refine DagStepsP.cons (fun s' w' X U H=>Or.inl ⟨?_,?_⟩) ?_
  ·exact AD rfl
  ·have cs:s' 86=(.pointer (some ⟨br,2,none⟩)):=H 0 rfl 86 (.eq (.pointer (some ⟨br,2,none⟩))) rfl (by rw[ad];rfl);exact AW (AL cs B0 (((X0.trans X).keep Br).cell rfl)) (Ae.refl _) rfl
  refine DagStepsP.cons (fun s' w' X U H=>Or.inl ⟨?_,?_⟩) ?_
  ·exact AD rfl
  ·have cb:s' 87=(.slice (some ⟨ab,ao,none⟩) t.args.length ac):=H 1 rfl 87 (.eq (.slice (some ⟨ab,ao,none⟩) t.args.length ac)) rfl (by rw[ad];rfl);exact AW (AN (i:=0) cb rfl rfl underlying23 AH qO qO) (Ae.refl _) rfl
  refine DagStepsP.cons (fun s' w' X U H=>Or.inl ⟨?_,?_⟩) ?_
  ·exact AD rfl
  ·have c4:s' 88=(.pointer (some ⟨ab,ao+0*6,none⟩)):=H 2 rfl 88 (.eq (.pointer (some ⟨ab,ao+0*6,none⟩))) rfl (by rw[ad];rfl);exact AW (AK c4 Ad AH rfl (bw.ext (Ae.trans E (X0.trans X)))) (Ae.refl _) rfl
  refine DagStepsP.cons (fun s' w' X U H=>Or.inl ⟨?_,?_⟩) ?_
  ·exact AD rfl
  ·have cq:s' 89=(.agg #[(.int .i64 x.kind),(.slice aq x.set.length av),(.slice aw x.args.length au),(.int .i64 x.mn),(.int .i64 x.mx),(.bool x.neg)]):=H 3 rfl 89 (.eq (.agg #[(.int .i64 x.kind),(.slice aq x.set.length av),(.slice aw x.args.length au),(.int .i64 x.mn),(.int .i64 x.mx),(.bool x.neg)])) rfl (by rw[ad];rfl);exact SL cq (AS.mono (fun y hy=>bl y (by have:=hS y hy;have:=E.size;omega) (.inl hy)) x (AS.ext (Ae.trans E (X0.trans X)) x ax)) (fun b hb=>a1 b (by have:=X.size;omega))
  refine DagStepsP.cons (fun s' w' X U H=>Or.inl ⟨?_,?_⟩) ?_
  ·exact AD rfl
  ·exact AW (AY (U 2 rfl) underlying25 rfl Ay rfl) (Ae.refl _) rfl
  refine DagStepsP.cons (fun s' w' X U H=>Or.inl ⟨?_,?_⟩) ?_
  ·exact AD rfl
  ·have ck:s' 91=(.pointer (some ⟨br,3,none⟩)):=H 5 rfl 91 (.eq (.pointer (some ⟨br,3,none⟩))) rfl (by rw[ad];rfl);exact AW (AL ck Al (((X0.trans X).keep Br).cell rfl)) (Ae.refl _) rfl
  refine DagStepsP.cons (fun s' w' X U H=>Or.inl ⟨?_,?_⟩) ?_
  ·exact AD rfl
  ·have c5:s' 92=(.int .i64 t.mn):=H 6 rfl 92 (.eq (.int .i64 t.mn)) rfl (by rw[ad];rfl);exact AW (DI c5 rfl (A8 qO)) (Ae.refl _) rfl
  refine DagStepsP.cons (fun s' w' X U H=>Or.inl ⟨?_,?_⟩) ?_
  ·exact AD rfl
  ·have cn:s' 93=(.int .i64 (t.mn - 1)):=H 7 rfl 93 (.eq (.int .i64 (t.mn - 1))) rfl (by rw[ad];rfl);exact AW (TJ (c:=m1) rfl cn bz.symm) (Ae.refl _) rfl
  refine DagStepsP.cons (fun s' w' X U H=>Or.inl ⟨?_,?_⟩) ?_
  ·exact AD rfl
  ·exact AW (AY (U 2 rfl) underlying25 rfl Ay rfl) (Ae.refl _) rfl
  refine DagStepsP.cons (fun s' w' X U H=>Or.inl ⟨?_,?_⟩) ?_
  ·exact AD rfl
  ·have c1:s' 95=(.pointer (some ⟨br,4,none⟩)):=H 9 rfl 95 (.eq (.pointer (some ⟨br,4,none⟩))) rfl (by rw[ad];rfl);exact AW (AL c1 Al (((X0.trans X).keep Br).cell rfl)) (Ae.refl _) rfl
  refine DagStepsP.cons (fun s' w' X U H=>Or.inl ⟨?_,?_⟩) ?_
  ·exact AD rfl
  ·have c6:s' 96=(.int .i64 t.mx):=H 10 rfl 96 (.eq (.int .i64 t.mx)) rfl (by rw[ad];rfl);exact AW (DI c6 rfl (A8 qO)) (Ae.refl _) rfl
  refine DagStepsP.cons (fun s' w' X U H=>Or.inl ⟨?_,?_⟩) ?_
  ·exact AD rfl
  ·obtain ⟨b90,b7,ca⟩:=H 4 rfl 90 (.gen (Pe RR [x]) (Ea _ _)) rfl (by rw[ad];rfl);have c7:s' 94=(.int .i64 m1):=H 8 rfl 94 (.eq (.int .i64 m1)) rfl (by rw[ad];rfl);have ct:s' 97=(.int .i64 (t.mx - 1)):=H 11 rfl 97 (.eq (.int .i64 (t.mx - 1))) rfl (by rw[ad];rfl);exact QI b7 c7 (ct.trans (by rw[b4])) ca rfl
  refine DagStepsP.cons (fun s' w' X U H=>Or.inl ⟨?_,?_⟩) ?_
  ·exact AD rfl
  ·obtain ⟨cu,c8,cy,c3,cd,cz⟩:=H 12 rfl 98 (.gen (E8 RR (.mk 6 [] [x] m1 x1 false)) (BV _ _)) rfl (by rw[ad];rfl);exact A7 (AI func113 kQ kQ (G9 cd)) ((J8 _ (fun b=>RR b∧b<w'.heap.size) (.mk 6 [] [x] m1 x1 false) _ (AS.lt _ cz) (fun y hy=>hy.2) bt (fun y hy=>by simp only[Re.args,List.mem_cons,List.not_mem_nil,or_false] at hy;subst hy;exact a0) (by simp only[Re.args,Re.sizes];omega)).mono (fun r w h=>⟨Cx (S':=fun b=>(RR b∧b<w'.heap.size)∨w'.heap.size≤b) (fun b hb=>by rcases hb with h1|h1;exact h1.1;exact a1 b (by have:=X.size;omega)) (by rw[hR];exact h.1),h.2⟩))
  refine DagStepsP.cons (fun s' w' X U H=>Or.inl ⟨?_,?_⟩) ?_
  ·exact AD rfl
  ·exact H_ (c:=#[(I6 0),(.slice none 0 0),(.slice none 0 0),(I6 0),(I6 0),(.bool false)]) A9 rfl (by have:=X0.size;have:=X.size;omega)
  refine DagStepsP.tail ?_;exact DagStepsP.nil
 ·intro s' w8 RR β X8 U be hβ H;obtain ⟨ai,ak,al,ag,c9,bi⟩:=H 13 rfl 99 (.gen (E8 RR R) (BV _ _)) rfl (by rw[ad];rfl);obtain ⟨a4,b0,an,g10⟩:=H 14 rfl 10 (.gen (RD 25 #[(.int .i64 0),(.slice none 0 0),(.slice none 0 0),(.int .i64 0),(.int .i64 0),(.bool false)] wo.heap.size) (Fb _ _ _)) rfl (by rw[ad];rfl);have b2:β=a4:=by have h9:=b0.symm.trans hβ;simpa using h9.symm
  rw[b2] at be;clear hβ b2 β;obtain ⟨j8,rfl⟩:=Am.out (σ:=s') (l:=[(1,(.int .i64 c)),(2,(.pointer (some ⟨br,0,none⟩))),(4,(.pointer (some ⟨bo,0,none⟩))),(99,(.agg #[(.int .i64 R.kind),(.slice ai R.set.length ak),(.slice al R.args.length ag),(.int .i64 R.mn),(.int .i64 R.mx),(.bool R.neg)])),(10,(.pointer (some ⟨a4,0,none⟩)))]) ⟨U 1 rfl,U 2 rfl,U 4 rfl,c9,b0,trivial⟩;clear U H;replace Br:=X8.keep Br;replace Bo:=X8.keep Bo;replace E:=E.ext X8;refine Ab (b:=a4) (o:=0) (c':=(R6 R ai ak al ag)) rfl rfl qS AH rfl an qL rfl ?_;intro w9 S9;replace bi:=AS.chg S9.chg (fun y hy h=>by have h2:y=a4:=h;have:=(be y hy).2;omega) _ bi;replace Br:=S9.keep qO Br;replace Bo:=S9.keep qO Bo;replace E:=S9.step E qQ;replace an:=S9.blk;refine AB (AC ?_);have b3:w0.heap.size≤w9.heap.size:=E.size;have az:br<w9.heap.size:=Br.lt;have a2:bo<w9.heap.size:=Bo.lt;have ar:a4<w9.heap.size:=an.lt;refine AG ?_;obtain ⟨bj,ae⟩:∃Fs:List Fact,Fs=[.eq (P6 br 2),.eq (.slice (some ⟨ab,ao,none⟩) t.args.length ac),.eq (.pointer (some ⟨ab,ao+0*6,none⟩)),.eq (.agg (R6 x aq av aw au)),.eq (I6 c),.gen (E8 (fun b=>S b∨n1≤b) D) (BV _ _),.eq (.agg (R6 R ai ak al ag)),.gen (Pe (fun b=>S b∨n1≤b) [D,R]) (Ea _ _),.gen (E8 (fun b=>S b∨n1≤b) F) (BV _ _),.eq undef]:=⟨_,rfl⟩;refine Iq [true,true,true,true,true,true,true,true,true,false] [9] [100,101,102,103,104,105,106,107,108,119] [[],[0],[1],[2],[],[3,4],[],[5,6],[5,7],[]] bj ae mixed qK qK qK qK ?_ ?_
  ·intro wd X0;refine DagStepsP.cons (fun s' w' X U H=>Or.inl ⟨?_,?_⟩) ?_
   ·exact AD rfl
   ·exact AW (AY (U 2 rfl) underlying25 rfl CG rfl) (Ae.refl _) rfl
   refine DagStepsP.cons (fun s' w' X U H=>Or.inl ⟨?_,?_⟩) ?_
   ·exact AD rfl
   ·have bg:s' 100=(.pointer (some ⟨br,2,none⟩)):=H 0 rfl 100 (.eq (.pointer (some ⟨br,2,none⟩))) rfl (by rw[ae];rfl);exact AW (AL bg B0 (((X0.trans X).keep Br).cell rfl)) (Ae.refl _) rfl
   refine DagStepsP.cons (fun s' w' X U H=>Or.inl ⟨?_,?_⟩) ?_
   ·exact AD rfl
   ·have bq:s' 101=(.slice (some ⟨ab,ao,none⟩) t.args.length ac):=H 1 rfl 101 (.eq (.slice (some ⟨ab,ao,none⟩) t.args.length ac)) rfl (by rw[ae];rfl);exact AW (AN (i:=0) bq rfl rfl underlying23 AH qO qO) (Ae.refl _) rfl
   refine DagStepsP.cons (fun s' w' X U H=>Or.inl ⟨?_,?_⟩) ?_
   ·exact AD rfl
   ·have ba:s' 102=(.pointer (some ⟨ab,ao+0*6,none⟩)):=H 2 rfl 102 (.eq (.pointer (some ⟨ab,ao+0*6,none⟩))) rfl (by rw[ae];rfl);exact AW (AK ba Ad AH rfl (bw.ext (Ae.trans E (X0.trans X)))) (Ae.refl _) rfl
   refine DagStepsP.cons (fun s' w' X U H=>Or.inl ⟨?_,?_⟩) ?_
   ·exact AD rfl
   ·exact AW (Ai (U 1 rfl)) (Ae.refl _) rfl
   refine DagStepsP.cons (fun s' w' X U H=>Or.inl ⟨?_,?_⟩) ?_
   ·exact AD rfl
   ·have bh:s' 103=(.agg #[(.int .i64 x.kind),(.slice aq x.set.length av),(.slice aw x.args.length au),(.int .i64 x.mn),(.int .i64 x.mx),(.bool x.neg)]):=H 3 rfl 103 (.eq (.agg #[(.int .i64 x.kind),(.slice aq x.set.length av),(.slice aw x.args.length au),(.int .i64 x.mn),(.int .i64 x.mx),(.bool x.neg)])) rfl (by rw[ae];rfl);have bb:s' 104=(.int .i64 c):=H 4 rfl 104 (.eq (.int .i64 c)) rfl (by rw[ae];rfl);exact A7 (AI func120 kQ kQ (G8 bh bb)) ((ih x _ S _ qO a0 (AS.ext (Ae.trans E (X0.trans X)) x ax) (fun y hy=>by have:=hS y hy;have:=E.size;have:=X0.size;have:=X.size;omega)).mono (fun r w h=>⟨Cx (S':=fun b=>S b∨w'.heap.size≤b) (fun b hb=>by rcases hb with h1|h1;exact .inl h1;exact .inr (by have:=E.size;have:=X0.size;have:=X.size;omega)) (by rw[hD];exact h.1),h.2⟩))
   refine DagStepsP.cons (fun s' w' X U H=>Or.inl ⟨?_,?_⟩) ?_
   ·exact AD rfl
   ·exact AW (AK (U 10 rfl) Ad AH rfl (((X0.trans X).keep an).cells rfl)) (Ae.refl _) rfl
   refine DagStepsP.cons (fun s' w' X U H=>Or.inl ⟨?_,?_⟩) ?_
   ·exact AD rfl
   ·obtain ⟨bu,b1,bv,bx,a9,bn⟩:=H 5 rfl 105 (.gen (E8 (fun b=>S b∨n1≤b) D) (BV _ _)) rfl (by rw[ae];rfl);have bp:s' 106=(.agg #[(.int .i64 R.kind),(.slice ai R.set.length ak),(.slice al R.args.length ag),(.int .i64 R.mn),(.int .i64 R.mx),(.bool R.neg)]):=H 6 rfl 106 (.eq (.agg #[(.int .i64 R.kind),(.slice ai R.set.length ak),(.slice al R.args.length ag),(.int .i64 R.mn),(.int .i64 R.mx),(.bool R.neg)])) rfl (by rw[ae];rfl);exact It a9 bp bn (AS.mono (fun y hy=>(be y hy).1) R (AS.ext (X0.trans X) R bi)) (fun b hb=>.inr (by have:=E.size;have:=X0.size;have:=X.size;omega))
   refine DagStepsP.cons (fun s' w' X U H=>Or.inl ⟨?_,?_⟩) ?_
   ·exact AD rfl
   ·obtain ⟨cj,bf,bs⟩:=H 7 rfl 107 (.gen (Pe (fun b=>S b∨n1≤b) [D,R]) (Ea _ _)) rfl (by rw[ae];rfl);exact A7 (AI func140 kQ kQ (G9 bf)) ((K7 _ (fun b=>(S b∨n1≤b)∧b<w'.heap.size) _ [D,R] (DH.lt bs) (fun y hy=>hy.2) (fun y hm hk=>by rcases List.mem_cons.1 hm with rfl|hm;exact (Cm cg).1 (.inl hk);simp at hm;subst hm;exact (Cm ch).1 (.inl hk)) (by simp only[Re.sizes];omega)).mono (fun r w h=>⟨Cx (S':=fun b=>((S b∨n1≤b)∧b<w'.heap.size)∨w'.heap.size≤b) (fun b hb=>by rcases hb with h1|h1;exact h1.1;exact .inr (by have:=E.size;have:=X0.size;have:=X.size;omega)) (by rw[hF];exact h.1),h.2⟩))
   refine DagStepsP.tail ?_;exact DagStepsP.nil
  ·intro s' w10 a8 U H;obtain ⟨ah,aj,af,am,bm,ap⟩:=H 8 rfl 108 (.gen (E8 (fun b=>S b∨n1≤b) F) (BV _ _)) rfl (by rw[ae];rfl);obtain ⟨j10,rfl⟩:=Am.out (σ:=s') (l:=[(4,(.pointer (some ⟨bo,0,none⟩))),(108,(.agg #[(.int .i64 F.kind),(.slice ah F.set.length aj),(.slice af F.args.length am),(.int .i64 F.mn),(.int .i64 F.mx),(.bool F.neg)]))]) ⟨U 4 rfl,bm,trivial⟩;clear U H;replace Br:=a8.keep Br;replace Bo:=a8.keep Bo;replace an:=a8.keep an;replace E:=E.ext a8;refine Ab (b:=bo) (o:=0) (c':=(R6 F ah aj af am)) rfl rfl qS AH rfl Bo qL rfl ?_;intro w11 ay;replace ap:=AS.chg ay.chg (fun y hy h=>by have h2:y=bo:=h;rcases hy with h1|h1;have:=hS y h1;omega;omega) _ ap;replace Br:=ay.keep qO Br;replace an:=ay.keep qO an;replace E:=ay.step E qQ;replace Bo:=ay.blk;refine AB (AC (AJ (Ac (AP (A1 results120 (vs:=[(.int .i64 F.kind),(.slice ah F.set.length aj),(.slice af F.args.length am),(.int .i64 F.mn),(.int .i64 F.mx),(.bool F.neg)]) (b:=bo) rfl Ad AH rfl (Bo.cells rfl) ?_)))));exact ⟨⟨_,rfl,AS.mono (fun y hy=>by rcases hy with h1|h1;exact .inl h1;exact .inr qO) _ ap⟩,E⟩
end Go.Proofs
namespace Go.Proofs
open Go Go.Eng Go.Sort
set_option maxRecDepth 100000
theorem Wi {k:Int} {l m:List Re} (hk:k=4∨k=7∨k=8) (a:k=8->l.length=1) (b:m.length=l.length):PreN k [] m 0 0 false:=⟨qO,O,λ_=>rfl,λ_=>⟨O,O⟩,qO,qO,λh=>by rw[b];exact a qO,qO⟩
theorem Nc {c:Int} {a:List Re} (h:∀x∈a,Au x) (d:Re.sizes a<=300):Re.sizes (a.map (A6 c))<=200000:=by
 have b:=Hp c 300 (FD.2 h) d;have h2:(300+6)*(2*Re.sizes a)<=(300+6)*600:=Nat.mul_le_mul_left _ qO;rw[Hq] at b;omega
theorem Uu (c:Int) (n:Nat) (ih:Gv c n) (t:Re) (hn:t.size≤n) (h300:t.size≤300) (hok:Au t) (hk:t.kind=4∨t.kind=7∨t.kind=8) (w0:World) (S:Nat→Prop) (vs:List Value) (ht:AS S w0 t vs) (hS:∀x,S x→x<w0.heap.size) :
  Bi prog 120 #[.agg vs.toArray,.int .i64 c] w0 fun r w=>(∃us,r=.agg us.toArray∧AS (fun b=>S b∨w0.heap.size≤b) w (A6 c t) us)∧Ae w0 w:=by
 have ht0:=ht;obtain ⟨sa,sc,aa,ac,rfl,be,bk,ah⟩:=ht.form;have hal:=CR t;have bh:=t.size_eq;obtain ⟨N,hN⟩:∃N,N=EL (.mk t.kind [] (t.args.map (A6 c)) 0 0 false):=⟨_,rfl⟩;have a8:A6 c t=N:=by rw[hN];exact XX hk
 rw[a8];clear a8;have h8:t.kind=8→t.args.length=1:=fun h=>by obtain ⟨y,hy,_⟩:=hok.n.k8 h;rw[hy];rfl
 refine qR func120 rfl ntmps120 rfl (fun E=>(AA (BL (v:=(.agg (R6 t sa sc aa ac))) (c:=(R6 t sa sc aa ac)) qD rfl rfl ?_)));intro br wr Nr;have Fr:=Nr.ge E;replace E:=E.ext Nr.ext;have Br:=Nr.blk;refine Bg (c:=#[(I6 0),(.slice none 0 0),(.slice none 0 0),(I6 0),(I6 0),(.bool false)]) qD A9 rfl ?_;intro bo wo No;have Fo:=No.ge E;have Oo_br:=No.lt Br;replace Br:=No.keep Br;replace E:=E.ext No.ext;have Bo:=No.blk;refine AB (AG (AA (qF br 0 0 rfl underlying25 rfl Ay rfl (qV (AL rfl Al (Br.cell rfl)) (AB (AU (AA (qV (Aj rfl rfl) (qA _ rfl (AB ?_))))))))));obtain ⟨n1,al⟩:∃n1,n1=wo.heap.size:=⟨_,rfl⟩;have hob:br<n1∧bo<n1∧w0.heap.size≤bo∧w0.heap.size≤n1:=⟨by rw[al];exact Br.lt,by rw[al];exact Bo.lt,qO,by rw[al];exact E.size⟩;have ae:n1≤wo.heap.size:=qO
 have bg:(decide ((t.kind:Int)=2))=false:=decide_eq_false qO;refine Ah (BC bg) (AA (qV (Aj rfl rfl) (qA _ rfl (AB ?_))));have ba:(decide ((t.kind:Int)=3))=false:=decide_eq_false qO;refine Ah (BC ba) (JV (fun σ W3=>∃(q:Bool),(∃jj_,σ=Bj jj_ [(1,(I6 c)),(2,(P6 br 0)),(4,(P6 bo 0)),(12,(I6 t.kind)),(50,(.bool q))])∧Chg Ak w0 W3∧BH W3 br (R6 t sa sc aa ac) 25∧BH W3 bo #[(I6 0),(.slice none 0 0),(.slice none 0 0),(I6 0),(I6 0),(.bool false)] 25∧(q=true)∧(n1≤W3.heap.size)) ?_ ?_)
 ·skip
  refine AA (qV (Aj rfl rfl) (qA _ rfl (AB (qC rfl (fun h4=>?_) (fun h4=>?_)))))
  ·refine AO (AC ?_);exact ⟨(decide ((t.kind:Int)=4)),Am.out ⟨rfl,rfl,rfl,rfl,rfl,trivial⟩,E,Br,Bo,decide_eq_true h4,ae⟩
  ·refine AA (qV (Aj rfl rfl) (qA _ rfl (AB (qC rfl (fun h7=>?_) (fun h7=>?_)))))
   ·refine AO (AC ?_);exact ⟨(decide ((t.kind:Int)=7)),Am.out ⟨rfl,rfl,rfl,rfl,rfl,trivial⟩,E,Br,Bo,decide_eq_true h7,ae⟩
   ·refine AR (qV (Aj rfl rfl) (qA _ rfl (AB (AC ?_))));exact ⟨(decide ((t.kind:Int)=8)),Am.out ⟨rfl,rfl,rfl,rfl,rfl,trivial⟩,E,Br,Bo,decide_eq_true qO,ae⟩
 ·clear E Br Bo;rintro _ W3 ⟨q,⟨j3,rfl⟩,E,Br,Bo,hq,ae⟩;have bb:(q)=true:=hq;refine Az (BC bb) (AA (qA _ rfl (AB (AG (AA (qF br 0 2 rfl underlying25 rfl CG rfl (qV (AL rfl B0 (Br.cell rfl)) (qV (Aa underlying23 rfl) (qM _ rfl (AB (AU (Av (fun nn_ σ W7=>∃(i:Nat) (la:Option Addr) (lc:Nat) (ad:List (List Value)) (T:Nat→Prop),(∃jj_,σ=Bj jj_ [(1,(I6 c)),(2,(P6 br 0)),(4,(P6 bo 0)),(55,(.slice aa t.args.length ac)),(56,(I6 (t.args.length:Int))),(57,(I6 (i:Int))),(7,(.slice la i lc))])∧Chg Ak w0 W7∧BH W7 br (R6 t sa sc aa ac) 25∧BH W7 bo #[(I6 0),(.slice none 0 0),(.slice none 0 0),(I6 0),(I6 0),(.bool false)] 25∧(i≤t.args.length)∧(W7.ownsRow n1 Hj 6 (.slice la i lc) i ad.flatten)∧(Ao T W7 ((t.args.take i).map (A6 c)) ad)∧(n1≤W7.heap.size)∧(∀y,T y→(S y∨n1≤y)∧y<W7.heap.size)∧(∀b,(Value.slice la i lc).ownBlock=some b→¬T b)∧nn_=t.args.length - i) (n:=t.args.length - 0) ?_ ?_))))))))))))
  ·exact ⟨0,none,0,[],(fun _=>False),Am.out ⟨rfl,rfl,rfl,rfl,rfl,rfl,rfl,trivial⟩,E,Br,Bo,Nat.zero_le _,World.ownsRow_nil _ _ _ _,rfl,ae,(fun y h=>h.elim),(fun b _ h=>h),rfl⟩
  ·clear E Br Bo;rintro _ _ W7 ⟨i,la,lc,ad,T,⟨j7,rfl⟩,E,Br,Bo,hi,hO,hR,af,hT,az,rfl⟩;refine AA (qV (BE rfl rfl) (AB (AG (qC rfl (fun bm=>?_) (fun bm=>?_)))))
   ·obtain ⟨x,hx⟩:=AX (l:=t.args) (i:=i) qO;have bl:=hok.a x (List.mem_of_getElem? hx);have hxz:=Re.size_arg hx;obtain ⟨ab,ao,hab,rfl,av⟩:=ah.resolve_left (fun h=>by rw[h] at hx;cases hx);obtain ⟨us,bi,a6⟩:=av.get hx;have ak:=a6;obtain ⟨ar,a1,a3,ax,rfl,_,_,_⟩:=a6.form;obtain ⟨M,hM⟩:∃M,M=A6 c x:=⟨_,rfl⟩;refine AO (AC (AG (AU (AA (qV (AN (b:=ab) (o:=ao) (len:=t.args.length) (cap:=ac) (i:=i) (o':=ao+i*6) rfl rfl rfl underlying23 AH qO qO) (qV (AK rfl Ad AH rfl (bi.ext E)) (As (v:=(.agg (R6 x ar a1 a3 ax))) (c:=(R6 x ar a1 a3 ax)) (n:=6) qD A9 rfl AH rfl rfl rfl qS ?_)))))));intro bu wu Nu;have Fu:=Nu.ge E;have Ou_br:=Nu.lt Br;have Ou_bo:=Nu.lt Bo;replace Br:=Nu.keep Br;replace Bo:=Nu.keep Bo;replace hO:=BG hO Nu.ext;replace hR:=Ao.ext Nu.ext hR;replace af:=Nat.le_trans af Nu.ext.size;replace hT:=Iy hT Nu.ext;replace E:=E.ext Nu.ext;have Bu:=Nu.blk;refine AB (AR (qM _ rfl (qV (AK (vs:=[(I6 x.kind),(.slice ar x.set.length a1),(.slice a3 x.args.length ax),(I6 x.mn),(I6 x.mx),(.bool x.neg)]) rfl Ad AH rfl (Bu.cells rfl)) (qM _ rfl ?_))));obtain ⟨n2,am⟩:∃n2,n2=(wu).heap.size:=⟨_,rfl⟩;have bd:n1≤n2:=by rw[am];exact af
    have bs:∀b,(Value.slice la i lc).ownBlock=some b→n1≤b∧b<n2:=fun b hb=>⟨(hO.lt b hb).1,by rw[am];exact (hO.lt b hb).2⟩;refine qE rfl (AI func120 kQ kQ rfl) ((ih x _ S _ qO bl (AS.ext E x ak) (fun y hy=>by have:=hS y hy;have:=E.size;omega)).mono (R':=fun r w=>E8 (fun b=>S b∨n2≤b) M r w∧Ae wu w) (fun r w h=>⟨Cx (S':=fun b=>S b∨_≤b) (fun b hb=>by rcases hb with h1|h1;exact .inl h1;exact .inr (by rw[am];exact h1)) (by rw[hM];exact h.1),h.2⟩)) ?_;rintro _ w9 ⟨⟨ma,mc,pa,pc,rfl,hX⟩,X9⟩;replace Br:=X9.keep Br;replace Bo:=X9.keep Bo;replace Bu:=X9.keep Bu;replace hO:=BG hO X9;replace hR:=Ao.ext X9 hR;replace af:=Nat.le_trans af X9.size;replace hT:=Iy hT X9;replace E:=E.ext X9;have au:=AS.lt M hX;refine A3 (ps:=[(0,(.agg (R6 M ma mc pa pc)))]) (c:=(R6 M ma mc pa pc)) qD rfl underlying23 AH A9 qD qD qK ?_;intro bz wz Nz;have Fz:=Nz.ge E;have Oz_br:=Nz.lt Br;have Oz_bo:=Nz.lt Bo;have Oz_bu:=Nz.lt Bu;replace Br:=Nz.keep Br;replace Bo:=Nz.keep Bo;replace Bu:=Nz.keep Bu;replace hO:=BG hO Nz.ext;replace hR:=Ao.ext Nz.ext hR;replace af:=Nat.le_trans af Nz.ext.size;replace hT:=Iy hT Nz.ext;replace au:=AS.ext Nz.ext M au;replace E:=E.ext Nz.ext;have Bz:=Nz.blk;have hQ9:True:=trivial;refine CQ (base:=n1) (n:=i) (m:=1) (xs:=ad.flatten) (news:=[(I6 M.kind),(.slice ma M.set.length mc),(.slice pa M.args.length pc),(I6 M.mn),(I6 M.mx),(.bool M.neg)]) (size:=6) (bytes:=80) (v:=(.slice la i lc)) qD underlying23 AH LC A9 rfl qD rfl hO rfl (rfl) (Bz.cells rfl) qS (by unfold maxLen;omega) qO (af) ?_;intro v9 a9 a7 ag bn;replace Br:=ag.keep (fun h=>by have:=(hO.lt _ h).1;omega) Br;replace Bo:=ag.keep (fun h=>by have:=(hO.lt _ h).1;omega) Bo;replace E:=E.step ag (fun x hx h=>absurd (hO.lt x h).1 qO);obtain ⟨bp,bj,rfl⟩:=Be a7;have aj:∀y,(T y∨((S y∨n2≤y)∧y<w9.heap.size))→(S y∨n1≤y)∧y<(a9).heap.size∧(Value.slice la i lc).ownBlock≠some y:=by
     intro y hy;have bf:=Nz.ext.size;have hz2:=ag.size;rcases hy with hy|⟨hy,hy2⟩
     ·exact ⟨(hT y hy).1,by have:=(hT y hy).2;omega,fun hb=>az y hb hy⟩
     ·refine ⟨hy.imp id (fun h=>by have:=X9.size;omega),qO,fun hb=>?_⟩;have h9:=bs y hb;rcases hy with h1|h1
      ·have:=hS y h1;omega
      ·omega
    have bt:Ao (fun y=>T y∨((S y∨n2≤y)∧y<w9.heap.size)) (a9) ((t.args.take (i+1)).map (A6 c)) (ad++[[.int .i64 M.kind,.slice ma M.set.length mc,.slice pa M.args.length pc,.int .i64 M.mn,.int .i64 M.mx,.bool M.neg]]):=by
     rw[List.take_add_one,hx,Option.toList_some,List.map_append,List.map_cons,List.map_nil,←hM];exact Je (Ao.mono (fun y hy=>.inl hy) (Ao.chg ag (fun y hy hm=>az y hm hy) hR)) (AS.mono (fun y hy=>.inr hy) M (AS.chg ag (fun y hy hm=>(aj y (.inr hy)).2.2 hm) M au))
    refine qA _ rfl (AB (AQ (AC (AR (qV (Ax rfl rfl (A8 qO)) (qM _ rfl (AB (AC ?_))))))));exact ⟨t.args.length - (i+1),qO,i+1,bp,bj,ad++[[.int .i64 M.kind,.slice ma M.set.length mc,.slice pa M.args.length pc,.int .i64 M.mn,.int .i64 M.mx,.bool M.neg]],(fun y=>T y∨((S y∨n2≤y)∧y<w9.heap.size)),Am.out ⟨rfl,rfl,rfl,rfl,rfl,rfl,rfl,trivial⟩,E,Br,Bo,qO,(by simpa using a7),bt,Nat.le_trans af ag.size,(fun y hy=>⟨(aj y hy).1,(aj y hy).2.1⟩),(fun b hb hy=>by rcases bn b hb with h|h;exact (aj b hy).2.2 h;have bf:=Nz.ext.size;rcases hy with hy|hy;have:=(hT b hy).2;omega;have:=hy.2;omega),rfl⟩
   ·have a5:i=t.args.length:=qO
    rw[a5] at hO hR az;rw[a5];rw[List.take_length] at hR;refine Aw (AZ (AZ (Ap (AC (AA (qF br 0 0 rfl underlying25 rfl Ay rfl (qV (AL rfl Al (Br.cell rfl)) (qM _ rfl (qV (BJ (ps:=[(0,(I6 t.kind)),(2,(.slice la t.args.length lc))]) (v:=(.agg #[(I6 t.kind),(.slice none 0 0),(.slice la t.args.length lc),(I6 0),(I6 0),(.bool false)])) rfl qK) ?_)))))))));have ai:(t.args.map (A6 c)).length=t.args.length:=List.length_map _;obtain ⟨bc,ap⟩:=HT hO hR ai;have bq:AS (fun y=>(S y∨n1≤y)∧y<(W7).heap.size) (W7) (.mk t.kind [] (t.args.map (A6 c)) 0 0 false) [.int .i64 t.kind,.slice none 0 0,.slice la t.args.length lc,.int .i64 0,.int .i64 0,.bool false]:=by
     have h9:=AS.of (S:=fun y=>(S y∨n1≤y)∧y<(W7).heap.size) (w:=W7) (k:=t.kind) (set:=[]) (args:=t.args.map (A6 c)) (mn:=0) (mx:=0) (ng:=false) (sa:=none) (sc:=0) (aa:=la) (ac:=lc) (BY.nil _ _ _ _ _) (by rw[ai];exact bc) (by
      rcases ap with h|⟨ob,a0,aw,an,a2⟩
      ·exact .inl h
      ·exact .inr ⟨ob,0,⟨.inr a0,aw⟩,an,FF fun i t ht=>by obtain ⟨vs,h6,h7⟩:=a2 i t ht;exact ⟨vs,h6,AS.mono (fun y hy=>hT y hy) t h7⟩⟩)
     rw[ai] at h9;exact h9
    have a4:n1≤(W7).heap.size:=af;refine qE rfl (AI func113 kQ kQ rfl) ((J8 _ _ _ _ bq (fun y hy=>hy.2) (Wi hk h8 ai) (fun y hy=>by obtain ⟨z,hz,rfl⟩:=List.mem_map.1 hy;exact Ds c (hok.a z hz)) (by have:=Nc (c:=c) hok.a qO;show Re.sizes (t.args.map (A6 c))≤1000000;omega)).mono (R':=fun r w=>E8 (fun b=>S b∨n1≤b) N r w∧Ae _ w) (fun r w h=>⟨Cx (S':=fun b=>((S b∨n1≤b)∧b<_)∨_≤b) (fun b hb=>by rcases hb with h1|h1;exact h1.1;exact .inr (Nat.le_trans a4 h1)) (by rw[hN];exact h.1),h.2⟩)) ?_;rintro _ w49 ⟨⟨xa,xc,ya,yc,rfl,aq⟩,ay⟩;replace Br:=ay.keep Br;replace Bo:=ay.keep Bo;replace E:=E.ext ay;refine Ab (b:=bo) (o:=0) (c':=(R6 N xa xc ya yc)) rfl rfl qS AH rfl Bo qL rfl ?_;intro w9 S9;replace aq:=AS.chg S9.chg (fun y hy h=>by have h2:y=bo:=h;rcases hy with h1|h1;have:=hS y h1;omega;omega) _ aq;replace Br:=S9.keep qO Br;replace E:=S9.step E qQ;replace Bo:=S9.blk;refine AB (AJ (Ac (AP (A1 results120 (vs:=[(.int .i64 N.kind),(.slice xa N.set.length xc),(.slice ya N.args.length yc),(.int .i64 N.mn),(.int .i64 N.mx),(.bool N.neg)]) (b:=bo) rfl Ad AH rfl (Bo.cells rfl) ?_))));exact ⟨⟨_,rfl,AS.mono (fun y hy=>by rcases hy with h1|h1;exact .inl h1;exact .inr qO) _ aq⟩,E⟩
end Go.Proofs
namespace Go.Proofs
open Go Go.Eng Go.Sort
set_option maxRecDepth 100000
theorem SZ (c:Int):∀n,n<=301->Gv c n
 | 0,_=>λt _ _ _ h=>absurd h qO
 | n+1,hn=>λt e S vs h a d b=>by
  have ih:=SZ c n qO;have hks:=a.n.ks;by_cases f:t.kind=0∨t.kind=1
  .exact Ux c n ih t qO qO a f e S vs d b
  by_cases g:t.kind=2
  .exact Uw c n ih t qO qO a g e S vs d b
  by_cases i:t.kind=3
  .exact Uv c n ih t qO qO a i e S vs d b
  by_cases j:t.kind=5
  .exact Ut c n ih t qO qO a j e S vs d b
  by_cases k:t.kind=6
  .exact Us c n ih t qO qO a k e S vs d b
  exact Uu c n ih t qO qO a qO e S vs d b
mutual
theorem Kl:∀(t:Re),CY t->Ga t
 | .mk k set args mn mx ng,h=>by
  have c:=E9 h;have f:=GD h;have g:=DL h;simp only[Ga];refine ⟨?_,L_ args g⟩;obtain ⟨e,hb,a⟩:=f;by_cases d:k=2
  .unfold CH at c;simp only[Re.kind] at e hb;rw[if_neg (by simp only[Re.kind];omega),if_neg (by simp[a]),if_pos (by simp only[Re.kind];exact d)] at c;split at c
   .omega
   .rename_i b
    simp only[Re.set] at b;unfold BT at b;split at b
    .omega
    .omega
  .simp only[EM,Bool.and_eq_true,Bool.or_eq_true,decide_eq_true_eq,Re.kind,Re.set] at a;have:=a.1.1.1.2.resolve_left (by simp[d]);simp at this;rw[this];simp
theorem L_:∀(a:List Re),DB a->HP a
 | [],_=>by simp only[HP]
 | t::a,h=>by simp only[DB] at h;simp only[HP];exact ⟨Kl t h.1,L_ a h.2⟩
end
mutual
theorem Ix {S Z:Nat->Prop} {w:World} (a:∀x,Z x->S x):∀(t:Re) {vs:List Value} {L:Nat->Prop},DR Z w t vs L->(∀x,L x->S x)->AS S w t vs
 | .mk k set args mn mx ng,vs,L,h,hL=>by
  simp only[DR] at h;obtain ⟨sa,sc,aa,ac,m,r,hn,n⟩:=h;simp only[AS];refine ⟨sa,sc,aa,ac,m,r.mono a,hn,?_⟩;rcases n with h|⟨b,rows,rest,L',o,p,g,j,f,l⟩
  .exact .inl h
  .refine .inr ⟨b,0,hL b o,p,FF λi t d=>?_⟩;obtain ⟨us,e,q⟩:=KJ a args f (λx c=>hL x (l x c).1) i t d;exact ⟨us,by rw[Nat.zero_add];exact Gc g j e,q⟩
theorem KJ {S Z:Nat->Prop} {w:World} (c:∀x,Z x->S x):∀(a:List Re) {rows:List (List Value)} {L:Nat->Prop},BQ Z w a rows L->(∀x,L x->S x)->∀(i:Nat) (t:Re),a[i]?=some t->∃vs,rows[i]?=some vs∧AS S w t vs
 | [],_,_,_,_,i,t,h=>by simp at h
 | u::a,rows,L,h,hL,i,t,ht=>by
  simp only[BQ] at h;obtain ⟨vs,rs,L1,L2,rfl,j,k,e,f⟩:=h;cases i with
  | zero=>simp at ht;subst ht;exact ⟨vs,O,Ix c u j λx b=>hL x (e x b).1⟩
  | succ i=>
   obtain ⟨us,d,g⟩:=KJ c a k (λx b=>hL x (f x b)) i t (by simpa using ht);exact ⟨us,by simpa using d,g⟩
end
theorem P7 (j:World) (t:Re) (vs:List Value) (k:A4 j t vs) :
 Bi prog 25 #[.agg vs.toArray] j λr w=>r=.int .i64 (Dd t)∧Ae j w:=by
 have d:=k;obtain ⟨sa,sc,aa,ac,rfl,hset,hlen,hargs⟩:=k.form;have n:Dd t=if Cj t 300≠0 then Cj t 300 else if C_ [9,10] t=true then 3 else 0:=rfl;rw[n];refine qR func25 O ntmps25 O (λE=>(AA (BL (v:=(.agg (R6 t sa sc aa ac))) (c:=(R6 t sa sc aa ac)) qD O O ?_)));intro br wr l;replace E:=E.ext l.ext;have b:=l.blk;refine qA _ O (AB (AG (AA (qV (AK (vs:=[(I6 t.kind),(.slice sa t.set.length sc),(.slice aa t.args.length ac),(I6 t.mn),(I6 t.mx),(.bool t.neg)]) O Ad AH O (b.cells O)) (qE O (AI func62 kQ kQ O) (UD _ t _ (A4.ext E t d) 300) ?_)))));rintro _ w9 ⟨rfl,m⟩;replace b:=m.keep b;replace E:=E.ext m;refine qA _ O (AB (AA (qM _ O (qV (Cy O O) (AB (qC O (λf=>?_) (λf=>?_)))))))
 .refine AA (qM _ O (qA _ O (AB (AJ (AP (AV results25 (v:=(.int .i64 (Cj t 300))) O ?_))))));exact ⟨by rw[if_pos f],E⟩
 .refine AO (AC (AG (AA (qV (AK (vs:=[(I6 t.kind),(.slice sa t.set.length sc),(.slice aa t.args.length ac),(I6 t.mn),(I6 t.mx),(.bool t.neg)]) O Ad AH O (b.cells O)) (A3 (ps:=[(0,(I6 9)),(1,(I6 10))]) (c:=#[(I6 9),(I6 10)]) qD O underlying46 Ay Iw qD qD qK ?_)))));intro bk wk g;replace E:=E.ext g.ext;have h:=g.blk;refine qE O (AI func63 kQ kQ O) (WR _ t _ [9,10] _ (A4.ext E t d) (FZ [9,10] h qP qP)) ?_;rintro _ w19 ⟨rfl,a⟩;replace b:=a.keep (g.keep b);replace h:=a.keep h;replace E:=E.ext a;refine AB (A_ O (λe=>?_) (λe=>?_))
  .have i:=e;refine AA (qA _ O (AB (AJ (AP (AV results25 (v:=(.int .i64 3)) O ?_)))));exact ⟨by rw[if_neg f,if_pos e],E⟩
  .have i:=e;refine AO (AC (AA (qA _ O (AB (AJ (AV results25 (v:=(.int .i64 0)) O ?_))))));exact ⟨by rw[if_neg f,if_neg (by rw[e];decide)],E⟩
end Go.Proofs
namespace Go.Proofs
open Go Go.Eng Go.Sort
set_option maxRecDepth 100000
theorem VF {S:Nat->Prop} {w:World}:AS S w BB [.int .i64 0,.slice none 0 0,.slice none 0 0,.int .i64 0,.int .i64 0,.bool false]:=Cn _ _ 0
theorem Xo (w0:World) (S:Nat→Prop) (t:Re) (vs:List Value) (c:Int) (ht:AS S w0 t vs) (hS:∀x,S x→x<w0.heap.size) :
  Bi prog 92 #[.agg vs.toArray,.int .i64 c] w0 fun r w=>(∃us,r=.tuple #[.agg us.toArray,.int .i64 (XH t c)]∧AS (fun b=>w0.heap.size≤b) w (Xy t c) us)∧Ae w0 w:=by
 have aw:=ht;obtain ⟨sa,sc,aa,ac,rfl,az,a1,aq⟩:=ht.form;have hE:XH t c=if Dd t≠0 then Dd t else if CA c=false then 1 else if 300<(A6 c (CS t)).size then 2 else 0:=rfl;have hB:Xy t c=if XH t c=0 then A6 c (CS t) else BB:=rfl;refine qR func92 rfl ntmps92 rfl (fun E=>(AA (BL (v:=(.agg (R6 t sa sc aa ac))) (c:=(R6 t sa sc aa ac)) qD rfl rfl ?_)));intro br wr Nr;have Fr:=Nr.ge E;replace E:=E.ext Nr.ext;have Br:=Nr.blk;refine Bg (c:=#[(I6 0),(.slice none 0 0),(.slice none 0 0),(I6 0),(I6 0),(.bool false)]) qD A9 rfl ?_;intro bo wo No;have Fo:=No.ge E;have Oo_br:=No.lt Br;replace Br:=No.keep Br;replace E:=E.ext No.ext;have Bo:=No.blk;refine qA _ rfl (AB (AG (AA (qV (AK (vs:=[(I6 t.kind),(.slice sa t.set.length sc),(.slice aa t.args.length ac),(I6 t.mn),(I6 t.mx),(.bool t.neg)]) rfl Ad AH rfl (Br.cells rfl)) (qE rfl (AI func25 kQ kQ rfl) (P7 _ t _ (AS.at t (AS.ext E t aw))) ?_)))));rintro _ w9 ⟨rfl,X9⟩;replace Br:=X9.keep Br;replace Bo:=X9.keep Bo;replace E:=E.ext X9;refine qA _ rfl (AB (AA (qM _ rfl (qV (Cy rfl rfl) (AB (qC rfl (fun hf=>?_) (fun hf=>?_)))))))
 ·refine AA (qV (BJ (ps:=[]) (v:=(.agg #[(I6 0),(.slice none 0 0),(.slice none 0 0),(I6 0),(I6 0),(.bool false)])) rfl qK) (qM _ rfl (Ab (b:=bo) (o:=0) (c':=#[(I6 0),(.slice none 0 0),(.slice none 0 0),(I6 0),(I6 0),(.bool false)]) rfl rfl qS AH rfl Bo qL rfl ?_)));intro w2 S2;replace Br:=S2.keep qO Br;replace E:=S2.step E qQ;replace Bo:=S2.blk;refine qA _ rfl (AB (AJ (AP (D6 results92 (vs:=[(.int .i64 0),(.slice none 0 0),(.slice none 0 0),(.int .i64 0),(.int .i64 0),(.bool false)]) (b:=bo) (v':=(.int .i64 (Dd t))) rfl Ad AH rfl (Bo.cells rfl) rfl ?_))));exact ⟨⟨_,by rw[hE,if_pos hf],by rw[hB,if_neg (by rw[hE,if_pos hf];exact hf)];exact VF⟩,E⟩
 ·have ay:Dd t=0:=qO
  obtain ⟨a6,a7,hu,ae,av⟩:=JR ay;refine AO (AC (AG (AA (qM _ rfl (qE rfl (AI func87 kQ kQ rfl) (Sw _ _) ?_)))));rintro _ an ⟨rfl,ak⟩;replace Br:=ak.keep Br;replace Bo:=ak.keep Bo;replace E:=E.ext ak;refine qV (Dg rfl) (AB (A_ rfl (fun hr=>?_) (fun hr=>?_)))
  ·have a4:=hr;replace hr:=by simpa using hr
   have ad:CA c=false:=by simpa using hr
   refine AA (qV (BJ (ps:=[]) (v:=(.agg #[(I6 0),(.slice none 0 0),(.slice none 0 0),(I6 0),(I6 0),(.bool false)])) rfl qK) (Ab (b:=bo) (o:=0) (c':=#[(I6 0),(.slice none 0 0),(.slice none 0 0),(I6 0),(I6 0),(.bool false)]) rfl rfl qS AH rfl Bo qL rfl ?_));intro w4 S4;replace Br:=S4.keep qO Br;replace E:=S4.step E qQ;replace Bo:=S4.blk;refine qA _ rfl (AB (AJ (AP (D6 results92 (vs:=[(.int .i64 0),(.slice none 0 0),(.slice none 0 0),(.int .i64 0),(.int .i64 0),(.bool false)]) (b:=bo) (v':=(.int .i64 1)) rfl Ad AH rfl (Bo.cells rfl) rfl ?_))));exact ⟨⟨_,by rw[hE,if_neg hf,if_pos ad],by rw[hB,if_neg (by rw[hE,if_neg hf,if_pos ad];decide)];exact VF⟩,E⟩
  ·have a4:=hr;replace hr:=by simpa using hr
   have ad:¬CA c=false:=by simpa using hr
   obtain ⟨M,hM⟩:∃M,M=CS t:=⟨_,rfl⟩;obtain ⟨D,hD⟩:∃D,D=A6 c M:=⟨_,rfl⟩;have hDz:D.size≤200000:=by rw[hD,hM];exact FA ae qO
   have a5:Au D:=by rw[hD,hM];exact Ds c ae
   refine AO (AC (AA (qV (AK (vs:=[(I6 t.kind),(.slice sa t.set.length sc),(.slice aa t.args.length ac),(I6 t.mn),(I6 t.mx),(.bool t.neg)]) rfl Ad AH rfl (Br.cells rfl)) ?_)));obtain ⟨n1,ax⟩:∃n1,n1=an.heap.size:=⟨_,rfl⟩;have hob:bo<n1∧w0.heap.size≤bo:=⟨by rw[ax];exact Bo.lt,qO⟩;refine qE rfl (AI func76 kQ kQ rfl) ((UL 300 t _ S _ a7 qO a6 hu (AS.ext E t aw) (fun y hy=>by have:=hS y hy;have:=E.size;omega)).mono (R':=fun r w=>E8 (fun b=>S b∨n1≤b) M r w∧Ae an w) (fun r w h=>⟨Cx (S':=fun b=>S b∨an.heap.size≤b) (fun b hb=>by rcases hb with h1|h1;exact .inl h1;exact .inr qO) (by rw[hM];exact h.1),h.2⟩)) ?_;rintro _ ao ⟨⟨xa,xc,ya,yc,rfl,a0⟩,ai⟩;replace Br:=ai.keep Br;replace Bo:=ai.keep Bo;replace E:=E.ext ai;refine qM _ rfl (qE rfl (AI func120 kQ kQ rfl) ((SZ c 301 qO M _ _ _ (by rw[hM];omega) (by rw[hM];exact ae) (AS.lt _ a0) (fun y hy=>hy.2)).mono (R':=fun r w=>E8 (fun _=>True) D r w∧Ae ao w) (fun r w h=>⟨Cx (S':=fun b=>((S b∨n1≤b)∧b<ao.heap.size)∨ao.heap.size≤b) (fun b hb=>trivial) (by rw[hD];exact h.1),h.2⟩)) ?_);rintro _ am ⟨⟨da,dc,ea,ec,rfl,a3⟩,aj⟩;replace Br:=aj.keep Br;replace Bo:=aj.keep Bo;replace E:=E.ext aj;have ab:=AS.lt D a3;obtain ⟨h39,ap⟩:∃h,h=am.heap.size:=⟨_,rfl⟩;rw[←ap] at ab;have E3:Chg Ak am am:=Chg.refl _ _;refine As (v:=(.agg (R6 D da dc ea ec))) (c:=(R6 D da dc ea ec)) (n:=6) qD A9 rfl AH rfl rfl rfl qS ?_;intro bq wq Nq;have Fq:=Nq.ge E;have Fq_E3:=Nq.ge E3;have Oq_br:=Nq.lt Br;have Oq_bo:=Nq.lt Bo;replace Br:=Nq.keep Br;replace Bo:=Nq.keep Bo;replace ab:=AS.ext Nq.ext _ ab;replace E:=E.ext Nq.ext;have Bq:=Nq.blk;replace E3:=E3.ext Nq.ext;refine AB (AG (AA (qV (AK (vs:=[(I6 D.kind),(.slice da D.set.length dc),(.slice ea D.args.length ec),(I6 D.mn),(I6 D.mx),(.bool D.neg)]) rfl Ad AH rfl (Bq.cells rfl)) (qE rfl (AI func121 kQ kQ rfl) (WY _ D _ (AS.at D ab) qO) ?_))));rintro _ a2 ⟨rfl,af⟩;replace Br:=af.keep Br;replace Bo:=af.keep Bo;replace Bq:=af.keep Bq;replace ab:=AS.ext af _ ab;replace E:=E.ext af;replace E3:=E3.ext af;refine qV (D0 rfl rfl) (AB (qC rfl (fun hz=>?_) (fun hz=>?_)))
   ·refine AA (qV (BJ (ps:=[]) (v:=(.agg #[(I6 0),(.slice none 0 0),(.slice none 0 0),(I6 0),(I6 0),(.bool false)])) rfl qK) (Ab (b:=bo) (o:=0) (c':=#[(I6 0),(.slice none 0 0),(.slice none 0 0),(I6 0),(I6 0),(.bool false)]) rfl rfl qS AH rfl Bo qL rfl ?_));intro w6 S6;replace Br:=S6.keep qO Br;replace Bq:=S6.keep qO Bq;replace E:=S6.step E qQ;replace Bo:=S6.blk;refine qA _ rfl (AB (AJ (AP (D6 results92 (vs:=[(.int .i64 0),(.slice none 0 0),(.slice none 0 0),(.int .i64 0),(.int .i64 0),(.bool false)]) (b:=bo) (v':=(.int .i64 2)) rfl Ad AH rfl (Bo.cells rfl) rfl ?_))));exact ⟨⟨_,by rw[hE,if_neg hf,if_neg ad,if_pos (by rw[←hM,←hD];omega)],by rw[hB,if_neg (by rw[hE,if_neg hf,if_neg ad,if_pos (by rw[←hM,←hD];omega)];decide)];exact VF⟩,E⟩
   ·have ar:bo<(a2).heap.size:=by have:=E3.size;have:=ai.size;have:=aj.size;omega
    refine AO (AC (AA (qV (AK (vs:=[(I6 D.kind),(.slice da D.set.length dc),(.slice ea D.args.length ec),(I6 D.mn),(I6 D.mx),(.bool D.neg)]) rfl Ad AH rfl (Bq.cells rfl)) (qE rfl (AI func75 kQ kQ rfl) (UU D.size D _ _ (Nat.le_refl _) qO (Kl D (HN a5).1) (AS.at D ab)) ?_))));rintro _ w59 ⟨⟨us,Z,L,rfl,au,hZL,ah⟩,ag⟩;replace Br:=ag.keep Br;replace Bo:=ag.keep Bo;replace Bq:=ag.keep Bq;replace ab:=AS.ext ag _ ab;replace E:=E.ext ag;replace E3:=E3.ext ag;have al:=Ix (S:=fun b=>bo<b) (fun x hx=>by have:=(ah x (.inl hx)).1;omega) D au (fun x hx=>by have:=(ah x (.inr hx)).1;omega);obtain ⟨fa,fc,ga,gc,rfl,_,_,_⟩:=au.form;refine Ab (b:=bo) (o:=0) (c':=(R6 D fa fc ga gc)) rfl rfl qS AH rfl Bo qL rfl ?_;intro w7 S7;replace al:=AS.chg S7.chg (fun y hy h=>by have h2:y=bo:=h;have h3:bo<y:=hy;omega) _ al;replace Br:=S7.keep qO Br;replace Bq:=S7.keep qO Bq;replace E:=S7.step E qQ;replace Bo:=S7.blk;refine qA _ rfl (AB (AJ (D6 results92 (vs:=[(.int .i64 D.kind),(.slice fa D.set.length fc),(.slice ga D.args.length gc),(.int .i64 D.mn),(.int .i64 D.mx),(.bool D.neg)]) (b:=bo) (v':=(.int .i64 0)) rfl Ad AH rfl (Bo.cells rfl) rfl ?_)));exact ⟨⟨_,by rw[hE,if_neg hf,if_neg ad,if_neg (by rw[←hM,←hD];omega)],by rw[hB,if_pos (by rw[hE,if_neg hf,if_neg ad,if_neg (by rw[←hM,←hD];omega)]),←hM,←hD];exact AS.mono (fun y (hy:bo<y)=>qO) _ al⟩,E⟩
end Go.Proofs
namespace Go.Proofs
open Go Go.Eng Go.Sort
set_option maxRecDepth 100000
abbrev V6:Nat:=3
theorem ownI_holds {w:World} {base g n c:Nat} {l:List Int} (h:w.ownsRow base V6 1 (.slice (some ⟨g,0,none⟩) n c) n (l.map (Value.int .i64))):Sort.Holds (Value.int .i64) w g 0 l.toArray:=by
 intro j b;simp only[List.size_toArray] at b;have f:l[j]?=some l[j]:=List.getElem?_eq_getElem b;have a:=h.cells (g:=g) O j (.int .i64 l[j]) (by simp[f]);rw[Addr.add_lit] at a;have e:l.toArray[j]! = l[j]:=by rw[getElem!_pos l.toArray j (by simpa using b)];simp
 rw[e];refine ⟨a,?_⟩;rcases h.2 with ⟨a,_⟩|⟨g',cap,cur,d,_,i,_⟩
 .simp at a
 .simp only[Value.slice.injEq,Option.some.injEq,Addr.mk.injEq,and_true] at d;obtain ⟨rfl,_⟩:=d;simp[World.frozen?,i]
theorem P1 {w:World} {g n c:Nat} {l:List Int} (h:Sort.Holds (Value.int .i64) w g 0 l.toArray) (hn:l.length=n) (hc:n<=c) (hl:n<=9223372036854775807):BZ w (.slice (some ⟨g,0,none⟩) n c) l:=by
 refine ⟨_,c,by simp[hn],by simp;omega,by simp;omega,.inr ⟨g,0,O,λi r d j u b=>?_⟩⟩;simp only[List.getElem?_map,Option.map_eq_some_iff] at d;obtain ⟨x,a,rfl⟩:=d;have hi:=AM a;have hj:j<1:=by have:=AM b;simpa[GJ] using this
 obtain rfl:j=0:=qO
 have e:=(h i (by simpa using hi)).1;have f:l.toArray[i]! = x:=by
  rw[getElem!_pos l.toArray i (by simpa using hi)];rw[List.getElem?_eq_getElem hi] at a;simpa using a
 rw[f] at e;simp[GJ] at b;subst b;simpa using e
theorem Jg {α:Type} [Inhabited α] (enc:α->Value) (w:World) (g a m:Nat) (d:Array α) (os:Array Obj):Chg (λx=>x=g) w (grow (putRow enc (Sort.ahead w m) g a d) os):=by
 refine ⟨O,O,O,Nat.le_add_right _ _,?_,λb hb c=>?_⟩
 .simp[grow,putRow,mapBlock,Sort.ahead]
 .simp only[grow,putRow,mapBlock,Sort.ahead];rw[Array.getElem?_append_left (by simpa using hb),Array.getElem?_modify,if_neg (λh=>c h.symm)]
def Tq (x y:Int):Bool:=decide (x<=y)
theorem U1 (b:World) (base g c:Nat) (l:List Int) (h:b.ownsRow base V6 1 (.slice (some ⟨g,0,none⟩) l.length c) l.length (l.map (Value.int .i64))) (hl:l.length<=17592186044416) :
 Bi prog 65 #[.slice (some ⟨g,0,none⟩) l.length c] b λr w=>r=.tuple #[]∧Sort.Holds (Value.int .i64) w g 0 (l.mergeSort Tq).toArray∧Chg (λx=>x=g) b w:=by
 have d:=ownI_holds h;have a:g<b.heap.size:=(h.lt g O).2;refine Calls.mono (Any.slices_Sort_int Tryz.sortI g 0 c l b d a qO) ?_;rintro e w' ⟨rfl,n,os,rfl⟩;refine ⟨_,O,O,?_,Jg _ b g 0 n _ os⟩;exact holds_grow _ _ os g 0 _ (by simpa[putRow,mapBlock,Sort.ahead] using a) (holds_putRow _ (Sort.ahead b n) g 0 l.toArray _ d qP)
theorem Vq (a:World) (g c:Nat) (l:List Int) (i:Sort.Holds (Value.int .i64) a g 0 l.toArray) (n:l.length<=c∧c<=9223372036854775807) :
 Bi prog 66 #[.slice (some ⟨g,0,none⟩) l.length c] a λr w=>r=.slice (some ⟨g,0,none⟩) (Lib.compact l).length c∧BZ w r (Lib.compact l)∧Chg (λx=>x=g) a w:=by
 refine Calls.mono (Any.slices_Compact_int Tryz.compI g 0 c l a i qO n.1) ?_;rintro e w' ⟨rfl,q,rfl⟩;have hlen:(Lib.compact l).length<=l.length:=by
  unfold Lib.compact Lib.compactUpTo;rw[List.length_map];exact Nat.le_trans (List.length_filter_le _ _) qP
 have b:=Jg (Value.int .i64) a g 0 q (Lib.compact l++List.replicate (l.length - (Lib.compact l).length) 0).toArray #[];have f:∀w:World,grow w #[]=w:=λw=>by simp[grow]
 rw[f] at b;refine ⟨_,O,O,?_,b⟩;have m:Sort.Holds (Value.int .i64) (putRow (Value.int .i64) (Sort.ahead a q) g 0 (Lib.compact l++List.replicate (l.length - (Lib.compact l).length) 0).toArray) g 0 (Lib.compact l++List.replicate (l.length - (Lib.compact l).length) 0).toArray:=
  holds_putRow _ (Sort.ahead a q) g 0 l.toArray _ i (by simp;omega)
 have h:Sort.Holds (Value.int .i64) (putRow (Value.int .i64) (Sort.ahead a q) g 0 (Lib.compact l++List.replicate (l.length - (Lib.compact l).length) 0).toArray) g 0 (Lib.compact l).toArray:=by
  intro j d;simp only[List.size_toArray] at d;have k:=m j (by simp;omega);rw[getElem!_pos _ j (by simp;omega)] at k;rw[getElem!_pos _ j (by simpa using d)];simpa[List.getElem_append_left d] using k
 exact P1 (l:=Lib.compact l) h O qO qO
theorem NL {l:List Int} (v:l.Pairwise (·<=·)):∀m,m<=l.length->(Lib.compactUpTo l.toArray m).Pairwise (· < ·)∧∀x,x∈Lib.compactUpTo l.toArray m↔x∈l.take m:=by
 intro m
 induction m with
 | zero=>intro _;simp[Lib.compactUpTo]
 | succ m ih=>
  intro hm;obtain ⟨u,q⟩:=ih qO;have e:l[m]?=some l[m]:=List.getElem?_eq_getElem qO;have r:l.toArray[m]! = l[m]:=by rw[getElem!_pos _ m (by simp;omega)];simp
  rw[Lib.compactUpTo_succ,(show l.take (m+1)=l.take m++[l[m]] by rw[List.take_add_one,e];rfl)];have p:∀x∈l.take m,∃j,j<m∧∃b:j<l.length,l[j]=x:=λx e=>by
   obtain ⟨j,b⟩:=List.mem_iff_getElem?.1 e;have c:=AM b;rw[List.length_take] at c;have f:j<m:=qO
   have g:j<l.length:=qO
   rw[List.getElem?_take,if_pos f,List.getElem?_eq_getElem g] at b;exact ⟨j,f,g,Option.some.inj b⟩
  have a:∀(i j:Nat) (hi:i<l.length) (b:j<l.length),i<=j->l[i]<=l[j]:=λi j hi b h=>by
   rcases Nat.eq_or_lt_of_le h with c|c
   .subst c;exact Int.le_refl _
   .exact List.pairwise_iff_getElem.1 v i j hi b c
  by_cases d:Lib.keeps l.toArray m=true
  .rw[if_pos d,r];have k:∀x∈l.take m,x<l[m]:=λx e=>by
    obtain ⟨j,hjm,b,rfl⟩:=p x e;have o:l[j]<=l[m - 1]:=a j (m - 1) b qO qO;have t:l[m - 1]<=l[m]:=a (m - 1) m qO qO qO;have h6:l[m]≠l[m - 1]:=by
     unfold Lib.keeps at d;rw[decide_eq_true_eq] at d;rcases d with n|n
     .omega
     .rw[r,getElem!_pos _ (m - 1) (by simp;omega)] at n;simpa using n
    omega
   refine ⟨?_,λx=>by rw[List.mem_append,List.mem_append,q x]⟩;rw[List.pairwise_append];exact ⟨u,qP,λx e y s=>by rw[List.mem_singleton] at s;subst s;exact k x ((q x).1 e)⟩
  .rw[if_neg d,List.append_nil];refine ⟨u,λx=>?_⟩;rw[q x,List.mem_append,List.mem_singleton];constructor
   .exact .inl
   .rintro (c|c)
    .exact c
    .have o:m≠0∧l.toArray[m]! = l.toArray[m - 1]!:=by
      unfold Lib.keeps at d;simp only[decide_eq_true_eq,not_or,Decidable.not_not] at d;exact d
     rw[r,getElem!_pos _ (m - 1) (by simp;omega)] at o;have t:l[m]=l[m - 1]:=by simpa using o.2
     rw[c,t];exact List.mem_iff_getElem?.2 ⟨m - 1,by rw[List.getElem?_take,if_pos qO,List.getElem?_eq_getElem qO]⟩
theorem K9 (l:List Int):(Lib.compact (l.mergeSort Tq)).Pairwise (· < ·)∧∀x,x∈Lib.compact (l.mergeSort Tq)↔x∈l:=by
 have e:(l.mergeSort Tq).Pairwise (·<=·):=by
  have:=List.pairwise_mergeSort (le:=Tq) (λa b c h1 d=>by simp[Tq] at *;omega) (λa b=>by simp[Tq];omega) l;exact this.imp λh=>by simpa[Tq] using h
 have h:=NL e (l.mergeSort Tq).length (Nat.le_refl _);refine ⟨h.1,λx=>?_⟩;have d:=h.2 x;rw[List.take_length,List.mem_mergeSort] at d;exact d
end Go.Proofs
namespace Go.Proofs
open Go Go.Eng Go.Sort
set_option maxRecDepth 100000
theorem E5 {α:Type} {l:List α} {k:Nat} {x:α} (h:l[k]?=some x):l.take (k+1)=l.take k++[x]:=by rw[List.take_add_one,h];rfl
theorem MC:∀{p q:List Int},p.Pairwise (· < ·)->q.Pairwise (· < ·)->(∀x,x∈p↔x∈q)->p=q
 | [],[],_,_,_=>rfl
 | [],y::q,_,_,h=>absurd ((h y).2 List.mem_cons_self) List.not_mem_nil
 | x::p,[],_,_,h=>absurd ((h x).1 List.mem_cons_self) List.not_mem_nil
 | x::p,y::q,hp,hq,h=>by
  have d:=List.pairwise_cons.1 hp;have f:=List.pairwise_cons.1 hq;have e:x=y:=by
   rcases List.mem_cons.1 ((h x).1 List.mem_cons_self) with a|a
   .exact a
   .rcases List.mem_cons.1 ((h y).2 List.mem_cons_self) with c|c
    .exact c.symm
    .have:=d.1 y c;have:=f.1 x a;omega
  subst e;rw[MC d.2 f.2 λz=>?_];constructor
  .intro b;rcases List.mem_cons.1 ((h z).1 (List.mem_cons_of_mem _ b)) with a|a
   .subst a;have:=d.1 z b;omega
   .exact a
  .intro b;rcases List.mem_cons.1 ((h z).2 (List.mem_cons_of_mem _ b)) with a|a
   .subst a;have:=f.1 z b;omega
   .exact a
end Go.Proofs
namespace Go.Proofs
open Go Go.Eng Go.Sort
set_option maxRecDepth 100000
def NR (l:List Sp) (k:Int):Prop:=k=0∨∃s∈l,k=s.1∨(s.2<1114111∧k=s.2+1)
def FR (l:List Sp) (p:List Int):Prop:=p.Pairwise (· < ·)∧∀k,k∈p↔NR l k
end Go.Proofs
namespace Go.Proofs
open Go Go.Eng Go.Sort
set_option maxRecDepth 100000
def nx (p:List Int) (k:Nat):Int:=(p[k]?).getD 1114112
def Mi (f:Int->Bool) (p:List Int):Prop:=∀a r,a∈p->a<=r->r<=1114111->(∀k∈p,k<=a∨r<k)->f r=f a
structure CInv (p:List Int) (f:Int->Bool) (ou:List Sp) (k:Nat):Prop where
 can:Canon ou
 low:∀s∈ou,s.2<nx p k
 mem:∀r,0<=r->r<nx p k->Cu ou r=f r
theorem EP {l:List Sp} {p:List Int} (h:FR l p) (a:∀s∈l,EZ s) {k:Int} (b:k∈p):0<=k∧k<=1114111:=by
 rcases (h.2 k).1 b with c|⟨s,d,c⟩
 .omega
 .have:=a s d;unfold EZ at this;omega
theorem VP {p:List Int} (h:p.Pairwise (· < ·)) {k:Nat} {x:Int} (a:p[k]?=some x) (hb:∀q∈p,q<=1114111):x<nx p (k+1):=by
 unfold nx;cases hy:p[k+1]? with
 | none=>have:=hb x (List.mem_of_getElem? a);simp;omega
 | some y=>
  have b:=AM hy;have h2:=List.pairwise_iff_getElem.1 h k (k+1) qO b qO;rw[List.getElem?_eq_getElem qO] at a hy;simp at a hy;simp;omega
theorem Pl {p:List Int} (h:p.Pairwise (· < ·)) {k:Nat} {x r:Int} (d:p[k]?=some x) (g:r<nx p (k+1)):∀q∈p,q<=x∨r<q:=by
 intro q i;obtain ⟨j,e⟩:=List.mem_iff_getElem?.1 i;have a:=AM e;have b:=AM d;rw[List.getElem?_eq_getElem a] at e;rw[List.getElem?_eq_getElem b] at d;simp at e d;rcases Nat.lt_trichotomy j k with c|c|c
 .have:=List.pairwise_iff_getElem.1 h j k a b c;omega
 .subst c;omega
 .right;unfold nx at g;rw[List.getElem?_eq_getElem (show k+1<p.length by omega)] at g;simp at g;rcases Nat.eq_or_lt_of_le (show k+1<=j by omega) with f|f
  .subst f;omega
  .have:=List.pairwise_iff_getElem.1 h (k+1) j qO a f;omega
theorem L0 {l:List Sp} {p:List Int} (h:FR l p) (a:∀s∈l,EZ s):nx p 0=0:=by
 have b:(0:Int)∈p:=(h.2 0).2 (.inl O);cases p with
 | nil=>cases b
 | cons x r=>
  unfold nx;simp;rcases List.mem_cons.1 b with c|c
  .omega
  .have h2:=(List.pairwise_cons.1 h.1).1 0 c;have h3:=EP h a (k:=x) List.mem_cons_self;omega
theorem CInv.same {l:List Sp} {p:List Int} {f:Int->Bool} (h:FR l p) (b:∀s∈l,EZ s) (c:Mi f p) {k:Nat} {lo r:Int} (a:p[k]?=some lo) (d:lo<=r) (e:r<nx p (k+1)):f r=f lo:=by
 have hb:nx p (k+1)<=1114112:=by
  unfold nx;cases hy:p[k+1]? with
  | none=>simp
  | some y=>have:=EP h b (List.mem_of_getElem? hy);simp;omega
 exact c lo r (List.mem_of_getElem? a) d qO (Pl h.1 a e)
theorem WB {p:List Int} {k:Nat} {x:Int} (h:p[k]?=some x):nx p k=x:=by unfold nx;rw[h];rfl
theorem Ry {l:List Sp} {p:List Int} (e:∀s∈l,s.1∈p) (f:∀s∈l,s.2<1114111->s.2+1∈p):Mi (Cu l) p:=by
 intro a r ha har hr c;rw[Bool.eq_iff_iff,E0,E0];have d:∀s∈l,(s.1<=r∧r<=s.2)↔(s.1<=a∧a<=s.2):=λs b=>by
  have q1:=c s.1 (e s b);by_cases g:s.2<1114111
  .have q2:=c (s.2+1) (f s b g);omega
  .omega
 constructor
 .rintro ⟨s,b,h⟩;exact ⟨s,b,(d s b).1 h⟩
 .rintro ⟨s,b,h⟩;exact ⟨s,b,(d s b).2 h⟩
theorem L4 {ll:List (List Sp)} {p:List Int} (h:FR ll.flatten p) {l:List Sp} (b:l∈ll):Mi (Cu l) p:=
 Ry (λs a=>(h.2 _).2 (.inr ⟨s,List.mem_flatten.2 ⟨l,b,a⟩,.inl O⟩)) (λs a c=>(h.2 _).2 (.inr ⟨s,List.mem_flatten.2 ⟨l,b,a⟩,.inr ⟨c,O⟩⟩))
theorem Th:∀{p:List Int} {lo hi:Int},p.Pairwise (· < ·)->(∀q∈p,lo<=q∧q<=hi)->lo<=hi+1->((p.length:Nat):Int)<=hi - lo+1
 | [],_,_,_,_,h=>by simp;omega
 | x::r,lo,hi,hp,hb,h=>by
  have h1:=hb x List.mem_cons_self;have h2:=Th (lo:=x+1) (hi:=hi) (List.pairwise_cons.1 hp).2 (λq a=>⟨by have:=(List.pairwise_cons.1 hp).1 q a;omega,(hb q (List.mem_cons_of_mem _ a)).2⟩) qO;simp only[List.length_cons];omega
theorem VJ {p:List Int} (a:p.Pairwise (· < ·)) (hb:∀q∈p,0<=q∧q<=1114111):p.length<=1114112:=by
 have:=Th (lo:=0) (hi:=1114111) a hb qO;omega
end Go.Proofs
namespace Go.Proofs
open Go Go.Eng Go.Sort
def A' (ll:List (List Sp)) (r:Int):List Bool:=ll.map λl=>Cu l r
def Hi (acc:List (List Bool)) (m:List Bool):List (List Bool):=if m∈acc then acc else acc++[m]
def C1 (l:List (List Bool)):List (List Bool):=l.foldl Hi []
theorem Jn (l:List (List Bool)) (m:List Bool):C1 (l++[m])=Hi (C1 l) m:=by simp[C1,List.foldl_append]
theorem PK {a:List (List Bool)} {m x:List Bool}:x∈Hi a m↔x∈a∨x=m:=by
 unfold Hi;split
 .constructor
  .exact .inl
  .rintro (h|rfl)<;>assumption
 .simp
theorem LI {c:List (List Bool)} {m:List Bool} (h:c.Nodup):(Hi c m).Nodup:=by
 unfold Hi;split
 .exact h
 .rename_i f
  rw[List.nodup_append];exact ⟨h,qP,λa d b hb=>by rw[List.mem_singleton] at hb;subst hb;exact λe=>f (e▸d)⟩
theorem Gb {ll:List (List Sp)} {p:List Int} (c:FR ll.flatten p) (b:∀s∈ll.flatten,EZ s) {i:Nat} {lo r:Int} (a:p[i]?=some lo) (d:lo<=r) (e:r<nx p (i+1)):A' ll r=A' ll lo:=by
 unfold A';apply List.map_congr_left;intro l f;exact CInv.same c b (L4 c f) a d e
structure GInv (ll:List (List Sp)) (p:List Int) (i:Nat) (ks:List (List Bool)) (outs:List (List Sp)):Prop where
 keys:ks=C1 ((p.take i).map (A' ll))
 nd:ks.Nodup
 len:outs.length=ks.length
 cnt:ks.length<=i
 ok:∀(k:Nat) o,outs[k]?=some o->(∀s∈o,EZ s)∧o.length<=i
 cov:∀r,0<=r->r<nx p i->A' ll r∈ks
 mem:∀(k:Nat) key o r,ks[k]?=some key->outs[k]?=some o->0<=r->r<=1114111->Cu o r=(decide (r<nx p i) && decide (A' ll r=key))
theorem GInv.start {ll:List (List Sp)} {p:List Int} (c:FR ll.flatten p) (a:∀s∈ll.flatten,EZ s):GInv ll p 0 [] [] where
 keys:=rfl
 nd:=List.nodup_nil
 len:=rfl
 cnt:=Nat.le_refl _
 ok:=λk o h=>by simp at h
 cov:=λr h0 b=>by rw[L0 c a] at b;omega
 mem:=λk key o r h=>by simp at h
theorem R1 {l:List (List Bool)} (h:l.Nodup) {i j:Nat} {x:List Bool} (hi:l[i]?=some x) (b:l[j]?=some x):i=j:=by
 have c:=AM hi;have d:=AM b;rw[List.getElem?_eq_getElem c] at hi;rw[List.getElem?_eq_getElem d] at b;have e:=(Option.some.inj hi).trans (Option.some.inj b).symm;rcases Nat.lt_trichotomy i j with a|a|a
 .exact absurd e (List.pairwise_iff_getElem.1 h i j c d a)
 .exact a
 .exact absurd e.symm (List.pairwise_iff_getElem.1 h j i d c a)
theorem T2 (o:List Sp) (x:Sp) (r:Int):Cu (o++[x]) r=(Cu o r || (decide (x.1<=r) && decide (r<=x.2))):=by
 induction o with
 | nil=>simp[DV,IX]
 | cons y o ih=>simp only[List.cons_append,DV,ih,Bool.or_assoc]
theorem GInv.step {ll:List (List Sp)} {p:List Int} {i k:Nat} {D n:List (List Bool)} {x b:List (List Sp)} {o:List Sp} {lo:Int} (h:GInv ll p i D x) (E:FR ll.flatten p) (t:∀s∈ll.flatten,EZ s) (g:p[i]?=some lo)
 (G:n=Hi D (A' ll lo)) (P:b.length=n.length) (c:∀(j:Nat) q,b[j]?=some q->x[j]?=some q∨(j=D.length∧q=[]∧A' ll lo∉D)) (B:n[k]?=some (A' ll lo)) (S:b[k]?=some o) :
 GInv ll p (i+1) n (b.set k (o++[(lo,nx p (i+1) - 1)])):=by
 have hrng:=EP E t (List.mem_of_getElem? g);have I:∀q∈p,q<=1114111:=λq m=>(EP E t m).2;have hnx:=VP E.1 g I;have l:nx p i=lo:=by unfold nx;rw[g];rfl
 have hnx1:nx p (i+1)<=1114112:=by
  unfold nx;cases m:p[i+1]? with
  | none=>simp
  | some y=>have:=I y (List.mem_of_getElem? m);simp;omega
 have hkl:=AM S;have H:n.Nodup:=by rw[G];exact LI h.nd
 have J:EZ (lo,nx p (i+1) - 1):=by unfold EZ;simp;omega
 have A:∀(j:Nat) d,n[j]?=some d->j<D.length->D[j]?=some d:=by
  intro j d u a;rw[G] at u;unfold Hi at u;split at u
  .exact u
  .rwa [List.getElem?_append_left a] at u
 refine ⟨?_,H,by simp[P],by rw[G];unfold Hi;have:=h.cnt;split;omega;simp;omega,?_,?_,?_⟩
 .rw[G,E5 g,List.map_append,List.map_cons,List.map_nil,Jn,<-h.keys]
 .intro j q m;rw[List.getElem?_set] at m;split at m
  .rename_i w
   have C:=Option.some.inj m;subst C;rcases c k o S with a|⟨_,a,_⟩
   .have L:=h.ok k o a;exact ⟨λs F=>by rcases List.mem_append.1 F with f|f;exact L.1 s f;rw[List.mem_singleton] at f;subst f;exact J,by simp;omega⟩
   .subst a;exact ⟨λs F=>by simp at F;subst F;exact J,qP⟩
  .rcases c j q m with a|⟨_,a,_⟩
   .exact ⟨(h.ok j q a).1,by have:=(h.ok j q a).2;omega⟩
   .subst a;exact ⟨λs F=>absurd F List.not_mem_nil,qP⟩
 .intro r K u;rw[G,PK];rcases M7 r lo with a|a
  .exact .inl (h.cov r K (by rw[l];exact a))
  .exact .inr (Gb E t g a u)
 .intro j d q r v m K u;rw[List.getElem?_set] at m;split at m
  .rename_i w
   have C:=Option.some.inj m;subst C;subst w;rw[B] at v;have N:=Option.some.inj v;subst N;rw[T2];have T:Cu o r=(decide (r<lo) && decide (A' ll r=A' ll lo)):=by
    rcases c k o S with a|⟨_,a,L⟩
    .have:=h.mem k _ o r (A k _ B (by have:=AM a;have:=h.len;omega)) a K u;rw[l] at this;exact this
    .subst a;symm;rw[IX,Bool.and_eq_false_iff];rcases M7 r lo with f|f
     .right;rw[decide_eq_false_iff_not];intro z;exact L (z▸h.cov r K (by rw[l];exact f))
     .left;rw[decide_eq_false_iff_not];omega
   rw[T];rcases M7 r lo with f|f
   .have R:decide (r<lo)=true:=decide_eq_true f;have Q:decide (lo<=r)=false:=decide_eq_false qO;have V:decide (r<nx p (i+1))=true:=decide_eq_true qO;simp only[R,Q,V,Bool.true_and,Bool.false_and,Bool.or_false]
   .have R:decide (r<lo)=false:=decide_eq_false qO;have Q:decide (lo<=r)=true:=decide_eq_true f;simp only[R,Q,Bool.true_and,Bool.false_and,Bool.false_or];rcases M7 r (nx p (i+1)) with z|z
    .rw[decide_eq_true z,decide_eq_true (Gb E t g f z)];simp;omega
    .rw[decide_eq_false (show ¬r<nx p (i+1) by omega)];simp;omega
  .rename_i w
   have M:d≠A' ll lo:=λe=>by subst e;exact w (R1 H B v)
   rcases c j q m with a|⟨a,_,L⟩
   .have U:j<D.length:=by have:=AM a;have:=h.len;omega
    have:=h.mem j d q r (A j d v U) a K u;rw[this,l];rcases M7 r lo with f|f
    .rw[decide_eq_true f,decide_eq_true (show r<nx p (i+1) by omega)]
    .rw[decide_eq_false (show ¬r<lo by omega)];rcases M7 r (nx p (i+1)) with z|z
     .rw[Gb E t g f z,decide_eq_false (show ¬A' ll lo=d from λe=>M e.symm)];simp
     .rw[decide_eq_false (show ¬r<nx p (i+1) by omega)]
   .exfalso;subst a;rw[G] at v;unfold Hi at v;rw[if_neg L,List.getElem?_append_right (Nat.le_refl _)] at v;simp at v;exact M v.symm
def LD:List (List Sp)->Int
  | []=>0
  | l::ll=>if BT l≠0 then BT l else LD ll
def HE (ll:List (List Sp)) (cs:List (List Sp)):Prop:=∃p,FR ll.flatten p∧cs.length=(C1 (p.map (A' ll))).length∧∀(k:Nat) key c,(C1 (p.map (A' ll)))[k]?=some key->cs[k]?=some c->Fc c (λr=>decide (A' ll r=key))
def M9 (cs:List (List Sp)):Prop:=(∃c∈cs,16<c.length)∨16<cs.length
def XD (ll out:List (List Sp)) (e:Int):Prop:=(LD ll≠0∧e=LD ll∧out=[])∨(LD ll=0∧∃cs,HE ll cs∧((M9 cs∧e=2∧out=[])∨(¬M9 cs∧e=0∧out=cs)))
theorem HE.uniq {ll cs a:List (List Sp)} (h:HE ll cs) (n:HE ll a):cs=a:=by
 obtain ⟨p,g,hl,m⟩:=h;obtain ⟨q,k,hl',e⟩:=n;obtain rfl:p=q:=MC g.1 k.1 λx=>(g.2 x).trans (k.2 x).symm;apply NE qO;intro i hi;obtain ⟨c,f⟩:=AX (l:=cs) (i:=i) hi;obtain ⟨c',d⟩:=AX (l:=a) (i:=i) qO;obtain ⟨b,j⟩:=AX (l:=C1 (p.map (A' ll))) (i:=i) qO;rw[f,d,Fc.eq (m i b c j f) (e i b c' j d) λ_ _ _=>rfl]
theorem GInv.done {ll:List (List Sp)} {p:List Int} {u:List (List Bool)} {a cs:List (List Sp)} (h:GInv ll p p.length u a) (s:FR ll.flatten p) (t:cs.length=a.length) (q:∀(k:Nat) o c,a[k]?=some o->cs[k]?=some c->Ff o c):HE ll cs:=by
 have b:=h.keys;rw[List.take_length] at b;refine ⟨p,s,by rw[<-b,t,h.len],λk e c g f=>?_⟩;rw[<-b] at g;obtain ⟨o,d⟩:=AX (l:=a) (i:=k) (by have:=AM f;omega);have m:=Fc.join (q k o c d f) (h.ok k o d).1;refine ⟨m.1.1,λr j n=>?_⟩;rw[m.1.2 r j n,h.mem k e o r g d j n];have:r<nx p p.length:=by unfold nx;rw[List.getElem?_eq_none (Nat.le_refl _)];simp;omega
 rw[decide_eq_true this];simp
end Go.Proofs
namespace Go.Proofs
open Go Go.Eng Go.Sort
abbrev RF:Nat:=22
structure CSt (w:World) (base:Nat) (vo:Value) (vs:List Value) (outs:List (List Sp)):Prop where
 o:w.ownsRow base RF 1 vo outs.length vs
 len:vs.length=outs.length
 inn:∀(i:Nat) v l,vs[i]?=some v->outs[i]?=some l->w.ownsRow base NW 2 v l.length (l.map BK).flatten
 ap:∀(i j:Nat) v u b,vs[i]?=some v->vs[j]?=some u->v.ownBlock=some b->u.ownBlock=some b->i=j
 apo:∀(i:Nat) v b,vs[i]?=some v->v.ownBlock=some b->vo.ownBlock≠some b
theorem CSt.start (w:World) (base:Nat):CSt w base (.slice none 0 0) [] []:=
 ⟨World.ownsRow_nil _ _ _ _,O,λi v l h=>by simp at h,λi j v u b h=>by simp at h,λi v b h=>by simp at h⟩
theorem CSt.some {w:World} {base:Nat} {c:Value} {vs:List Value} {a:List (List Sp)} (h:CSt w base c vs a) {i:Nat} {v:Value} (b:vs[i]?=some v):∃l,a[i]?=some l:=
 AX (by have:=AM b;have:=h.len;omega)
theorem CSt.chg {M:Nat->Prop} {w w':World} {base:Nat} {j:Value} {vs:List Value} {a:List (List Sp)} (h:CSt w base j vs a) (c:Chg M w w') (g:∀b,base<=b->b<w.heap.size->¬M b):CSt w' base j vs a:=
 ⟨Co h.o c λk d=>g k (h.o.lt k d).1 (h.o.lt k d).2,h.len,λi v l e f=>Co (h.inn i v l e f) c λk d=>g k ((h.inn i v l e f).lt k d).1 ((h.inn i v l e f).lt k d).2,h.ap,h.apo⟩
theorem CSt.ext {w w':World} {base:Nat} {b:Value} {vs:List Value} {a:List (List Sp)} (h:CSt w base b vs a) (c:Ae w w'):CSt w' base b vs a:=h.chg c λ_ _ _ f=>f
theorem CSt.push {w w':World} {base:Nat} {n v':Value} {vs:List Value} {d:List (List Sp)} (h:CSt w base n vs d) (s:w'.ownsRow base RF 1 v' (d.length+1) (vs++[.slice none 0 0])) (o:Chg (λx=>n.ownBlock=.some x) w w')
 (p:∀k,v'.ownBlock=.some k->n.ownBlock=.some k∨w.heap.size<=k):CSt w' base v' (vs++[.slice none 0 0]) (d++[[]]):=by
 have c:∀(i:Nat) v,(vs++[.slice none 0 0])[i]?=.some v->vs[i]?=.some v∨(i=vs.length∧v=.slice none 0 0):=by
  intro i v e;rcases Nat.lt_or_ge i vs.length with a|a
  .left;rwa [List.getElem?_append_left a] at e
  .right;rw[List.getElem?_append_right a] at e;have m:=AM e;simp at m;obtain rfl:i=vs.length:=qO
   simp at e;exact ⟨O,e.symm⟩
 refine ⟨by simpa using s,by simp[h.len],?_,?_,?_⟩
 .intro i v l e g;rcases c i v e with a|⟨a,rfl⟩
  .rw[List.getElem?_append_left (by have:=AM a;have:=h.len;omega)] at g;exact Co (h.inn i v l a g) o λk r=>h.apo i v k a r
  .rw[a,h.len] at g;simp at g;subst g;exact World.ownsRow_nil _ _ _ _
 .intro i j v u b e q hb f;rcases c i v e with a|⟨_,rfl⟩
  .rcases c j u q with m|⟨_,rfl⟩
   .exact h.ap i j v u b a m hb f
   .cases f
  .cases hb
 .intro i v b e hb f;rcases c i v e with a|⟨_,rfl⟩
  .rcases p b f with m|m
   .exact h.apo i v b a hb m
   .obtain ⟨l,g⟩:=h.some a;have:=((h.inn i v l a g).lt b hb).2;omega
  .cases hb
theorem CSt.grow {w w' I:World} {base g cap k n:Nat} {v v':Value} {vs:List Value} {a:List (List Sp)} {l:List Sp} {x:Sp} {B:Array Value} (h:CSt w base (.slice (.some ⟨g,0,none⟩) n cap) vs a) (hn:n=a.length) (D:vs[k]?=.some v) (hl:a[k]?=.some l)
 (L:w'.ownsRow base NW 2 v' (l.length+1) ((l++[x]).map BK).flatten) (J:Chg (λx=>v.ownBlock=.some x) w w') (H:∀k,v'.ownBlock=.some k->v.ownBlock=.some k∨w.heap.size<=k)
 (M:BH w' g B RF) (F:Put w' I g (B.setIfInBounds k v') RF):CSt I base (.slice (.some ⟨g,0,none⟩) n cap) (vs.set k v') (a.set k (l++[x])):=by
 have hkl:=AM D;have A:v.ownBlock≠.some g:=λe=>h.apo k v g D e O;have hgl:=(h.o.lt g O).2;have s:v'.ownBlock≠.some g:=λe=>by rcases H g e with f|f;exact A f;omega
 have y:w'.ownsRow base RF 1 (.slice (.some ⟨g,0,none⟩) n cap) a.length vs:=Co h.o J λq p=>by cases p;exact A
 rw[<-hn] at y;have G:=I_ y M (i:=k) (by have:=h.len;omega) F.blk;have d:∀(i:Nat) u,(vs.set k v')[i]?=.some u->(i=k∧u=v')∨(i≠k∧vs[i]?=.some u):=by
  intro i u c;rw[List.getElem?_set] at c;split at c
  .rename_i C
   exact .inl ⟨C.symm,(Option.some.inj c).symm⟩
  .rename_i C
   exact .inr ⟨λe=>C e.symm,c⟩
 have r:∀(i:Nat) u b,i≠k->vs[i]?=.some u->u.ownBlock=.some b->v.ownBlock≠.some b∧v'.ownBlock≠.some b∧b≠g:=by
  intro i u b hi c hb;have f:v.ownBlock≠.some b:=λe=>hi (h.ap i k u v b c D hb e);refine ⟨f,λe=>?_,λe=>h.apo i u b c hb (by rw[e];rfl)⟩;rcases H b e with m|m
  .exact f m
  .obtain ⟨q,p⟩:=h.some c;have:=((h.inn i u q c p).lt b hb).2;omega
 refine ⟨by rw[List.length_set,<-hn];exact G,by simp[h.len],?_,?_,?_⟩
 .intro i u q c p;rcases d i u c with ⟨rfl,rfl⟩|⟨f,m⟩
  .rw[List.getElem?_set] at p;rw[if_pos O,if_pos (by have:=h.len;omega)] at p;have E:=Option.some.inj p;subst E;rw[List.length_append];exact Co L F.chg λb hb e=>s (e▸hb)
  .rw[List.getElem?_set,if_neg (λe=>f e.symm)] at p;exact Co (Co (h.inn i u q m p) J λb hb=>(r i u b f m hb).1) F.chg λb hb e=>(r i u b f m hb).2.2 e
 .intro i j u z b c P hb t;rcases d i u c with ⟨rfl,rfl⟩|⟨f,m⟩<;>rcases d j z P with ⟨rfl,rfl⟩|⟨N,K⟩
  .rfl
  .exact absurd hb (r j z b N K t).2.1
  .exact absurd t (r i u b f m hb).2.1
  .exact h.ap i j u z b m K hb t
 .intro i u b c hb;rcases d i u c with ⟨rfl,rfl⟩|⟨f,m⟩
  .intro e;cases e;exact s hb
  .exact h.apo i u b m hb
def NM (b:Bool):Int:=if b then 1 else 0
def Gp (m:List Bool):ByteArray:=strOfNums (m.map NM)
theorem UH {m b:List Bool} (h:Gp m=Gp b):m=b:=by
 have c:=congrArg (λs=>s.data.toList) h;simp only[Gp,strOfNums_data,List.map_map] at c;exact (List.map_inj_right (λx y a=>by cases x<;>cases y<;>first|rfl|(simp[NM] at a;done)|(exact absurd a qD))).1 c
def D5:List (List Bool)->Nat->List (ByteArray×Int)
  | [],_=>[]
  | m::ks,n=>(Gp m,((n:Nat):Int))::D5 ks (n+1)
theorem Kp:∀(a:List (List Bool)) (m:List Bool) (n:Nat),D5 (a++[m]) n=D5 a n++[(Gp m,(((n+a.length:Nat):Nat):Int))]
 | [],m,n=>rfl
 | x::a,m,n=>by
  show (Gp x,_)::D5 (a++[m]) (n+1)=(Gp x,_)::(D5 a (n+1)++_);rw[Kp a m (n+1),List.length_cons,show n+1+a.length=n+(a.length+1) by omega]
theorem MH:∀{a:List (List Bool)} {n:Nat} {q:ByteArray×Int},q∈D5 a n->∃(j:Nat) (m:List Bool),a[j]?=some m∧q=(Gp m,(((n+j:Nat):Nat):Int))
 | [],_,_,h=>by cases h
 | x::a,n,q,h=>by
  rcases List.mem_cons.1 h with h|h
  .exact ⟨0,x,O,h⟩
  .obtain ⟨j,m,b,c⟩:=MH h;exact ⟨j+1,m,b,by rw[c];congr 2;omega⟩
theorem MI:∀{a:List (List Bool)} {n:Nat} {m:List Bool},m∈a->Gp m∈(D5 a n).map (·.1)
 | x::a,n,m,h=>by
  rcases List.mem_cons.1 h with rfl|h
  .exact List.mem_cons_self
  .exact List.mem_cons_of_mem _ (MI (n:=n+1) h)
theorem Rt {b:List (List Bool)} {m:List Bool} {v:Int} (h:CT (D5 b 0) (Gp m)=some v):∃j:Nat,v=((j:Nat):Int)∧b[j]?=some m:=by
 obtain ⟨j,m',c,a⟩:=MH (Hk h);simp only[Prod.mk.injEq,Nat.zero_add] at a;obtain rfl:=UH a.1;exact ⟨j,a.2,c⟩
theorem Pv {a:List (List Bool)} {m:List Bool} (h:CT (D5 a 0) (Gp m)=none):m∉a∧D9 (D5 a 0) (Gp m) ((a.length:Nat):Int)=D5 (a++[m]) 0:=by
 refine ⟨λb=>?_,?_⟩
 .have:=Jl.2 (MI (n:=0) b);rw[h] at this;cases this
 .rw[EO _ h,Kp,Nat.zero_add]
end Go.Proofs
namespace Go.Proofs
open Go Go.Eng Go.Sort
def Jt (l:List Sp):List Int:=0::l.flatMap λs=>[s.1,s.2+1]
theorem Kc {l:List Sp} {k:Int}:k∈Jt l↔k=0∨∃s∈l,k=s.1∨k=s.2+1:=by
 unfold Jt;simp[List.mem_flatMap]
theorem Kd (l:List Sp):(Jt l).length=1+2*l.length:=by
 unfold Jt;rw[List.length_cons];have:(l.flatMap λs=>[s.1,s.2+1]).length=2*l.length:=by
  induction l with
  | nil=>rfl
  | cons x l ih=>rw[List.flatMap_cons,List.length_append,ih];simp;omega
 omega
theorem UQ {l:List Sp} {q:List Int} (i:∀s∈l,EZ s) (j:q.Pairwise (· < ·)) (e:∀x,x∈q↔x∈Jt l):∃p,FR l p∧(q=p∨q=p++[1114112]):=by
 have hb:∀x∈q,0<=x∧x<=1114112:=λx m=>by
  rcases Kc.1 ((e x).1 m) with a|⟨s,b,a⟩
  .omega
  .have:=i s b;unfold EZ at this;omega
 have f:∀k,k<=1114111->(k∈Jt l↔NR l k):=λk o=>by
  rw[Kc];unfold NR;constructor
  .rintro (a|⟨s,b,a|a⟩)
   .exact .inl a
   .exact .inr ⟨s,b,.inl a⟩
   .exact .inr ⟨s,b,.inr ⟨qO,a⟩⟩
  .rintro (a|⟨s,b,a|a⟩)
   .exact .inl a
   .exact .inr ⟨s,b,.inl a⟩
   .exact .inr ⟨s,b,.inr a.2⟩
 have c:∀k,NR l k->k<=1114111:=λk o=>by
  rcases o with a|⟨s,b,a⟩
  .omega
  .have:=i s b;unfold EZ at this;omega
 rcases List.eq_nil_or_concat q with rfl|⟨n,x,rfl⟩
 .exact ⟨[],⟨j,λk=>⟨λh=>(f k (by cases h)).1 ((e k).1 h),λh=>(e k).2 ((f k (c k h)).2 h)⟩⟩,.inl O⟩
 .rw[List.concat_eq_append] at *;have g:∀y∈n,y<x:=λy r=>(List.pairwise_append.1 j).2.2 y r x qP;have hxb:=hb x qP;by_cases m:x=1114112
  .subst m;refine ⟨n,⟨(List.pairwise_append.1 j).1,λk=>⟨λh=>?_,λh=>?_⟩⟩,.inr O⟩
   .have:=g k h;exact (f k qO).1 ((e k).1 (by simp[h]))
   .have a:=c k h;have t:=(e k).2 ((f k a).2 h);rcases List.mem_append.1 t with d|d
    .exact d
    .rw[List.mem_singleton] at d;omega
  .refine ⟨n++[x],⟨j,λk=>⟨λh=>?_,λh=>(e k).2 ((f k (c k h)).2 h)⟩⟩,.inl O⟩;have:k<=1114111:=by
    rcases List.mem_append.1 h with d|d
    .have:=g k d;omega
    .rw[List.mem_singleton] at d;omega
   exact (f k this).1 ((e k).1 h)
end Go.Proofs
