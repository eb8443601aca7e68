/- Contracts and plain lemmas, part 2. -/
import Derived.Test.YtgmbafkdgmkfoaaGreatDoorZr1x
open Go.Proofs.Tryz
set_option maxHeartbeats 16000000
namespace Go.Proofs
open Go Go.Eng
set_option maxRecDepth 100000
theorem Yb (k:World) (v:Value) (l:List (Int×Int)) (h:BP k v l) (hl:l.length<=2000000) :
 Bj prog 74 #[v] k λr w=>∃a c,r=.slice a l.length c∧B_ (λb=>k.heap.size<=b∧b<w.heap.size) w 2 r (l.map Ba)∧Ah k w:=by
 obtain ⟨a,c,rfl⟩:=BX.form h;simp only[dW] at h⊢;obtain ⟨base,hbase⟩:∃base,base=k.heap.size:=⟨_,O⟩;refine qR func74 O ntmps74 O (λE=>(AA (qA _ O (AB (AH (AA (qM _ O (CM (v:=(.bool a.isNone)) O O qD (Lm dS O O) (AB (A4 O (λhn=>?_) (λhn=>?_)))))))))))
 .have A:=hn;have j:l.length=0:=by rcases gO l.length with B|B;exact B;obtain ⟨b,o,rfl,_⟩:=BR h B;simp at hn
  have i:l=[]:=eD j;refine AA (qA _ O (AB (AO (AK (AY mA (v:=(.slice none 0 0)) O ?_)))));exact ⟨none,0,by rw[j],by subst i;exact B_.nil _ _ _ _ _,E⟩
 .have A:=hn;rcases dT (decide (l.length=0)) with s|s
  .have d:=s;have d:=of_decide_eq_true d;refine AM (AC (AA (Hw qD dS BL ?_)));intro q F f;have J:=f.ge E;have E:=E.ext f.ext;have H:=f.blk;refine qM _ O (qV (J8 dS BL (a':=a) (c':=c) O (dU _) (by show Value.slice a l.length c=_;rw[d])) (qA _ O (AB (AO (AY mA (v:=(.slice (oI q 0) 0 0)) O ?_)))));have i:l=[]:=eD d;exact ⟨oI q 0,0,by rw[d],by subst i;exact B_.nil _ _ _ _ _,E⟩
  .have d:=s;have d:=of_decide_eq_false d;obtain ⟨b,o,rfl,y⟩:=BR h qO;refine AM (AC (AA (Hw qD dS BL ?_)));intro q F f;have J:=f.ge E;have E:=E.ext f.ext;have H:=f.blk;refine qM _ O ?_;have g:=IN (base:=base) (size:=2) H qO;have z:base<=F.heap.size:=by have:=f.ext.size;omega
   refine BQ (base:=base) (n:=0) (m:=l.length) (xs:=[]) (news:=(l.map Ba).flatten) (size:=2) (bytes:=16) (v:=(.slice (oI q 0) 0 0)) qD dS BL Ma Df O qD O g O (GF l) ((LV y).ext f.ext) (NI l) (by unfold maxLen;omega) qO (z) ?_;intro v9 w29 e u Dv9;have E:=E.step u (λx hx h=>absurd (g.lt x h).1 qO);obtain ⟨I,D,rfl⟩:=BB e;refine qA _ O (AB (AO (AY mA (v:=(.slice I (0+l.length) D)) O ?_)));simp only[eO,fO] at e;have t:=Di e (by intro r C;simp only[eU] at C;obtain ⟨p,_,rfl⟩:=C;rfl) qP qD;obtain ⟨G,rfl,hgq,_⟩:=Co e qO;simp only[eO];exact ⟨oI G 0,D,O,B_.mk t ⟨qO,(e.lt G O).2⟩,E⟩
mutual
def HW:Re->Prop
  | .mk _ set args _ _ _=>set.length<=2000000∧II args
def II:List Re->Prop
  | []=>True
  | t::ts=>HW t∧II ts
end
theorem RA {t:Re} (h:HW t):t.set.length<=2000000:=by cases t;simp only[HW] at h;exact h.1
theorem RB {t:Re} (h:HW t) {i:Nat} {x:Re} (a:t.args[i]?=some x):HW x:=by
 cases t with
 | mk k set args mn mx ng=>
 simp only[HW] at h;replace h:=h.2;simp only[Re.args] at a
 induction args generalizing i with
 | nil=>simp at a
 | cons u us ih=>
  simp only[II] at h;cases i with
  | zero=>simp at a;subst a;exact h.1
  | succ i=>simp at a;exact ih a h.2
def HK (n0:Nat) (t:Re):G0:=λv w=>∃vs Z L,v=.agg vs.toArray∧Ds Z w t vs L∧(∀x,Z x->¬L x)∧(∀x,Z x∨L x->n0<=x∧x<w.heap.size)
theorem HJ (n0:Nat) (t:Re):∀v w w',Chg Aj w w'->HK n0 t v w->HK n0 t v w':=by
 rintro v w w' e ⟨vs,Z,L,f,d,c,b⟩;exact ⟨vs,Z,L,f,Ds.ext e t d,c,λx a=>⟨(b x a).1,fD (b x a).2 e.size⟩⟩
def OH (n0:Nat) (t:Re):G0:=λv w=>∃b vs Z L,v=.slice (oI b 0) 1 1∧BV w b vs.toArray FR∧Ds Z w t vs L∧(∀x,Z x->¬L x)∧(∀x,Z x∨L x->n0<=x∧x<w.heap.size)
theorem KT (n0:Nat) (t:Re):∀v w w',Chg Aj w w'->OH n0 t v w->OH n0 t v w':=by
 rintro v w w' e ⟨b,vs,Z,L,g,h,f,d,c⟩;exact ⟨b,vs,Z,L,g,Ah.keep e h,Ds.ext e t f,d,λx a=>⟨(c x a).1,fD (c x a).2 e.size⟩⟩
theorem Ug {N n0:Nat} {σ:CZ} {w:World} {dst:Option Tmp} {ty:TypeId} {pos:String} {af:Array Edge} {g:Option (Nat×Bool)} {x:Operand} {t:Re} {vs:n_} {Z L:oD} (a:ev σ x=.agg vs.toArray) (c:Ds Z w t vs L) (e:∀x,Z x->¬L x) (d:∀x,Z x∨L x->n0<=x∧x<w.heap.size) :
 Dn Aj prog N ⟨dst,.buildSlice 23 1 #[(0,x)],ty,pos,af,g⟩ (OH n0 t) σ w:=by
 have b:=c;obtain ⟨sa,sc,aa,ac,rfl,_⟩:=c.form;have hn:=New.mk' w (R6 t sa sc aa ac) FR;refine BZ (DB (parts:=[(0,x)]) (ps:=[(0,.agg (R6 t sa sc aa ac))]) (by simp only[List.map,a]) dJ AG A1 qD qD qK) hn.ext ?_;exact ⟨_,_,Z,L,O,hn.blk,Ds.ext hn.ext t b,e,λx a=>⟨(d x a).1,fD (d x a).2 hn.ext.size⟩⟩
theorem UP {j u n:World} {base n1 b3:Nat} {v v':Value} {x:Re} {vs:n_} {ts:List Re} {rows:List n_} {Z L f i:oD}
 (m:B' Z j ts rows L) (B:Ds f j x vs i) (r:∀y,Z y->¬L y) (d:∀y,Z y∨L y->base<=y∧y<n1) (g:∀q,v.ownBlock=some q->(¬Z q∧¬L q)∧(base<=q∧q<n1)) (s:∀y,f y->¬i y) (c:∀y,f y∨i y->n1<=y∧y<j.heap.size)
 (C:Chg (λy=>v.ownBlock=some y) j u) (A:∀q,v'.ownBlock=some q->v.ownBlock=some q∨j.heap.size<=q) (l:Chg (λy=>y=b3) u n) (hb3:b3<base) (hbn:base<=n1) (hnw:n1<=j.heap.size) :
 B' (λy=>Z y∨f y) n (ts++[x]) (rows++[vs]) (λy=>L y∨i y)∧(∀y,(Z y∨f y)->¬(L y∨i y))∧(∀y,(Z y∨f y)∨(L y∨i y)->base<=y∧y<n.heap.size)∧(∀q,v'.ownBlock=some q->¬(Z q∨f q)∧¬(L q∨i q)):=by
 have hs2:=C.size;have hs3:=l.size;have w:∀y,Z y->¬v.ownBlock=some y:=λy e h=>(g y h).1.1 e;have t:∀y,L y->¬v.ownBlock=some y:=λy e h=>(g y h).1.2 e;have k:∀y,f y->¬v.ownBlock=some y:=λy e h=>by have:=(g y h).2;have:=c y (.inl e);omega
 have cE:∀y,i y->¬v.ownBlock=some y:=λy e h=>by have:=(g y h).2;have:=c y (.inr e);omega
 have z:∀y,Z y->¬y=b3:=λy e h=>by have:=d y (.inl e);omega
 have D:∀y,L y->¬y=b3:=λy e h=>by have:=d y (.inr e);omega
 have o:∀y,f y->¬y=b3:=λy e h=>by have:=c y (.inl e);omega
 have p:∀y,i y->¬y=b3:=λy e h=>by have:=c y (.inr e);omega
 have F:=B'.chg l z ts D (B'.chg C w ts t m);have E:=Ds.chg l o x p (Ds.chg C k x cE B);refine ⟨B'.snoc (Ds.mono (λ_ h=>.inr h) x (λ_ h=>h) E) (B'.mono (λ_ h=>.inl h) ts (λ_ h=>h) F) (λy a b=>by have:=d y (.inr a);have:=c y (.inr b);omega),?_,?_,?_⟩
 .rintro y (a|a) (b|b)
  .exact r y a b
  .have:=d y (.inl a);have:=c y (.inr b);omega
  .have:=d y (.inr b);have:=c y (.inl a);omega
  .exact s y a b
 .rintro y ((a|a)|(a|a))
  .have:=d y (.inl a);omega
  .have:=c y (.inl a);omega
  .have:=d y (.inr a);omega
  .have:=c y (.inr a);omega
 .intro q G;rcases A q G with h|h
  .refine ⟨?_,?_⟩
   .rintro (a|a);exact w q a h;exact k q a h
   .rintro (a|a);exact t q a h;exact cE q a h
  .refine ⟨?_,?_⟩
   .rintro (a|a);have:=d q (.inl a);omega;have:=c q (.inl a);omega
   .rintro (a|a);have:=d q (.inr a);omega;have:=c q (.inr a);omega
theorem UQ {w:World} {base n0 sc j:Nat} {t:Re} {sa i:oE} {rows:List n_} {Z L p:oD} (c:w.ownsRow base FR 6 (.slice i t.args.length j) t.args.length rows.flatten) (l:B' Z w t.args rows L)
 (m:B_ p w 2 (.slice sa t.set.length sc) (t.set.map Ba)) (r:∀x,Z x->¬L x) (f:∀x,Z x∨L x->base<=x∧x<w.heap.size) (n:∀q,(Value.slice i t.args.length j).ownBlock=some q->¬Z q∧¬L q) (g:∀x,p x->n0<=x∧x<base) (hn0:n0<=base) (hbs:base<=w.heap.size) :
 HK n0 t (.agg (R6 t sa sc i j)) w:=by
 refine ⟨(oJ t sa sc i j),λx=>Z x∨p x,λx=>L x∨(Value.slice i t.args.length j).ownBlock=some x,O,?_,?_,?_⟩
 .have hlt:=c.lt;cases t with
  | mk k set args mn mx ng=>
  simp only[Re.kind,Re.set,Re.args,Re.mn,Re.mx,Re.neg] at *;simp only[Ds];refine ⟨sa,sc,i,j,O,m.mono λ_ h=>.inr h,?_,?_⟩
  .rcases c.2 with ⟨e,o⟩|⟨q,cap,d,e,o,s,y,z,A,u⟩
   .simp at e;omega
   .simp only[Value.slice.injEq] at e;obtain ⟨_,_,rfl⟩:=e;simp only[maxLen] at z;exact ⟨y,qO⟩
  .rcases c.2 with ⟨e,o⟩|⟨q,cap,d,e,o,s,y,z,A,u⟩
   .exact .inl (eD o)
   .simp only[Value.slice.injEq] at e;obtain ⟨rfl,_,rfl⟩:=e;refine .inr ⟨q,rows,d.toList.drop (args.length*6),L,.inr O,O,?_,B'.six l,B'.mono (λ_ h=>.inl h) args (λ_ h=>h) l,λx v=>⟨.inl v,λh=>?_⟩⟩
    .have:(rows.flatten++d.toList.drop (args.length*6)).toArray=d:=by rw[<-u,fF]
     rw[this];exact s
    .subst h;exact (n x O).2 v
 .rintro x (a|a) (b|b)
  .exact r x a b
  .exact (n x b).1 a
  .have:=g x a;have:=f x (.inr b);omega
  .have:=g x a;have:=c.lt x b;omega
 .rintro x ((a|a)|(a|a))
  .have:=f x (.inl a);omega
  .have:=g x a;omega
  .have:=f x (.inr a);omega
  .have:=c.lt x a;omega
theorem Qa {n0 n1:Nat} (h:n1<=n0) {t:Re} {v:Value} {w:World} (f:HK n0 t v w):HK n1 t v w:=by
 obtain ⟨vs,Z,L,c,e,d,b⟩:=f;exact ⟨vs,Z,L,c,e,d,λx a=>⟨dL h (b x a).1,(b x a).2⟩⟩
theorem UR {n0 b:Nat} {t:Re} {v:Value} {w w':World} (c:Chg (λy=>y=b) w w') (hb:b<n0) (g:HK n0 t v w):HK n0 t v w':=by
 obtain ⟨vs,Z,L,i,f,e,d⟩:=g;exact ⟨vs,Z,L,i,Ds.chg c (λx a h=>by have:=d x (.inl a);omega) t (λx a h=>by have:=d x (.inr a);omega) f,e,λx a=>⟨(d x a).1,fD (d x a).2 c.size⟩⟩
theorem WW:∀(n:Nat) (t:Re) (w0:World) (vs:List Value),t.size≤n→t.size≤1000000→HW t→A3 w0 t vs→
    Bj prog 75 #[.agg vs.toArray] w0 fun v w=>HK w0.heap.size t v w∧Ah w0 w:=by
  intro n
  induction n with
  | zero=>intro t w0 vs hn;have:=t.size_pos;omega
  | succ n ih=>
  intro t w0 vs hn hM be ht;have b5:=ht;obtain ⟨sa,sc,aa,ac,rfl,cc,hac,_⟩:=ht.form;have hal:t.args.length≤t.size:=by
    have h1:=t.size_eq;have:∀ts:List Re,ts.length≤Re.sizes ts:=by
      intro ts
      induction ts with
      | nil=>simp
      | cons x xs ih=>have:=x.size_pos;simp only[List.length_cons,Re.sizes];omega
    have:=this t.args;omega
  refine qR func75 rfl ntmps75 rfl (fun E=>(AA (BC (v:=(.agg (R6 t sa sc aa ac))) (c:=(R6 t sa sc aa ac)) qD rfl rfl ?_)));intro br wr Nr;have Fr:=Nr.ge E;replace E:=E.ext Nr.ext;have Br:=Nr.blk;refine BK (c:=#[(I6 0),(.slice none 0 0),(.slice none 0 0),(I6 0),(I6 0),(.bool false)]) qD A1 rfl ?_;intro bp wp Np;have Fp:=Np.ge E;have Op_br:=Np.lt Br;replace Br:=Np.keep Br;replace E:=E.ext Np.ext;have Bp:=Np.blk;refine AB (AA (qV (AI (vs:=(oJ t sa sc aa ac)) rfl Ad AG rfl (Br.cells rfl)) (As (v:=(.agg (R6 t sa sc aa ac))) (c:=(R6 t sa sc aa ac)) (n:=6) qD A1 rfl AG rfl rfl rfl qS ?_)));intro bq wq Nq;have Fq:=Nq.ge E;have Oq_br:=Nq.lt Br;have Oq_bp:=Nq.lt Bp;replace Br:=Nq.keep Br;replace Bp:=Nq.keep Bp;replace E:=E.ext Nq.ext;have Bq:=Nq.blk;refine AB (AA (qF br 0 1 rfl underlying25 rfl Bc rfl (qV (AJ rfl Bf (Br.cell rfl)) ?_)));obtain ⟨n3,ca⟩:∃n3,n3=wq.heap.size:=⟨_,rfl⟩;have hq3:=Bq.lt;refine qE rfl (AS func74 kQ kQ rfl) (Yb _ _ t.set (BX.ext cc E) (RA be)) ?_;rintro _ w9 ⟨am,ak,rfl,ab,X9⟩;replace Br:=X9.keep Br;replace Bp:=X9.keep Bp;replace Bq:=X9.keep Bq;replace E:=E.ext X9;obtain ⟨base,ao⟩:∃base,base=w9.heap.size:=⟨_,rfl⟩;have hs9:=X9.size;rw[←ao,←ca] at ab;have af:base≤w9.heap.size:=qO
  refine qF bq 0 1 rfl underlying25 rfl Bc rfl (CB (b:=bq) (o:=1) (c':=(R6 t am ak aa ac)) (v:=(.slice am t.set.length ak)) rfl rfl rfl Bc Bq qP rfl ?_);intro w1 S1;replace af:=Nat.le_trans af S1.chg.size;replace ab:=B_.chg ab S1.chg (fun x hx hm=>by have bb:=hx;have a5:x=bq:=hm;omega);replace Br:=S1.keep qO Br;replace Bp:=S1.keep qO Bp;replace E:=S1.step E (by first|exact Or.inl qO|assumption|exact Or.inr rfl|exact Or.inr (by assumption)|exact Or.inr qP|exact Or.inr qO|exact Or.inr (by dsimp only;omega));replace Bq:=S1.blk;refine qF bq 0 2 rfl underlying25 rfl BF rfl (CB (b:=bq) (o:=2) (c':=#[(I6 t.kind),(.slice am t.set.length ak),(.slice none 0 0),(I6 t.mn),(I6 t.mx),(.bool t.neg)]) (v:=(.slice none 0 0)) rfl rfl rfl BF Bq qP rfl ?_);intro w2 S2;replace af:=Nat.le_trans af S2.chg.size;replace ab:=B_.chg ab S2.chg (fun x hx hm=>by have bb:=hx;have a5:x=bq:=hm;omega);replace Br:=S2.keep qO Br;replace Bp:=S2.keep qO Bp;replace E:=S2.step E (by first|exact Or.inl qO|assumption|exact Or.inr rfl|exact Or.inr (by assumption)|exact Or.inr qP|exact Or.inr qO|exact Or.inr (by dsimp only;omega));replace Bq:=S2.blk;refine AB (AH (AA (qF br 0 2 rfl underlying25 rfl BF rfl (qV (AJ rfl A9 (Br.cell rfl)) (qV (AT underlying23 rfl) (qM _ rfl (AB (AW (Ax (fun nn_ σ W3=>∃(k:Nat) (la:Option Addr) (lc:Nat) (aj:List (List Value)) (Z:Nat→Prop) (L:Nat→Prop),(∃jj_,σ=BW jj_ [(2,(P6 bp 0)),(3,(P6 bq 0)),(13,(.slice aa t.args.length ac)),(14,(I6 (t.args.length:Int))),(15,(I6 (k:Int)))])∧Chg Aj w0 W3∧BV W3 br (R6 t sa sc aa ac) 25∧BV W3 bp #[(I6 0),(.slice none 0 0),(.slice none 0 0),(I6 0),(I6 0),(.bool false)] 25∧BV W3 bq (#[(I6 t.kind),(.slice am t.set.length ak),(.slice la k lc),(I6 t.mn),(I6 t.mx),(.bool t.neg)]) 25∧(k≤t.args.length)∧(W3.ownsRow base FR 6 (.slice la k lc) k aj.flatten)∧(B' Z W3 (t.args.take k) aj L)∧(∀x,Z x→¬L x)∧(∀x,Z x∨L x→base≤x∧x<W3.heap.size)∧(∀x,(Value.slice la k lc).ownBlock=some x→¬Z x∧¬L x)∧(base≤W3.heap.size)∧(B_ (fun b=>n3≤b∧b<base) W3 2 (.slice am t.set.length ak) (t.set.map Ba))∧nn_=t.args.length - k) (n:=t.args.length - 0) ?_ ?_)))))))))
  · exact ⟨0,none,0,[],(fun _=>False),(fun _=>False),Ak.out ⟨rfl,rfl,rfl,rfl,rfl,trivial⟩,E,Br,Bp,Bq,Nat.zero_le _,World.ownsRow_nil _ _ _ _,(by simp only[List.take_zero,B']),(fun _ f _=>f),(by rintro x (f|f)<;>exact f.elim),(by simp[Value.ownBlock]),af,ab,rfl⟩
  · clear E Br Bp Bq;rintro _ _ W3 ⟨k,la,lc,aj,Z,L,⟨j3,rfl⟩,E,Br,Bp,Bq,hk,ad,al,a6,aw,a7,af,ab,rfl⟩;refine AA (qV (A6 rfl rfl) (AB (AH (qC rfl (fun b4=>?_) (fun b4=>?_)))))
    · obtain ⟨x,hx⟩:=AU (l:=t.args) (i:=k) qO;obtain ⟨b,o,rfl,bv⟩:=(A3.rs b5).cells qO;obtain ⟨xs,b2,bh⟩:=bv k x hx;have a4:=bh;obtain ⟨av,aq,au,ar,rfl,_,_,_⟩:=bh.form;obtain ⟨nk,b0⟩:∃nk,nk=(W3).heap.size:=⟨_,rfl⟩;have ae:nk≤(W3).heap.size:=qO
      have ap:=ad.lt;rw[←b0] at aw ap;refine AM (AC (AH (AW (AA (qV (AL (b:=b) (o:=o) (len:=t.args.length) (cap:=ac) (i:=k) (o':=o+k*6) rfl rfl rfl underlying23 AG qO qO) (qV (AI rfl Ad AG rfl (b2.ext E)) (As (v:=(.agg (R6 x av aq au ar))) (c:=(R6 x av aq au ar)) (n:=6) qD A1 rfl AG rfl rfl rfl qS ?_)))))));intro bs ws Ns;have Fs:=Ns.ge E;have Os_br:=Ns.lt Br;have Os_bp:=Ns.lt Bp;have Os_bq:=Ns.lt Bq;replace Br:=Ns.keep Br;replace Bp:=Ns.keep Bp;replace Bq:=Ns.keep Bq;replace ab:=B_.chg ab Ns.ext (fun _ _ f=>f);replace af:=Nat.le_trans af Ns.ext.size;replace ae:=Nat.le_trans ae Ns.ext.size;replace ad:=Az ad Ns.ext;replace al:=B'.ext Ns.ext _ al;replace E:=E.ext Ns.ext;have Bs:=Ns.blk;refine AB ?_;obtain ⟨n1,bc⟩:∃n1,n1=ws.heap.size:=⟨_,rfl⟩;have bn:nk≤n1:=by rw[bc];exact ae
      have ag:n1≤ws.heap.size:=qO
      have ay:base≤n1:=by rw[bc];exact af
      obtain ⟨bx,ah⟩:∃Fs:List (FactT (Aj)),Fs=[.eq (P6 bq 2),.eq (.slice la k lc),.eq (.agg (R6 x av aq au ar)),.gen (HK n1 x) (HJ n1 x),.gen (OH n1 x) (KT n1 x)]:=⟨_,rfl⟩;refine LG (Aj) 5 3 [19,20,21,22,23] [[],[0],[],[2],[3]] bx ah rfl mixed qK qK qK ?_ ?_
      · intro wd X0;refine DagStepsT.cons (fun s' w' X U H=>?_) ?_
        · exact BZ (AQ (U 3 rfl) underlying25 rfl BF rfl) (Chg.refl _ _) rfl
        refine DagStepsT.cons (fun s' w' X U H=>?_) ?_
        · have bt:s' 19=(P6 bq 2):=H 0 rfl 19 (.eq (P6 bq 2)) rfl (by rw[ah];rfl);exact BZ (AJ bt A9 ((Chg.keep X (fun f=>f) (X0.keep Bq)).cell rfl)) (Chg.refl _ _) rfl
        refine DagStepsT.cons (fun s' w' X U H=>?_) ?_
        · exact BZ (AI (U 5 rfl) Ad AG rfl ((Chg.keep X (fun f=>f) (X0.keep Bs)).cells rfl)) (Chg.refl _ _) rfl
        refine DagStepsT.cons (fun s' w' X U H=>?_) ?_
        · have b1:s' 21=(.agg (R6 x av aq au ar)):=H 2 rfl 21 (.eq (.agg (R6 x av aq au ar))) rfl (by rw[ah];rfl);exact IE (AS func75 kQ kQ (Ha b1)) ((ih x _ _ (by have:=Re.size_arg hx;omega) (by have:=Re.size_arg hx;omega) (RB be hx) (A3.ext ((Ah.trans E X0).trans X) x a4)).mono (fun v w2 h=>⟨Qa (by have:=X0.size;have:=X.size;omega) h.1,h.2⟩))
        refine DagStepsT.cons (fun s' w' X U H=>?_) ?_
        · obtain ⟨b8,bk,b6,a8,bf,ba,bd⟩:=(show (.gen (HK n1 x) (HJ n1 x):FactT (Aj)).In (s' 22) w' from H 3 rfl 22 (.gen (HK n1 x) (HJ n1 x)) rfl (by rw[ah];rfl));exact (Ug a8 bf ba bd)
        exact DagStepsT.nil
      · intro s' wd5 w5 X0 X5 U H;have b9:s' 20=(.slice la k lc):=H 1 20 (.eq (.slice la k lc)) rfl (by rw[ah];rfl);obtain ⟨b8,bk,b6,a8,bf,ba,bd⟩:=(show (.gen (HK n1 x) (HJ n1 x):FactT (Aj)).In (s' 22) w5 from H 3 22 (.gen (HK n1 x) (HJ n1 x)) rfl (by rw[ah];rfl));obtain ⟨bj,a9,bm,cb,bw,bo,az,b7,bi⟩:=(show (.gen (OH n1 x) (KT n1 x):FactT (Aj)).In (s' 23) w5 from H 4 23 (.gen (OH n1 x) (KT n1 x)) rfl (by rw[ah];rfl));obtain ⟨j5,rfl⟩:=Ak.out (σ:=s') (l:=[(2,(P6 bp 0)),(3,(P6 bq 0)),(13,(.slice (oI b o) t.args.length ac)),(14,(I6 ((t.args.length:Nat):Int))),(15,(I6 ((k:Nat):Int))),(20,(.slice la k lc)),(23,(.slice (oI bj 0) 1 1))]) ⟨U 2 rfl,U 3 rfl,U 13 rfl,U 14 rfl,U 15 rfl,b9,bw,trivial⟩;clear U H;replace Br:=Chg.keep X5 (fun f=>f) (X0.keep Br);replace Bp:=Chg.keep X5 (fun f=>f) (X0.keep Bp);replace Bq:=Chg.keep X5 (fun f=>f) (X0.keep Bq);replace Bs:=Chg.keep X5 (fun f=>f) (X0.keep Bs);replace ab:=B_.chg ab X0 (fun _ _ f=>f);replace ab:=B_.chg ab X5 (fun _ _ f=>f);replace af:=Nat.le_trans af X0.size;replace af:=Nat.le_trans af X5.size;replace ae:=Nat.le_trans ae X0.size;replace ae:=Nat.le_trans ae X5.size;replace ad:=Az ad X0;replace ad:=Az ad X5;replace al:=B'.ext X0 _ al;replace al:=B'.ext X5 _ al;replace ag:=Nat.le_trans ag X0.size;replace ag:=Nat.le_trans ag X5.size;replace E:=(E.ext X0).step X5 (fun _ _ f=>f.elim);refine BQ (base:=base) (n:=k) (m:=1) (xs:=aj.flatten) (news:=a9) (size:=6) (bytes:=80) (v:=(.slice la k lc)) qD underlying23 AG E0 A1 rfl qD rfl ad rfl (by rw[az.len]) (bo.cells qP) (az.one) (by unfold maxLen;omega) qO (af) ?_;intro v9 bg a1 an bu;replace Br:=an.keep (fun h=>by have:=(ad.lt _ h).1;omega) Br;replace Bp:=an.keep (fun h=>by have:=(ad.lt _ h).1;omega) Bp;replace Bq:=an.keep (fun h=>by have:=(ad.lt _ h).1;omega) Bq;replace E:=E.step an (fun x hx h=>absurd (ad.lt x h).1 qO);obtain ⟨ax,a2,rfl⟩:=BB a1;have a0:Chg (fun y=>y=bq) bg bg:=Chg.refl _ _;replace ab:=B_.chg ab an (fun y hy hm=>by have:=(ad.lt y hm).1;have hy':=hy;omega);replace af:=Nat.le_trans af an.size;refine qF bq 0 2 rfl underlying25 rfl BF rfl (CB (b:=bq) (o:=2) (c':=#[(I6 t.kind),(.slice am t.set.length ak),(.slice ax (k+1) a2),(I6 t.mn),(I6 t.mx),(.bool t.neg)]) (v:=(.slice ax (k+1) a2)) rfl rfl rfl BF Bq qP rfl ?_);intro w6 S6;replace af:=Nat.le_trans af S6.chg.size;replace ab:=B_.chg ab S6.chg (fun x hx hm=>by have bb:=hx;have a5:x=bq:=hm;omega);replace a0:=S6.chg;replace Br:=S6.keep qO Br;replace Bp:=S6.keep qO Bp;replace E:=S6.step E (by first|exact Or.inl qO|assumption|exact Or.inr rfl|exact Or.inr (by assumption)|exact Or.inr qP|exact Or.inr qO|exact Or.inr (by dsimp only;omega));replace Bq:=S6.blk;refine AB (AV (AC (AN (qV (A0 rfl rfl (A8 qO)) (qM _ rfl (AB (AC ?_)))))));have ai:=UP (base:=base) (n1:=n1) (b3:=bq) al az a6 (fun y hy=>by have:=aw y hy;omega) (fun q hq=>⟨a7 q hq,by have:=ap q hq;omega⟩) b7 bi an bu a0 qO ay ag;exact ⟨t.args.length - (k+1),qO,k+1,ax,a2,aj++[a9],(fun y=>Z y∨bm y),(fun y=>L y∨cb y),Ak.out ⟨rfl,rfl,rfl,rfl,rfl,trivial⟩,E,Br,Bp,Bq,qO,(by have h:=CH a1 a0 (fun q hq hm=>by have:=(a1.lt q hq).1;have a5:q=bq:=hm;omega);simpa using h),(by rw[List.take_add_one,hx];exact ai.1),ai.2.1,ai.2.2.1,ai.2.2.2,af,ab,rfl⟩
    · have bz:k=t.args.length:=qO
      subst bz;rw[List.take_length] at al;have a3:=UQ (n0:=n3) ad al ab a6 aw a7 (fun x h=>h) qO af;refine Av (AZ (AZ (Ao (AC (AA (qV (AI (vs:=(oJ t am ak la lc)) rfl Ad AG rfl (Bq.cells rfl)) (Aa (b:=bp) (o:=0) (c':=(R6 t am ak la lc)) rfl rfl qS AG rfl Bp qL rfl ?_)))))));intro w7 S7;replace a3:=UR S7.chg qO a3;replace Br:=S7.keep qO Br;replace Bq:=S7.keep qO Bq;replace E:=S7.step E (by first|exact Or.inl qO|assumption|exact Or.inr rfl|exact Or.inr (by assumption)|exact Or.inr qP|exact Or.inr qO|exact Or.inr (by dsimp only;omega));replace Bp:=S7.blk;refine AB (AO (A2 results75 (vs:=(oJ t am ak la lc)) (b:=bp) rfl Ad AG rfl (Bp.cells rfl) ?_));exact ⟨Qa qO a3,E⟩
def Ap (S:oD) (w:World):List Re->List n_->Prop
  | [],rows=>rows=[]
  | t::ts,rows=>∃r rs,rows=r::rs∧AR S w t r∧Ap S w ts rs
theorem Ap.ext {S:oD} {w w':World} (e:Ah w w'):∀{ts:List Re} {rows:List n_},Ap S w ts rows->Ap S w' ts rows
 | [],_,h=>h
 | t::ts,rows,h=>by
  obtain ⟨r,c,a,d,b⟩:=h;exact ⟨r,c,a,AR.ext e t d,Ap.ext e b⟩
theorem Ap.len {S:oD} {w:World}:∀{ts:List Re} {rows:List n_},Ap S w ts rows->rows.length=ts.length
 | [],_,h=>by simp only[Ap] at h;subst h;rfl
 | t::ts,rows,h=>by
  obtain ⟨r,rs,rfl,_,a⟩:=h;simp[Ap.len a]
theorem Ap.six {S:oD} {w:World}:∀{ts:List Re} {rows:List n_},Ap S w ts rows->∀r∈rows,r.length=6
 | [],_,h=>by simp only[Ap] at h;subst h;simp
 | t::ts,rows,h=>by
  obtain ⟨r,rs,rfl,c,b⟩:=h;intro q a;rcases dZ.1 a with rfl|a
  .exact c.len
  .exact Ap.six b q a
theorem Ap.one {S:oD} {w:World}:∀{ts:List Re} {rows:List n_},Ap S w ts rows->∀u∈rows.flatten,u.oneCell'=true
 | [],_,h=>by simp only[Ap] at h;subst h;simp
 | t::ts,rows,h=>by
  obtain ⟨r,rs,rfl,c,b⟩:=h;intro u a;rw[fE,eC] at a;rcases a with a|a
  .exact A3.one (AR.at t c) u a
  .exact Ap.one b u a
theorem Ap.get {S:oD} {w:World}:∀{ts:List Re} {rows:List n_},Ap S w ts rows->∀{i:Nat} {t:Re},ts[i]?=some t->∃r,rows[i]?=some r∧AR S w t r
 | [],_,_,i,t,hi=>by simp at hi
 | t::ts,rows,h,i,u,hi=>by
  obtain ⟨r,rs,rfl,b,a⟩:=h;cases i with
  | zero=>simp at hi;subst hi;exact ⟨r,O,b⟩
  | succ i=>simp at hi;obtain ⟨q,c,d⟩:=Ap.get a hi;exact ⟨q,by simpa using c,d⟩
theorem Ap.append {S:oD} {w:World} {c:List Re} {a:List n_} (b:Ap S w c a):∀{ts:List Re} {rows:List n_},Ap S w ts rows->Ap S w (ts++c) (rows++a)
 | [],_,h=>by simp only[Ap] at h;subst h;simpa using b
 | t::ts,rows,h=>by
  obtain ⟨r,e,rfl,f,d⟩:=h;exact ⟨r,e++a,O,f,Ap.append b d⟩
theorem Ap.single {S:oD} {w:World} {t:Re} {r:n_} (h:AR S w t r):Ap S w [t] [r]:=⟨r,[],O,h,O⟩
theorem BM.rows {S:oD} {w:World} {b:Nat}:∀{ts:List Re} {o:Nat},BM S w b o ts->∃rows,Ap S w ts rows∧BG w b o rows.flatten
 | [],_,_=>⟨[],O,λi v a=>by simp at a⟩
 | t::ts,o,h=>by
  simp only[BM] at h;obtain ⟨⟨vs,d,c⟩,e⟩:=h;obtain ⟨rows,f,g⟩:=BM.rows e;refine ⟨vs::rows,⟨vs,rows,O,c,f⟩,λi v a=>?_⟩;have hl:=c.len;rw[fE] at a;rcases eI i 6 with hi|hi
  .rw[dQ qO] at a;exact d i v a
  .rw[dX qO] at a;have:=g (i - vs.length) v a
   rwa [show o+6+(i - vs.length)=o+i from qO] at this
def CE (S:oD) (w:World) (v:Value) (ts:List Re):Prop:=∃aa ac,v=.slice aa ts.length ac∧(ts.length<=ac∧ac<=9223372036854775807)∧(ts=[]∨∃b o,S b∧aa=oI b o∧BM S w b o ts)
theorem CE.cells {S:oD} {w:World} {aa:oE} {n ac:Nat} {ts:List Re} (h:CE S w (.slice aa n ac) ts) (hn:0<n):∃b o,aa=oI b o∧∀i t,ts[i]?=some t->∃vs,BG w b (o+i*6) vs∧AR S w t vs:=by
 obtain ⟨aa',ac',a,h2,c⟩:=h;simp only[Value.slice.injEq] at a;obtain ⟨rfl,rfl,rfl⟩:=a;rcases c with rfl|⟨b,o,_,f,d⟩
 .simp at hn
 .exact ⟨b,o,f,λi t e=>BM.get d e⟩
theorem Eo {S:oD} {w:World} {base n:Nat} {a:oE} {c:Nat} {ts:List Re} {rows:List n_} (h:w.ownsRow base FR 6 (.slice a n c) n rows.flatten) (j:Ap S w ts rows) (hn:ts.length=n):(n<=c∧c<=9223372036854775807)∧(ts=[]∨∃b,base<=b∧b<w.heap.size∧a=oI b 0∧∀i t,ts[i]?=some t->∃vs,BG w b (0+i*6) vs∧AR S w t vs):=by
 rcases h.2 with ⟨e,f⟩|⟨g,cap,d,e,f,k,s,m,h6,l⟩
 .simp only[Value.slice.injEq] at e;obtain ⟨rfl,rfl,rfl⟩:=e;exact ⟨qP,.inl (eD hn)⟩
 .simp only[Value.slice.injEq] at e;obtain ⟨rfl,_,rfl⟩:=e;simp only[maxLen] at m;refine ⟨⟨s,qO⟩,.inr ⟨g,f,(h.lt g O).2,O,λi t p=>?_⟩⟩;obtain ⟨r,o,q⟩:=j.get p;have hb:BV w g (rows.flatten++d.toList.drop (n*6)).toArray FR:=by
   have:(rows.flatten++d.toList.drop (n*6)).toArray=d:=by rw[<-l,fF]
   rw[this];exact k
  exact ⟨r,by rw[eO];exact HY hb j.six o,q⟩
theorem VV {S:oD} {w:World} {base n:Nat} {a:oE} {c:Nat} {ts:List Re} {rows:List n_} (h:w.ownsRow base FR 6 (.slice a n c) n rows.flatten) (g:Ap S w ts rows) (hn:ts.length=n):Hn w (.slice a n c) ts:=by
 obtain ⟨k,f⟩:=Eo h g hn;refine ⟨a,c,by rw[hn],by rw[hn];exact k,?_⟩;rcases f with h|⟨b,_,_,m,j⟩
 .exact .inl h
 .exact .inr ⟨b,0,m,CY.mk λi t l=>by obtain ⟨vs,e,d⟩:=j i t l;exact ⟨vs,e,AR.at t d⟩⟩
theorem EC:∀ts:List Re,ts.length<=Re.sizes ts
 | []=>qP
 | x::xs=>by have:=x.size_pos;have:=EC xs;simp only[d_,Re.sizes];omega
theorem UN (k:Int) (ts:List Re) (x:Re):BS k (ts++[x])=BS k ts++(if x.kind=k then x.args else [x]):=by simp[BS]
theorem UM {k:Int} {ts:List Re} {j:Nat} {x:Re} (a:ts[j]?=some x):BS k (ts.take (j+1))=BS k (ts.take j)++(if x.kind=k then x.args else [x]):=by
 rw[eK,a];exact UN k _ x
theorem LE (k:Int) (ts:List Re) (j:Nat):(BS k (ts.take j)).length<=Re.sizes ts:=by
 have h1:=EC (BS k (ts.take j));have h2:=HU k (ts.take j);have h3:Re.sizes ts=Re.sizes (ts.take j)+Re.sizes (ts.drop j):=by rw[<-Re.sizes_append,fF]
 omega
theorem WE (F:World) (S:oD) (k:Int) (v:Value) (ts:List Re) (h:CE S F v ts) (ad:∀x∈ts,x.kind=k->x.args≠[]) (hsz:Re.sizes ts<=1000000) :
 Bj prog 166 #[I6 k,v] F λr w=>∃B C rows,r=.slice B (BS k ts).length C∧w.ownsRow F.heap.size FR 6 r (BS k ts).length rows.flatten∧Ap S F (BS k ts) rows∧Ah F w:=by
 have h0:=h;obtain ⟨aa,ac,rfl,hac,_⟩:=h;have hls:=EC ts;obtain ⟨base,G⟩:∃base,base=F.heap.size:=⟨_,O⟩;refine qR func166 O ntmps166 O (λE=>(AA (qA _ O (AB (AA (qA _ O (AB (AH (AA (qM _ O (qV (AT dJ O) (qM _ O (AB (AW (Ax (λnn_ σ R=>∃(j:Nat) (B:oE) (C:Nat) (m:Nat) (rows:List n_),(∃jj_,σ=BW jj_ [(0,(I6 k)),(8,(.slice aa ts.length ac)),(9,(I6 (ts.length:Int))),(10,(I6 (j:Int))),(5,(.slice B m C))])∧Chg Aj F R∧(j<=ts.length)∧(R.ownsRow base FR 6 (.slice B m C) m rows.flatten)∧(m=(BS k (ts.take j)).length)∧(Ap S F (BS k (ts.take j)) rows)∧(base<=R.heap.size)∧nn_=ts.length - j) (n:=ts.length - 0) ?_ ?_)))))))))))))))
 .exact ⟨0,none,0,0,[],oH,E,dR _,World.ownsRow_nil _ _ _ _,O,O,qO,O⟩
 .clear E;rintro _ _ R ⟨j,B,C,m,rows,⟨j1,rfl⟩,E,hj,a,U,D,q,rfl⟩;refine AA (qV (A6 O O) (AB (AH (qC O (λZ=>?_) (λZ=>?_)))))
  .obtain ⟨x,J⟩:=AU (l:=ts) (i:=j) qO;obtain ⟨b,o,rfl,X⟩:=h0.cells qO;obtain ⟨xs,L,N⟩:=X j x J;have M:=N;obtain ⟨g,e,s,f,rfl,_,_,ae⟩:=N.form;have p:=UM (k:=k) J;have A:=LE k ts (j+1);rcases dT (decide ((x.kind:Int)=k)) with u|u
   .have d:=u;have d:=of_decide_eq_true d;rw[if_pos d] at p;obtain ⟨xb,xo,_,rfl,ab⟩:=ae.resolve_left (ad x (dK J) d);obtain ⟨qs,z,V⟩:=BM.rows ab;rw[p,dN] at A;refine AM (AC (AH (AW (AA (qV (AL (b:=b) (o:=o) (len:=ts.length) (cap:=ac) (i:=j) (o':=o+j*6) O O O dJ AG qO qO) (qV (AI O Ad AG O (L.ext E)) (As (v:=(.agg (R6 x g e (oI xb xo) f))) (c:=(R6 x g e (oI xb xo) f)) (n:=6) qD A1 O AG O O O qS ?_)))))));intro b3 w3 T;have a:=Az a T.ext;have q:=dL q T.ext.size;have E:=E.ext T.ext;have B3:=T.blk;refine AB (AA (qF b3 0 0 O dI O Al O (qV (AJ O Ag (B3.cell O)) (qM _ O (qV (Ai O O) (AB (Aq (Ar u) (AN (qM _ O (qF b3 0 2 O dI O BF O (qV (AJ O A9 (B3.cell O)) (BQ (base:=base) (n:=m) (m:=x.args.length) (xs:=rows.flatten) (news:=qs.flatten) (size:=6) (bytes:=80) (v:=(.slice B m C)) qD dJ AG E0 A1 O qD O a O (by rw[Ck z.six,z.len]) (V.ext E) (z.one) (by unfold maxLen;omega) qO (q) ?_))))))))))));intro v9 ag y t W;have E:=E.step t (λx J h=>absurd (a.lt x h).1 qO);obtain ⟨H,I,rfl⟩:=BB y;refine qA _ O (AB (AV (AC (AN (qV (A0 O O (A8 qO)) (qM _ O (AB (AC ?_))))))));exact ⟨ts.length - (j+1),qO,j+1,H,I,m+x.args.length,rows++qs,oH,E,qO,(by simpa using y),(by rw[p,dN,U]),(by rw[p];exact Ap.append z D),dL q t.size,O⟩
   .have d:=u;have d:=of_decide_eq_false d;rw[if_neg d] at p;rw[p,dN] at A;refine AM (AC (AH (AW (AA (qV (AL (b:=b) (o:=o) (len:=ts.length) (cap:=ac) (i:=j) (o':=o+j*6) O O O dJ AG qO qO) (qV (AI O Ad AG O (L.ext E)) (As (v:=(.agg (R6 x g e s f))) (c:=(R6 x g e s f)) (n:=6) qD A1 O AG O O O qS ?_)))))));intro b4 w4 P;have E:=E.ext P.ext;have Q:=P.blk;refine AB (AA (qF b4 0 0 O dI O Al O (qV (AJ O Ag (Q.cell O)) (qM _ O (qV (Ai O O) (AB (Ae (Ar u) (AN (qM _ O (qV (AI (vs:=(oJ x g e s f)) O Ad AG O (Q.cells O)) (Aw (ps:=[(0,(.agg (R6 x g e s f)))]) (c:=(R6 x g e s f)) qD O dJ AG A1 qD qD qK ?_)))))))))));intro b5 w5 K;have Q:=K.keep Q;have a:=Az (Az a P.ext) K.ext;have q:=dL (dL q P.ext.size) K.ext.size;have E:=E.ext K.ext;have B5:=K.blk;refine BQ (base:=base) (n:=m) (m:=1) (xs:=rows.flatten) (news:=(oJ x g e s f)) (size:=6) (bytes:=80) (v:=(.slice B m C)) qD dJ AG E0 A1 O qD O a O (O) (B5.cells O) qS (by simp at A;unfold maxLen;omega) (by simp at A;omega) (q) ?_;intro v9 ag y t W;have E:=E.step t (λx J h=>absurd (a.lt x h).1 qO);obtain ⟨H,I,rfl⟩:=BB y;refine qA _ O (AB (AV (AC (AN (qV (A0 O O (A8 qO)) (qM _ O (AB (AC ?_))))))));exact ⟨ts.length - (j+1),qO,j+1,H,I,m+1,rows++[(oJ x g e s f)],oH,E,qO,(by simpa using y),(by rw[p,dN,U];rfl),(by rw[p];exact Ap.append (Ap.single M) D),dL q t.size,O⟩
  .have af:j=ts.length:=qO
   refine Av (AZ (AZ (Ao (AC (AA (qM _ O (qA _ O (AB (AO (AY results166 (v:=(.slice B m C)) O ?_))))))))));rw[af,eE] at D U;subst U;subst G;exact ⟨B,C,rows,O,a,D,E⟩
theorem PG {m:Nat}:∀v∈(Builtin.zeroCells (Value.cells (.agg #[(I6 0),(.slice none 0 0),(.slice none 0 0),(I6 0),(I6 0),(.bool false)])) m).toList,v.oneCell'=true:=by
 intro v a;simp only[Builtin.zeroCells,Value.cells,mM,eU] at a;obtain ⟨i,_,rfl⟩:=a;have h:i % 6<6:=Nat.mod_lt _ qD;show (#[(I6 0),(.slice none 0 0),(.slice none 0 0),(I6 0),(I6 0),(.bool false)][i % 6]!).oneCell'=true;generalize i % 6=q at h
 match q,h with
 | 0,_=>rfl
 | 1,_=>rfl
 | 2,_=>rfl
 | 3,_=>rfl
 | 4,_=>rfl
 | 5,_=>rfl
theorem Wt {P:Program} {N:Nat} {Q:EF} {σ:CZ} {w:World} {K:CZ->World->Prop} {ops:Array Oper} {rest:List Oper} {o:Oper} (c:o.guard=none) (hd:o.dst=none) {v:Value} {w':World}
 (e:(execOp (ev σ) o).run P w=.ok (.value v) w') (k:Dp P N ops K Q rest σ w'):Dp P N ops K Q (o::rest) σ w:=by
 intro g a f b;refine wpList_plain c λK' d=>?_;unfold Oper.wp;rw[Dk,b,e];simp only[Oper.upon,hd];exact d _ _ (k g a f b)
theorem Sd {P:Program} {N:Nat} {Q:EF} {σ:CZ} {w:World} {K:CZ->World->Prop} {ops:Array Oper} {rest:List Oper} {ty:TypeId} {pos:String} {af:Array Edge} {t e:TypeId} {x:Operand} {b o m cc:Nat} {c c':oG} {z:Value} (n:P.underlying t=some (.slice e)) (h:FP P e z) (l:ev σ x=.slice (oI b o) m cc) (hm:0<m) (g:BV w b c e) (j:∀v∈(Builtin.zeroCells z.cells m).toList,v.oneCell'=true)
 (p:o+m*z.cells.size<=c.size) (i:(c.toList.take o++(Builtin.zeroCells z.cells m).toList++c.toList.drop (o+m*z.cells.size)).toArray=c')
 (k:∀w',Put w w' b c' e->Dp P N ops K Q rest σ w'):Dp P N ops K Q (⟨none,.call ⟨.builtin .clear,#[x],#[t]⟩,ty,pos,af,none⟩::rest) σ w:=by
 subst i;have d:(Builtin.zeroCells z.cells m).toList.length=m*z.cells.size:=by simp[Builtin.zeroCells]
 have a:=run_storeCells_at P b o e (Builtin.zeroCells z.cells m).toList 0 c w g (by rw[d];simpa using p) j;simp only[jO,d] at a;refine Wt (v:=.tuple #[]) (w':=w.setRow b _) O O ?_ (k _ (Put.of_setRow g _));obtain ⟨f,rfl⟩:∃f,m=f+1:=⟨m - 1,qO⟩;simp[execOp,resolve,invoke,builtin,Builtin.clear_,l,run_underlying n,h.run,a]
theorem V5 {α:Type} {p:α->Bool} {l:List α} (h:Hg p l = -1):l.filter (λx=>!p x)=l:=by
 have a:=Hf p l;rw[h] at a;have b:l.any p=false:=by rw[<-a];decide
 rw[jF];rw[kP] at b;intro x c;simp[b x c]
theorem V4 {α:Type} {p:α->Bool} {l:List α} (h:Hg p l≠-1):∃i:Nat,Hg p l=(i:Int)∧i<l.length∧(l.take (i+1)).filter (λx=>!p x)=l.take i:=by
 unfold Hg at h⊢;cases hf:l.findIdx? p with
 | none=>rw[hf] at h;exact absurd O h
 | some i=>
  rw[gH] at hf;obtain ⟨hi,e,a⟩:=hf;refine ⟨i,O,hi,?_⟩;have c:(l.take i).filter (λx=>!p x)=l.take i:=by
   rw[jF];intro x b;obtain ⟨j,d,rfl⟩:=lQ b;simp at d;have:=a j qO;simpa using this
  rw[eK,dM hi,jK,c];simp[e]
theorem QQ {α:Type} {p:α->Bool} {l:List α} {j:Nat} {x:α} (a:l[j]?=some x):(l.take (j+1)).filter (λx=>!p x)=(l.take j).filter (λx=>!p x)++(if p x then [] else [x]):=by
 rw[eK,a,jK];congr 1;cases hp:p x<;>simp[hp]
theorem MR {α:Type} {l m:List α} {j:Nat} (h:l.drop j=m.drop j) {i:Nat} (hi:j<=i):l[i]?=m[i]?:=by
 have:=congrArg (λq=>q[i - j]?) h;simp only[jJ] at this
 rwa [show j+(i - j)=i from qO] at this
theorem Ap.take {S:oD} {w:World}:∀{ts:List Re} {rows:List n_} (i:Nat),Ap S w ts rows->Ap S w (ts.take i) (rows.take i)
 | [],_,i,h=>by simp only[Ap] at h;subst h;cases i<;>rfl
 | t::ts,rows,0,h=>rfl
 | t::ts,rows,i+1,h=>by
  obtain ⟨r,b,rfl,c,a⟩:=h;exact ⟨r,b.take i,O,c,Ap.take i a⟩
theorem Y1 (wb w0:World) (base:Nat) (S:Nat→Prop) (v fv:Value) (ts:List Re) (rows:List n_) (p:Re→Bool) (hE:Ah wb w0) (hown:w0.ownsRow base FR 6 v ts.length rows.flatten) (hr:Ap S wb ts rows) (hS:∀x,S x→x<base) (hlen:ts.length≤1000000)
  (hf:∀(w:World) (x:Re) (vs:n_),x∈ts→A3 w x vs→CG prog fv #[.agg vs.toArray] w λr w'=>r=.bool (p x)∧Ah w w') :
  Bj prog 165 #[v,fv] w0 λr w=>∃la lc rows',r=.slice la (ts.filter λx=>!p x).length lc∧w.ownsRow base FR 6 r (ts.filter λx=>!p x).length rows'.flatten∧Ap S wb (ts.filter λx=>!p x) rows'∧Chg (λx=>base≤x) w0 w:=by
 have af:=hown;obtain ⟨a,c,rfl⟩:=BB hown;obtain ⟨q,hq⟩:∃q:Int,q=Hg p ts:=⟨_,rfl⟩;have bo:Hn w0 (.slice a ts.length c) ts:=VV af (hr.ext hE) rfl;refine Ew func165 rfl ntmps165 (RV rfl) ?_;have E:Chg (λx=>base≤x) w0 w0:=Chg.refl _ _;refine AA (qA _ rfl (AB (AA (qM _ rfl (qM _ rfl (qE rfl (AS func169 kQ kQ rfl) ((J3 _ _ fv ts p bo (λw x vs _ hm hx=>hf w x vs hm hx)).mono (R':=λr w=>r=I6 q∧Ah w0 w) (by rintro v w ⟨rfl,h⟩;exact ⟨by rw[hq],h⟩)) ?_))))));rintro _ w9 ⟨rfl,X9⟩;have E:=E.ext X9;refine qA _ rfl (AB (AH (AA (qM _ rfl (qV (Ai rfl rfl) (AB (qC rfl (λh1=>?_) (λh1=>?_))))))))
 ·have a9:(ts.filter λx=>!p x)=ts:=V5 (by rw[←hq];exact h1);refine AA (qM _ rfl (qA _ rfl (AB (AO (AK (AY results165 (v:=(.slice a ts.length c)) rfl ?_))))));rw[a9];exact ⟨a,c,rows,rfl,Az af X9,hr,E⟩
 ·obtain ⟨i0,bf,bg,am⟩:=V4 (p:=p) (l:=ts) (by rw[←hq];exact h1);obtain rfl:q=((i0:Nat):Int):=by rw[hq,bf]
  rcases af.2 with ⟨_,ba⟩|⟨g,cap,av,a3,be,bc,a4,al,an,ag⟩
  ·omega
  simp only[Value.slice.injEq] at a3;obtain ⟨rfl,_,rfl⟩:=a3;obtain ⟨rest,ai⟩:∃rest,rest=av.toList.drop (ts.length*6):=⟨_,rfl⟩;have ab:BV w9 g (rows.flatten++rest).toArray FR:=X9.keep (by rw[ai,←ag,fF];exact bc);have ax:(rows.flatten++rest).length=c*6:=by rw[ai,←ag,fF];simpa using an
  have a2:=hr.len;have a7:=hr.six;have a1:rest.length=c*6 - ts.length*6:=by rw[dN,Ck a7,a2] at ax;omega
  refine AM (AC (AH (AA (qM _ rfl (qV (A0 rfl rfl (A8 qO)) (qA _ rfl (AB (AW (Ax (λnn_ σ W2=>∃(j:Nat) (i:Nat) (ad:List n_),(∃jj_,σ=BW jj_ [(0,(.slice (oI g 0) ts.length c)),(1,fv),(6,(I6 (j:Int))),(5,(I6 (i:Int)))])∧Chg (λx=>base≤x) w0 W2∧BV W2 g ((ad.flatten++rest).toArray) FR∧(i<j∧j≤ts.length)∧(ad.length=ts.length)∧(∀r∈ad,r.length=6)∧(ad.drop j=rows.drop j)∧(Ap S wb ((ts.take j).filter λx=>!p x) (ad.take i))∧(i=((ts.take j).filter λx=>!p x).length)∧nn_=ts.length - j) (n:=ts.length - (i0+1)) ?_ ?_)))))))))
  ·exact ⟨i0+1,i0,rows,oH,E,ab,⟨qO,qO⟩,a2,a7,rfl,(by rw[am];exact hr.take i0),(by rw[am];simp;omega),rfl⟩
  ·clear E ab;rintro _ _ W2 ⟨j,i,ad,⟨j2,rfl⟩,E,ab,hij,ao,ah,a6,ap,aj,rfl⟩;refine AH (AA (qM _ rfl (qM _ rfl (qV (AT dJ rfl) (qV (A6 rfl rfl) (AB (qC rfl (λbi=>?_) (λbi=>?_))))))))
   ·obtain ⟨x,hx⟩:=AU (l:=ts) (i:=j) qO;obtain ⟨r,bj,a0⟩:=hr.get hx;have bh:ad[j]?=some r:=by rw[MR a6 (dU _)];exact bj
    have aq:=QQ (p:=p) hx;have ak:ad.drop (j+1)=rows.drop (j+1):=by rw[←lS,←lS,a6]
    have ae:A3 (W2) x r:=AR.at x (AR.chg E (λy hy hb=>by have:=hS y hy;have hb':base≤y:=hb;omega) x (AR.ext hE x a0));have bk:=a0.len;obtain ⟨sa,sc,aa,ac,rfl,_,_,_⟩:=ae.form;refine AM (AC (AH (AW (AA (qM _ rfl (qM _ rfl (qV (AL (b:=g) (o:=0) (len:=ts.length) (cap:=c) (i:=j) (o':=0+j*6) rfl rfl rfl dJ AG qO qO) (qV (AI rfl Ad AG rfl (by rw[eO];exact HY ab ah bh)) (As (v:=(.agg (R6 x sa sc aa ac))) (c:=(R6 x sa sc aa ac)) (n:=6) qD A1 rfl AG rfl rfl rfl qS ?_)))))))));intro bs ws Ns;have Fs:=Ns.ge E;have Os_g:=Ns.lt ab;have ab:=Ns.keep ab;have ae:=A3.ext Ns.ext x ae;have E:=E.ext Ns.ext;have Bs:=Ns.blk;refine AB (AA (qM _ rfl (qV (AI (vs:=(oJ x sa sc aa ac)) rfl Ad AG rfl (Bs.cells rfl)) (DK qD rfl rfl (hf _ x _ (dK hx) ae) ?_))));rintro _ w19 ⟨rfl,ar⟩;have ab:=ar.keep ab;have Bs:=ar.keep Bs;have ae:=A3.ext ar x ae;have E:=E.ext ar;refine qV (C1 rfl) (AB (A4 rfl (λhp=>?_) (λhp=>?_)))
    ·have bm:=hp;have hp:=by simpa using hp
     refine AA (qM _ rfl (qM _ rfl (qV (AI (vs:=(oJ x sa sc aa ac)) rfl Ad AG rfl (Bs.cells rfl)) (qV (AL (b:=g) (o:=0) (len:=ts.length) (cap:=c) (i:=i) (o':=0+i*6) rfl rfl rfl dJ AG qO qO) (Aa (b:=g) (o:=0+i*6) (n:=6) (c':=((ad.set i (oJ x sa sc aa ac)).flatten++rest).toArray) (vs:=(R6 x sa sc aa ac)) rfl rfl qS AG (rfl) ab (by have:=Ck ah;simp only[fQ,dN];omega) (by rw[eO];exact congrArg List.toArray (Lh (k:=6) (v:=(oJ x sa sc aa ac)) (rows:=ad) (i:=i) (rest:=rest) rfl ah qO)) ?_)))));intro w5 S5;have Bs:=S5.keep qO Bs;have E:=S5.step E (by first|exact dH qO|assumption|exact dG rfl|exact dG (by assumption)|exact dG qP|exact dG qO|exact dG (by dsimp only;omega));have ab:=S5.blk;refine AB (AN (qM _ rfl (qV (A0 rfl rfl (A8 qO)) (qA _ rfl (AB (AV (AC (AN (qM _ rfl (qV (A0 rfl rfl (A8 qO)) (qA _ rfl (AB (AC ?_)))))))))))));exact ⟨ts.length - (j+1),qO,j+1,i+1,ad.set i (oJ x sa sc aa ac),oH,E,ab,⟨qO,qO⟩,(by simpa using ao),(λr hr=>by rcases mG hr with h|h;exact ah r h;rw[h];rfl),(by rw[nN qO];exact ak),(by rw[aq,hp,eK,nO (dU _),mY qO];exact Ap.append (Ap.single a0) ap),(by rw[aq,hp,dN,←aj];rfl),rfl⟩
    ·have bm:=hp;have hp:=by simpa using hp
     refine AM (AV (AC (AN (qM _ rfl (qV (A0 (k:=.i64) (a:=(j:Int)) (b:=1) (c:=(j:Int)+1) rfl rfl (A8 qO)) (qA (I6 ((j:Int)+1)) rfl (AB (AC ?_))))))));exact ⟨ts.length - (j+1),qO,j+1,i,ad,oH,E,ab,⟨qO,qO⟩,ao,ah,ak,(by rw[aq,hp];simpa using ap),(by rw[aq,hp];simpa using aj),rfl⟩
   ·have bn:j=ts.length:=qO
    rw[bn,eE] at ap aj;refine Av (AZ (AZ (Ao (AC (AA (qM (.slice (oI g 0) ts.length c) rfl (qM (I6 (i:Int)) rfl ?_)))))));obtain ⟨sl,a5⟩:∃a':oE,(if c=i then (oI g 0) else Option.map (λq:Addr=>q.add (i*6)) (oI g 0))=a':=⟨_,rfl⟩;refine qV (E' (a:=(oI g 0)) (len:=ts.length) (cap:=c) (lo:=i) (l:=(i:Int)) (n':=(ts.length - i)) (c':=(c - i)) dJ AG rfl rfl qO qO a5 qO qO) ?_;have aw:sl=some ⟨g,i*6,none⟩:=by rw[←a5,if_neg qO];simp[Addr.add];omega
    subst aw;obtain ⟨cz,az⟩:∃cz,cz=((ad.flatten++rest).toArray.toList.take (i*6)++(Builtin.zeroCells (Value.cells (.agg #[(I6 0),(.slice none 0 0),(.slice none 0 0),(I6 0),(I6 0),(.bool false)])) (ts.length - i)).toList++(ad.flatten++rest).toArray.toList.drop (i*6+(ts.length - i)*6)).toArray:=⟨_,rfl⟩;refine Sd (b:=g) (o:=i*6) (m:=(ts.length - i)) (cc:=(c - i)) (c':=cz) dJ A1 rfl qO ab PG (by show i*6+(ts.length - i)*6≤_;simp only[fQ,dN,Ck ah,ao];omega) (az.symm) ?_;intro w6 S6;have E:=S6.step E (by first|exact dH qO|assumption|exact dG rfl|exact dG (by assumption)|exact dG qP|exact dG qO|exact dG (by dsimp only;omega));have ab:=S6.blk;refine AB (AA (qM _ rfl (qM _ rfl ?_)));obtain ⟨sm,a8⟩:∃a':oE,(if c=0 then (oI g 0) else Option.map (λq:Addr=>q.add (0*6)) (oI g 0))=a':=⟨_,rfl⟩;refine qV (J6 (hi:=i) dJ AG rfl rfl qO qO a8) (qA _ rfl (AB (AO (AY results165 (v:=(.slice sm i c)) rfl ?_))));have au:sm=oI g 0:=by rw[←a8];split<;>simp[Addr.add]
    subst au;have bd:(ad.take i).flatten.length=i*6:=by rw[Ck (λr hr=>ah r (gP hr))];simp;omega
    have bb:(ad.flatten++rest).take (i*6)=(ad.take i).flatten:=by
     have:ad.flatten=(ad.take i).flatten++(ad.drop i).flatten:=by rw[←fX,fF]
     rw[this,eW,gS qO,fK qO]
    have hz:(Builtin.zeroCells (Value.cells (.agg #[(I6 0),(.slice none 0 0),(.slice none 0 0),(I6 0),(I6 0),(.bool false)])) (ts.length - i)).toList.length=(ts.length - i)*6:=by simp[Builtin.zeroCells,Value.cells]
    have ay:(ad.flatten++rest).length=c*6:=by rw[dN,Ck ah,ao];omega
    refine ⟨oI g 0,c,ad.take i,by rw[←aj],⟨by rw[bd,←aj],.inr ⟨g,c,cz,by rw[←aj],be,ab,qO,al,?_,?_⟩⟩,ap,E⟩
    ·rw[az];simp only[fQ,dN,gE,iP,hz];simp only[dN] at ay;omega
    ·rw[az,←aj];show List.take (i*6) (List.take (i*6) (ad.flatten++rest)++_++_)=_;rw[bb,eW,gS qO,fK qO]
theorem CE.ext {S:oD} {w w':World} {v:Value} {ts:List Re} (h:CE S w v ts) (e:Ah w w'):CE S w' v ts:=by
 obtain ⟨aa,ac,g,c,a⟩:=h;refine ⟨aa,ac,g,c,?_⟩;rcases a with h|⟨b,o,hb,i,d⟩
 .exact .inl h
 .exact .inr ⟨b,o,hb,i,BM.chg e (λ_ _ f=>f) ts hb d⟩
theorem CF (S:oD) (w:World) (k:Int):AR S w (.mk k [] [] 0 0 false) [I6 k,.slice none 0 0,.slice none 0 0,I6 0,I6 0,.bool false]:=
 AR.of (B_.nil _ _ _ _ _) qP (.inl O)
theorem QF {α:Type} {l:List α} (h:l.length=1) {x:α} (a:l[0]?=some x):l=[x]:=by
 match l,h with
 | [y],_=>simp at a;rw[a]
theorem Ap.chg {S M:oD} {w w':World} (c:Chg M w w') (a:∀b,S b->¬M b):∀{ts:List Re} {rows:List n_},Ap S w ts rows->Ap S w' ts rows
 | [],_,h=>h
 | t::ts,rows,h=>by
  obtain ⟨r,f,d,g,e⟩:=h;exact ⟨r,f,d,AR.chg c a t g,Ap.chg c a e⟩
theorem Ap.mono {S S':oD} {w:World} (hs:∀b,S b->S' b):∀{ts:List Re} {rows:List n_},Ap S w ts rows->Ap S' w ts rows
 | [],_,h=>h
 | t::ts,rows,h=>by
  obtain ⟨r,d,a,e,c⟩:=h;exact ⟨r,d,a,AR.mono hs t e,Ap.mono hs c⟩
theorem B_.lt {S:oD} {w:World} {v:Value} {l:List (Int×Int)} (h:B_ S w 2 v (l.map Ba)):B_ (λb=>S b∧b<w.heap.size) w 2 v (l.map Ba):=by
 obtain ⟨a,cap,d,f,e,g⟩:=h;refine ⟨a,cap,d,f,e,?_⟩;rcases g with h|⟨b,o,hb,i,c⟩
 .exact .inl h
 .cases l with
  | nil=>exact .inl O
  | cons s r=>
   have:=c 0 (Ba s) O 0 _ O;exact .inr ⟨b,o,⟨hb,World.block_lt_of_cell? w _ this⟩,i,c⟩
mutual
theorem AR.lt {S:oD} {w:World}:∀(t:Re) {vs:n_},AR S w t vs->AR (λb=>S b∧b<w.heap.size) w t vs
 | .mk k set args mn mx ng,vs,h=>by
  simp only[AR] at h⊢;obtain ⟨sa,sc,aa,ac,g,hs,d,i⟩:=h;refine ⟨sa,sc,aa,ac,g,B_.lt hs,d,?_⟩;rcases i with h|⟨b,o,hb,f,a⟩
  .exact .inl h
  .match args,a with
   | [],_=>exact .inl O
   | t::ts,a=>
    have c:=a;simp only[BM] at c;obtain ⟨⟨us,j,e⟩,_⟩:=c;obtain ⟨_,_,_,_,rfl,_⟩:=e.form;have:=j 0 _ O;exact .inr ⟨b,o,⟨hb,World.block_lt_of_cell? w _ this⟩,f,BM.lt (t::ts) a⟩
theorem BM.lt {S:oD} {w:World} {b:Nat}:∀(ts:List Re) {o:Nat},BM S w b o ts->BM (λb=>S b∧b<w.heap.size) w b o ts
 | [],_,_=>by simp only[BM]
 | t::ts,o,h=>by
  simp only[BM] at h⊢;obtain ⟨⟨vs,a,d⟩,c⟩:=h;exact ⟨⟨vs,a,AR.lt t d⟩,BM.lt ts c⟩
end
theorem CE.lt {S:oD} {w:World} {v:Value} {ts:List Re} (h:CE S w v ts):CE (λb=>S b∧b<w.heap.size) w v ts:=by
 obtain ⟨aa,ac,g,f,d⟩:=h;refine ⟨aa,ac,g,f,?_⟩;rcases d with h|⟨b,o,hb,j,a⟩
 .exact .inl h
 .match ts,a with
  | [],_=>exact .inl O
  | t::ts,a=>
   have c:=a;simp only[BM] at c;obtain ⟨⟨us,e,i⟩,_⟩:=c;obtain ⟨_,_,_,_,rfl,_⟩:=i.form;have:=e 0 _ O;exact .inr ⟨b,o,⟨hb,World.block_lt_of_cell? w _ this⟩,j,BM.lt (t::ts) a⟩
theorem DJ {α:Type} {l:List α} {x d:α} (h:l[0]?=some x):l.headD d=x:=by
 cases l with
 | nil=>simp at h
 | cons y r=>simpa using h
end Go.Proofs
namespace Go.Proofs
open Go Go.Eng Go.Sort
set_option maxRecDepth 100000
structure SimN (k:Int) (s:List (Int×Int)) (a:List Re) (m x:Int) (g:Bool):Prop where
 ks:k=0∨k=1∨k=2∨k=3∨k=4∨k=5∨k=6∨k=7∨k=8
 ng:g=false
 st:k≠2->s=[]
 mm:k≠6->m=0∧x=0
 k2:k=2->s≠[]∧BJ s=0
 none:k=0∨k=1∨k=2->a=[]
 k3:k=3->2<=a.length∧∀y∈a,y.kind≠0∧y.kind≠1∧y.kind≠3
 k4:k=4->2<=a.length∧(∀y∈a,y.kind≠0∧y.kind≠4∧DV y=false)∧a.Pairwise λy z=>CS y z<0
 k7:k=7->2<=a.length∧(∀y∈a,y.kind≠0∧y.kind≠7∧DV y=false)∧a.Pairwise λy z=>CS y z<0
 k5:k=5->∃y,a=[y]∧y.kind≠0∧y.kind≠1∧y.kind≠5
 k6:k=6->∃y,a=[y]∧y.kind≠0∧y.kind≠1∧0<=m∧m<=x∧x<=8∧x≠0∧¬(m=1∧x=1)
 k8:k=8->∃y,a=[y]∧y.kind≠8
mutual
def Au:Re->Prop
  | .mk k s a m x g=>SimN k s a m x g∧Dt a
def Dt:List Re->Prop
  | []=>True
  | t::ts=>Au t∧Dt ts
end
theorem D3 {ts:List Re}:Dt ts↔∀t∈ts,Au t:=by
 induction ts with
 | nil=>simp[Dt]
 | cons t ts ih=>simp[Dt,ih]
theorem Au.n {t:Re} (h:Au t):SimN t.kind t.set t.args t.mn t.mx t.neg:=by cases t;exact h.1
theorem Au.a {t:Re} (h:Au t):∀x∈t.args,Au x:=by cases t;exact D3.1 h.2
theorem Au.mk' {k:Int} {s:List (Int×Int)} {a:List Re} {m x:Int} {g:Bool} (h:SimN k s a m x g) (b:∀y∈a,Au y):Au (.mk k s a m x g):=⟨h,D3.2 b⟩
mutual
theorem GG:∀{t:Re},Au t->Ep t=true
 | .mk k s a m x g,h=>by
  simp only[Ep,h.1.ng,Bool.not_false,kW];exact LY h.2
theorem LY:∀{ts:List Re},Dt ts->I2 ts=true
 | [],_=>rfl
 | t::ts,h=>by simp only[I2,GG h.1,LY h.2];rfl
end
theorem EP:Au BO:=by unfold BO;exact .mk' ⟨qP,O,qP,qP,qP,qP,qP,qP,qP,qP,qP,qP⟩ qP
theorem E7:Au BT:=by unfold BT;exact .mk' ⟨qP,O,qP,qP,qP,qP,qP,qP,qP,qP,qP,qP⟩ qP
theorem XY:Au Ei:=by
 unfold Ei;exact .mk' ⟨qP,O,qP,qP,qP,qP,qP,qP,qP,qP,qP,λ_=>⟨BO,O,qD⟩⟩ (by intro y a;simp at a;subst a;exact EP)
theorem D7 {k:Int} {l:List Re} {x:Re}:x∈BS k l↔∃y∈l,(y.kind=k∧x∈y.args)∨(y.kind≠k∧x=y):=by
 unfold BS;rw[lA];constructor
 .rintro ⟨y,b,h⟩;split at h
  .rename_i a;exact ⟨y,b,.inl ⟨a,h⟩⟩
  .rename_i a;simp at h;exact ⟨y,b,.inr ⟨a,h⟩⟩
 .rintro ⟨y,b,⟨a,h⟩|⟨a,h⟩⟩
  .exact ⟨y,b,by rw[if_pos a];exact h⟩
  .exact ⟨y,b,by rw[if_neg a];simp[h]⟩
theorem Oz {k:Int} {l:List Re} (h:∀x∈l,x.kind≠k):BS k l=l:=by
 unfold BS
 induction l with
 | nil=>rfl
 | cons x l ih=>rw[iX,if_neg (h x qP),ih λy a=>h y (by simp[a])];rfl
theorem Rv {p:Re->Bool} {l:List Re} (h:∀x∈l,p x=false):ET p l=l:=jF.2 λx a=>by rw[h x a];rfl
theorem Hk {p:Re->Bool} {l:List Re} {x:Re}:x∈ET p l↔x∈l∧p x=false:=by unfold ET;rw[List.mem_filter];simp
theorem Ob {k:Int} {z:Re} {l:List Re} (h:2<=l.length):CT k z l=.mk k [] l 0 0 false:=by
 match l,h with
 | x::y::l,_=>rfl
theorem Yi {l:List Re} (h:2<=l.length) (b:∀y∈l,y.kind≠0∧y.kind≠1∧y.kind≠3):De l=.mk 3 [] l 0 0 false:=by
 have e:ET Cl (BS 3 l)=l:=by rw[Oz λy a=>(b y a).2.2,Rv λy a=>by simp[Cl,(b y a).2.1]]
 unfold De;rw[e,if_neg,Ob h];rw[eX];rintro ⟨y,a,c⟩;simp[CC] at c;exact (b y a).1 c
theorem Ji {l:List Re} (h:∀x∈l,Au x):Au (De l):=by
 unfold De;split
 .exact EP
 .rename_i hn
  have b:∀y∈ET Cl (BS 3 l),Au y∧y.kind≠0∧y.kind≠1∧y.kind≠3:=λy e=>by
   have i:y.kind≠0:=λd=>hn (eX.2 ⟨y,e,by simp[CC,d]⟩);obtain ⟨j,k⟩:=Hk.1 e;have f:y.kind≠1:=by simpa[Cl] using k
   obtain ⟨z,c,⟨d,g⟩|⟨d,rfl⟩⟩:=D7.1 j
   .exact ⟨(h z c).a y g,i,f,(((h z c).n.k3 d).2 y g).2.2⟩
   .exact ⟨h y c,i,f,d⟩
  generalize ET Cl (BS 3 l)=q at b
  match q,b with
  | [],_=>exact E7
  | [x],b=>exact (b x qP).1
  | x::y::q,b=>exact .mk' ⟨qP,O,qP,qP,qP,qP,λ_=>⟨qP,λz c=>(b z c).2⟩,qP,qP,qP,qP,qP⟩ λz c=>(b z c).1
theorem IX:∀{l:List Re} {x:Re},x∈Ey l↔x∈l
 | [],x=>by simp[Ey]
 | [y],x=>by simp[Ey]
 | y::z::l,x=>by
  simp only[Ey];split
  .rename_i h
   rw[IX,(BY y z).1 h];simp
  .rw[dZ,IX];simp
theorem Hl:∀{l:List Re},(∀x∈l,Ep x=true)->l.Pairwise (λy z=>CS y z<=0)->(Ey l).Pairwise λy z=>CS y z<0
 | [],_,_=>by simp[Ey]
 | [y],_,_=>by simp[Ey]
 | y::z::l,hn,h=>by
  obtain ⟨i,b⟩:=fJ.1 h;simp only[Ey];split
  .exact Hl (λx a=>hn x (by simp[dZ.1 a])) b
  .rename_i c
   refine fJ.2 ⟨λx a=>?_,Hl (λx a=>hn x (by simp[dZ.1 a])) b⟩;have d:CS y z<0:=by
    have h3:=i z qP;have h4:CS y z≠0:=λe=>c ((BY y z).2 ((JR (hn y qP) (hn z qP)).1 e));omega
   rcases dZ.1 (IX.1 a) with rfl|a
   .exact d
   .have g:=(fJ.1 b).1 x a;have h6:=CP x y;have h7:=CP y x;by_cases f:CS y x<0
    .exact f
    .exfalso;have j:CS x y<=0:=qO
     have h10:=Va g j;have h11:=CP z y;omega
theorem WP:∀{l:List Re},l.Pairwise (λy z=>CS y z<0)->Ey l=l
 | [],_=>rfl
 | [y],_=>rfl
 | y::z::l,h=>by
  obtain ⟨d,c⟩:=fJ.1 h;simp only[Ey];rw[if_neg,WP c];intro e;have b:=(BY y z).1 e;have a:=d z qP;have f:=CP y y;rw[b] at a f;omega
theorem Hu (l:List Re):(EO l).Pairwise λy z=>CS y z<=0:=by
 have h:=jH (le:=X_) (λa b c d e=>by simp only[X_,decide_eq_true_eq] at *;exact Va d e) (λa b=>by simp only[X_,eZ,decide_eq_true_eq];exact ZZ a b) l;exact h.imp fun {a b} h=>by simpa[X_] using h
theorem G5 {l:List Re} {x:Re}:x∈EO l↔x∈l:=lX
theorem XS {l:List Re} (h:l.Pairwise λy z=>CS y z<0):EO l=l:=List.mergeSort_of_pairwise (le:=X_) (h.imp fun {a b} h=>by simp[X_];omega)
theorem TR {k:Int} {l:List Re} {a b:Re->Bool} {z:Re} (h:2<=l.length) (f:∀y∈l,y.kind≠k) (hs:∀y∈l,a y=false) (e:∀y∈l,b y=false) (c:l.Pairwise λy z=>CS y z<0):Gw k l a b z=.mk k [] l 0 0 false:=by
 unfold Gw;rw[kG.2 λy d=>by rw[hs y d];decide];show CT k z _=_;rw[Oz f,Rv e,XS c,WP c,Ob h]
theorem TQ {k:Int} {l:List Re} {b c:Re->Bool} {z:Re} (h:∀x∈l,Au x) (g:Au z)
 (r:∀q:List Re,2<=q.length->(∀y∈q,y.kind≠k∧b y=false∧c y=false)->(q.Pairwise λy z=>CS y z<0)->SimN k [] q 0 0 false)
 (hi:∀x,Au x->x.kind=k->∀y∈x.args,y.kind≠k∧b y=false):Au (Gw k l b c z):=by
 unfold Gw;cases hf:l.find? b with
 | some x=>exact h x (jA hf)
 | none=>
  have p:=kG.1 hf;have d:∀y∈Ey (EO (ET c (BS k l))),Au y∧y.kind≠k∧b y=false∧c y=false:=λy j=>by
   obtain ⟨o,n⟩:=Hk.1 (G5.1 (IX.1 j));obtain ⟨x,e,⟨f,i⟩|⟨f,rfl⟩⟩:=D7.1 o
   .exact ⟨(h x e).a y i,(hi x (h x e) f y i).1,(hi x (h x e) f y i).2,n⟩
   .exact ⟨h y e,f,by simpa using p y e,n⟩
  have m:=Hl (l:=EO (ET c (BS k l))) (λx e=>by
   obtain ⟨o,n⟩:=Hk.1 (G5.1 e);obtain ⟨y,j,⟨f,i⟩|⟨f,rfl⟩⟩:=D7.1 o
   .exact GG ((h y j).a x i)
   .exact GG (h x j)) (Hu _)
  show Au (CT k z _);generalize Ey (EO (ET c (BS k l)))=q at d m
  match q,d,m with
  | [],_,_=>exact g
  | [x],d,_=>exact (d x qP).1
  | x::y::q,d,m=>exact .mk' (r _ qP (λz g=>(d z g).2) m) λz g=>(d z g).1
theorem Zy {l:List Re} (h:∀x∈l,Au x):Au (Gw 4 l DV CC BO):=
 TQ h EP (λq e b f=>⟨qP,O,qP,qP,qP,qP,qP,λ_=>⟨e,λy a=>⟨by simpa[CC] using (b y a).2.2,(b y a).1,(b y a).2.1⟩,f⟩,qP,qP,qP,qP⟩)
  λx c d y a=>⟨((c.n.k4 d).2.1 y a).2.1,((c.n.k4 d).2.1 y a).2.2⟩
theorem Zx {l:List Re} (h:∀x∈l,Au x):Au (Gw 7 l CC DV Ei):=
 TQ h XY (λq e b f=>⟨qP,O,qP,qP,qP,qP,qP,qP,λ_=>⟨e,λy a=>⟨by simpa[CC] using (b y a).2.1,(b y a).1,(b y a).2.2⟩,f⟩,qP,qP,qP⟩)
  λx c d y a=>⟨((c.n.k7 d).2.1 y a).2.1,by simpa[CC] using ((c.n.k7 d).2.1 y a).1⟩
structure PreN (k:Int) (s:List (Int×Int)) (a:List Re) (m x:Int) (g:Bool):Prop where
 ks:k=0∨k=1∨k=2∨k=3∨k=4∨k=5∨k=6∨k=7∨k=8
 ng:g=false
 st:k≠2->s=[]
 mm:k≠6->m=0∧x=0
 k2:k=2->s≠[]∧BJ s=0
 none:k=0∨k=1∨k=2->a=[]
 one:k=5∨k=6∨k=8->a.length=1
 rep:k=6->0<=m∧m<=x∧x<=8
theorem IQ {k:Int} {s:List (Int×Int)} {a:List Re} {m x:Int} {g:Bool} (h:PreN k s a m x g) (b:∀y∈a,Au y):Au (C5 k s a m x g):=by
 unfold C5;dsimp only;have c:k=5∨k=6∨k=8->∃y,a=[y]:=λi=>by
  match a,h.one i with
  | [y],_=>exact ⟨y,O⟩
 split
 .exact Ji b
 split
 .exact Zy b
 split
 .exact Zx b
 split
 .rename_i l
  obtain ⟨y,rfl⟩:=c (.inl l);show Au (if y.kind=0∨y.kind=1 then BT else if y.kind=5 then y else Re.mk k s [y] m x g);split
  .exact E7
  split
  .exact b y qP
  .exact .mk' ⟨h.ks,h.ng,h.st,h.mm,h.k2,h.none,qO,qO,qO,λ_=>⟨y,O,qO,qO,qO⟩,qO,qO⟩ b
 split
 .rename_i f
  obtain ⟨y,rfl⟩:=c (.inr (.inl f));have hr:=h.rep f;show Au (if x=0∨y.kind=1∨(y.kind=0∧m=0) then BT else if y.kind=0∨(m=1∧x=1) then y else Re.mk k s [y] m x g);split
  .exact E7
  split
  .exact b y qP
  .exact .mk' ⟨h.ks,h.ng,h.st,h.mm,h.k2,h.none,qO,qO,qO,qO,λ_=>⟨y,O,qO,qO,qO,qO,qO,qO,qO⟩,qO⟩ b
 split
 .rename_i j
  obtain ⟨y,rfl⟩:=c (.inr (.inr j));show Au (if y.kind=8 then y.args.headD BO else Re.mk k s [y] m x g);split
  .rename_i d
   obtain ⟨z,e,_⟩:=(b y qP).n.k8 d;rw[e];exact (b y qP).a z (by rw[e];simp)
  .rename_i d
   exact .mk' ⟨h.ks,h.ng,h.st,h.mm,h.k2,h.none,qO,qO,qO,qO,qO,λ_=>⟨y,O,d⟩⟩ b
 .exact .mk' ⟨h.ks,h.ng,h.st,h.mm,h.k2,h.none,qO,qO,qO,qO,qO,qO⟩ b
theorem Xr {k:Int} {s:List (Int×Int)} {a:List Re} {m x:Int} {g:Bool} (h:SimN k s a m x g):C5 k s a m x g=.mk k s a m x g:=by
 unfold C5;dsimp only;have i:=h.st;have c:=h.mm;have j:=h.ng;split
 .rename_i b
  obtain ⟨f,d⟩:=h.k3 b;rw[Yi f d,i qO,(c qO).1,(c qO).2,j,b]
 split
 .rename_i b
  obtain ⟨f,d,l⟩:=h.k4 b;rw[TR f (λy e=>(d y e).2.1) (λy e=>(d y e).2.2) (λy e=>by simp[CC,(d y e).1]) l,i qO,(c qO).1,(c qO).2,j,b]
 split
 .rename_i b
  obtain ⟨f,d,l⟩:=h.k7 b;rw[TR f (λy e=>(d y e).2.1) (λy e=>by simp[CC,(d y e).1]) (λy e=>(d y e).2.2) l,i qO,(c qO).1,(c qO).2,j,b]
 split
 .rename_i b
  obtain ⟨y,rfl,f,d,l⟩:=h.k5 b;show (if y.kind=0∨y.kind=1 then BT else if y.kind=5 then y else Re.mk k s [y] m x g)=_;rw[if_neg qO,if_neg l]
 split
 .rename_i b
  obtain ⟨y,rfl,f,d,l,h4,h5,h6,h7⟩:=h.k6 b;show (if x=0∨y.kind=1∨(y.kind=0∧m=0) then BT else if y.kind=0∨(m=1∧x=1) then y else Re.mk k s [y] m x g)=_;rw[if_neg qO,if_neg qO]
 split
 .rename_i b
  obtain ⟨y,rfl,f⟩:=h.k8 b;show (if y.kind=8 then y.args.headD BO else Re.mk k s [y] m x g)=_;rw[if_neg f]
 .rfl
mutual
theorem Gg:∀{t:Re},Au t->CR t=t
 | .mk k s a m x g,h=>by simp only[CR];rw[Lb h.2,Xr h.1]
theorem Lb:∀{ts:List Re},Dt ts->DF ts=ts
 | [],_=>rfl
 | t::ts,h=>by simp only[DF];rw[Gg h.1,Lb h.2]
end
structure VSp where
 s:Sp
 ok:EA s
instance:Inhabited VSp:=⟨⟨(0,0),by unfold EA;simp⟩⟩
def MP (s:VSp):n_:=Ba s.s
theorem Tg {α:Type} [Inhabited α] (enc:α->List Value) (k:Nat) (w:World) (g c m:Nat) (d:Array α) (os:Array Obj):Chg (λx=>x=g) w (sortWorldK enc k w g c m d os):=by
 refine ⟨O,O,O,lB _ _,?_,λb hb a=>?_⟩
 .simp[sortWorldK,grow,putRowK,putRow,mapBlock,ahead]
 .simp only[sortWorldK,grow,putRowK,putRow,mapBlock,ahead];rw[iW (by simpa using hb),iV,if_neg (λh=>a h.symm)];rfl
theorem own_holds {w:World} {base g n c:Nat} {d:List VSp} (h:w.ownsRow base Mt 2 (.slice (oI g 0) n c) n ((d.map VSp.s).map Ba).flatten) (hn:d.length=n):HoldsK MP 2 w g 0 d.toArray:=by
 have k:BP w (.slice (oI g 0) n c) (d.map VSp.s):=Di h (by intro x f;simp only[eU] at f;obtain ⟨p,_,rfl⟩:=f;rfl) (by simpa using hn) qD;intro j m;rw[size_flatK] at m;simp only[fQ] at m;have a:j / 2<d.length:=qO
 obtain ⟨b,o,e,l⟩:=BR k qO;simp only[fI,Addr.mk.injEq,and_true] at e;obtain ⟨rfl,rfl⟩:=e;have f:(d.map VSp.s)[j / 2]?=some d[j / 2].s:=by rw[eN,dM a];rfl
 have q:=l (j / 2) _ f;rw[get_flatK _ _ _ _ (by simpa using m)];have v:d.toArray[j / 2]! = d[j / 2]:=by rw[getElem!_pos d.toArray (j / 2) (by simpa using a)];simp
 rw[v];constructor
 .rcases Nat.mod_two_eq_zero_or_one j with i|i
  .have:=q.at0;rw[i];rw[show 0+j / 2*2=0+j from qO] at this;simpa[MP,Ba] using this
  .have:=q.at1;rw[i];rw[show 0+j / 2*2+1=0+j from qO] at this;simpa[MP,Ba] using this
 .rcases h.2 with ⟨u,_⟩|⟨g',cap,cur,r,_,t,_⟩
  .simp at u
  .simp only[Value.slice.injEq,fI,Addr.mk.injEq,and_true] at r;obtain ⟨rfl,_⟩:=r;simp[World.frozen?,t]
theorem QE {w:World} {g n c:Nat} {d:Array VSp} (h:HoldsK MP 2 w g 0 d) (hn:d.size=n) (hc:n<=c) (hl:n<=8796093022208):BP w (.slice (oI g 0) n c) (d.toList.map VSp.s):=by
 refine ⟨_,c,by simp[hn],by simp;omega,by simp;omega,.inr ⟨g,0,O,λi r e j u a=>?_⟩⟩;simp only[eN,iQ] at e;obtain ⟨s,⟨x,b,rfl⟩,rfl⟩:=e;have hi:i<d.size:=by have:=AX b;simpa using this
 have f:j<2:=by have:=AX a;simpa[Ba] using this
 have k:=(HoldsK.cell h hi f).1;have l:d[i]! = x:=by
  rw[getElem!_pos d i hi];rw[gC,dV hi] at b;simpa using b
 rw[k,l]
 match j,f,a with
 | 0,_,a=>simpa[MP,Ba] using a
 | 1,_,a=>simpa[MP,Ba] using a
theorem Mz {P : Program} {f : FuncId} {a : Func} (b : P.funcs[f]? = some a) (hn : (a.name == "runtime.NumGoroutine") = false) (hb : a.body.isNone = false) : ∀ args w, (callFunc f args).run P w = .ok (.enter f args) w := λargs w => IJ (vs := args) (w := w) b hn hb
theorem Ub (a:World):Bj prog 107 #[.int .u64 0] a λv w=>v=I6 (Lib.bitLen 0:Nat)∧Ah a w:=
 (Any.bits_Len (SlLaysF0.n15.bits (P:=prog) (ρ:=Tryz.sortSp_ren) {Tryz.sortSp with}) 0 a qO qO).mono λ_ _ ⟨b,c⟩=>⟨_,b,O,by rw[c];exact Ah.refl _⟩
theorem Zh (b:World) (a:oE) (c:Nat) (fv:Value):Bj prog 157 #[.slice a 0 c,I6 0,I6 0,fv] b λv w=>v=.tuple #[]∧Ah b w:=by
 refine qR func157 O ntmps157 O (λE=>(AA (qM _ O (qV (A0 (c:=1) O O qD) (qA _ O (AB (AW (Ax (λnn_ σ d=>(∃jj_,σ=BW jj_ [(0,(.slice a 0 c)),(1,(I6 0)),(2,(I6 0)),(3,fv),(8,(I6 1))])∧Chg Aj b d∧nn_=(0:Nat)) (n:=(0:Nat)) ?_ ?_))))))))
 .exact ⟨oH,E,O⟩
 .clear E;rintro _ _ d ⟨⟨j1,rfl⟩,E,rfl⟩;refine AH (AA (qM _ O (qM _ O (qV (A6 O O) (AB (Ae O (Av (AZ (AZ (Ao (GU results157 ?_)))))))))));exact ⟨O,E⟩
theorem ZW (b:World) (a:oE) (c:Nat) (n:Int) (fv:Value):Bj prog 137 #[.slice a 0 c,I6 0,I6 0,I6 n,fv] b λv w=>v=.tuple #[]∧Ah b w:=by
 refine qR func137 O ntmps137 O (λE=>(AA (qA _ O (AB (AA (qA _ O (AB (AW (Ax (λnn_ σ d=>(∃jj_,σ=BW jj_ [(0,(.slice a 0 c)),(1,(I6 0)),(2,(I6 0)),(4,fv)])∧Chg Aj b d∧nn_=(0:Nat)) (n:=(0:Nat)) ?_ ?_)))))))))
 .exact ⟨oH,E,O⟩
 .clear E;rintro _ _ d ⟨⟨j1,rfl⟩,E,rfl⟩;refine AW (AA (qM _ O (qM _ O (qV (DZ (c:=0) O O qD) (qA _ O (AB (AH (AA (qM _ O (qV (ER O O) (AB (Aq O (AA (qM _ O (qM _ O (qM _ O (qM _ O ?_)))))))))))))))));refine qE O (AS func157 kQ kQ O) (Zh _ a c fv) ?_;rintro _ w9 ⟨rfl,e⟩;have E:=E.ext e;refine AB (AO (AK (Ac (AK (Ac (IW results137 ?_))))));exact ⟨O,E⟩
theorem XU (b:World) (a:oE) (c:Nat) (fv:Value):Bj prog 110 #[.slice a 0 c,fv] b λv w=>v=.tuple #[]∧Ah b w:=by
 refine qR func110 O ntmps110 O (λE=>(AA (qM _ O (qV (AT dS O) (qA _ O (AB (AN (qM _ O (qM _ O (qM _ O (qV (NS (c:=0) ⟨_,fY⟩ jZ O (aB qO)) (qE O (AS func107 kQ kQ O) (Ub _) ?_))))))))))));rintro _ w8 ⟨rfl,e⟩;refine qM _ O (qE O (AS func137 kQ kQ O) (ZW _ a c _ fv) ?_);rintro _ w9 ⟨rfl,d⟩;have E:=(E.ext e).ext d;refine AB (GU results110 ?_);exact ⟨O,E⟩
theorem XO (z : VSp → VSp → Int) (hO : SWO (ltOf z)) {f : FuncId} {C : Func} (X : (prog).funcs[f]? = some C) (hn : (C.name == "runtime.NumGoroutine") = false) (hb : C.body.isNone = false)
 (p:∀(W:World) (x y:VSp),Bj prog f #[.agg #[I6 x.s.1,I6 x.s.2],.agg #[I6 y.s.1,I6 y.s.2]] W λv w=>v=I6 (z x y)∧Ah W w)
 (a:World) (base:Nat) (v:Value) (l:oF) (h:Kz a base v l) (hl:l.length<=8796093022208) (E:∀s∈l,EA s) :
 Bj prog 110 #[v,.func (.func f) #[] #[]] a λr w=>r=.tuple #[]∧(∃L:List VSp,(L.map VSp.s).Perm l∧L.Pairwise (λs t=>¬z t s<0)∧BP w v (L.map VSp.s))∧Chg (λx=>v.ownBlock=some x) a w:=by
 have Z:=Mz X hn hb;obtain ⟨d,rfl⟩:∃d:List VSp,d.map VSp.s=l:=⟨l.pmap VSp.mk E,by rw[List.map_pmap];simp⟩;have V:∀w,(isAgg (Tryz.sortSp_ren.t 24)).run prog w=.ok true w:=λw=>Jo.run Dw w;have hs:∀w,(Go.sizeOf (Tryz.sortSp_ren.t 24)).run prog w=.ok 2 w:=λw=>BL.run w;rcases h.2.2 with ⟨rfl,T⟩|⟨g,cap,cur,rfl,hbg,R,I,hcm,hcs,htake⟩
 .have hd:d=[]:=eD (by simpa using T);subst hd;exact (XU a none 0 (.func (.func f) #[] #[])).mono λv w' ⟨U,D⟩=>⟨U,⟨[],List.Perm.refl _,List.Pairwise.nil,BX.nil _ _ _ _⟩,Ah.chg D⟩
 .simp only[dW] at *;have M:=own_holds (d:=d) (n:=d.length) (by have:=h.2;rwa [dW] at this) O;have c:g<a.heap.size:=(fT.1 R).1;have S:CmpLays prog f #[] MP 2 z g 0 d.toArray.size a:=λm os dk _ x y=>by
   refine Calls.mono (p _ x y) ?_;rintro e w' ⟨v,rfl,rfl,F⟩;obtain ⟨q,G,D⟩:=Ah.grown F;exact ⟨O,q,G,D⟩
  have A:=AnyQ.slices_SortFunc Tryz.sortSp 2 V hs MP (λ_=>rfl) (λx u N=>by simp[MP,Ba] at N;rcases N with rfl|rfl<;>rfl) z hO f #[] g 0 cap d.toArray a Z S M c (by simp;omega);refine Calls.mono A ?_;rintro e w' ⟨rfl,k,n,os,Q,J,rfl⟩;have b:k.size=d.length:=by have:=Q.1;simpa using this
  have o:k.toList.Perm d:=by
   have B:=Q.2.2;simp only[fQ] at B;rw[show d.length=k.size from b.symm,Array.extract_size] at B;rw[b] at B;simpa using B
  refine ⟨_,O,O,⟨k.toList,o.map _,?_,?_⟩,(Tg MP 2 a g 0 n k os).mono λx _ F=>by subst F;rfl⟩
  .rw[fB];intro i j hi K H;have P:=J i j (dR _) H (by simp at K⊢;omega);simp only[h_] at hi K;rw[getElem!_pos k i hi,getElem!_pos k j K] at P;simpa[ltOf] using P
  .exact QE (holdsK_sortWorldK_c MP 2 a g 0 d.toArray k n os M c (by simpa using b)) b I hl
def UY (x y:VSp):Int:=K_ [Bd x.s.1 y.s.1,Bd x.s.2 y.s.2]
theorem aY (A:World) (x y:VSp):Bj prog 111 #[.agg #[I6 x.s.1,I6 x.s.2],.agg #[I6 y.s.1,I6 y.s.2]] A λv w=>v=I6 (UY x y)∧Ah A w:=by
 refine qR func111 O ntmps111 O (λE=>(AA (BC (v:=(.agg #[(I6 x.s.1),(I6 x.s.2)])) (c:=#[(I6 x.s.1),(I6 x.s.2)]) qD O O ?_)));intro d w1 z;have E:=E.ext z.ext;have e:=z.blk;refine BC (v:=(.agg #[(I6 y.s.1),(I6 y.s.2)])) (c:=#[(I6 y.s.1),(I6 y.s.2)]) qD O O ?_;intro f w2 u;have e:=u.keep e;have E:=E.ext u.ext;have h:=u.blk;refine qA _ O (AB (AH ?_));obtain ⟨o,a⟩:∃C:List Fact,C=[.eq (P6 d 0),.eq (I6 x.s.1),.eq (P6 f 0),.eq (I6 y.s.1),.eq (I6 (Bd x.s.1 y.s.1)),.eq (P6 d 1),.eq (I6 x.s.2),.eq (P6 f 1),.eq (I6 y.s.2),.eq (I6 (Bd x.s.2 y.s.2)),.gen (KI (Bd x.s.1 y.s.1) (Bd x.s.2 y.s.2)) (He _ _),.eq (I6 (UY x y)),.eq (I6 (UY x y))]:=⟨_,O⟩;refine Ga [5,6,7,8,9,10,11,12,13,14,15,16,4] [[],[0],[],[2],[1,3],[],[5],[],[7],[4,6,8],[4,9],[9,10],[0,1,2,3,4,5,6,7,8,9,10,11]] o a mixed qK qK ?_ ?_
 .intro wd i;refine DagSteps.cons (λb w' X U H=>dH ⟨?_,?_⟩) ?_
  .exact AE O
  .exact AP (AQ (U 2 O) eM O Al O) (Ah.refl _) O
  refine DagSteps.cons (λb w' X U H=>dH ⟨?_,?_⟩) ?_
  .exact AE O
  .have F:b 5=(P6 d 0):=H 0 O 5 (.eq (P6 d 0)) O (by rw[a];rfl);exact AP (AJ F Ag (((i.trans X).keep e).cell O)) (Ah.refl _) O
  refine DagSteps.cons (λb w' X U H=>dH ⟨?_,?_⟩) ?_
  .exact AE O
  .exact AP (AQ (U 3 O) eM O Al O) (Ah.refl _) O
  refine DagSteps.cons (λb w' X U H=>dH ⟨?_,?_⟩) ?_
  .exact AE O
  .have G:b 7=(P6 f 0):=H 2 O 7 (.eq (P6 f 0)) O (by rw[a];rfl);exact AP (AJ G Ag (((i.trans X).keep h).cell O)) (Ah.refl _) O
  refine DagSteps.cons (λb w' X U H=>dH ⟨?_,?_⟩) ?_
  .exact AE O
  .have D:b 6=(I6 x.s.1):=H 1 O 6 (.eq (I6 x.s.1)) O (by rw[a];rfl);have I:b 8=(I6 y.s.1):=H 3 O 8 (.eq (I6 y.s.1)) O (by rw[a];rfl);exact A7 (AS lU kQ kQ (F_ D I)) (FE _ _ _)
  refine DagSteps.cons (λb w' X U H=>dH ⟨?_,?_⟩) ?_
  .exact AE O
  .exact AP (AQ (U 2 O) eM O Al O) (Ah.refl _) O
  refine DagSteps.cons (λb w' X U H=>dH ⟨?_,?_⟩) ?_
  .exact AE O
  .have r:b 10=(P6 d 1):=H 5 O 10 (.eq (P6 d 1)) O (by rw[a];rfl);exact AP (AJ r Ag (((i.trans X).keep e).cell O)) (Ah.refl _) O
  refine DagSteps.cons (λb w' X U H=>dH ⟨?_,?_⟩) ?_
  .exact AE O
  .exact AP (AQ (U 3 O) eM O Al O) (Ah.refl _) O
  refine DagSteps.cons (λb w' X U H=>dH ⟨?_,?_⟩) ?_
  .exact AE O
  .have q:b 12=(P6 f 1):=H 7 O 12 (.eq (P6 f 1)) O (by rw[a];rfl);exact AP (AJ q Ag (((i.trans X).keep h).cell O)) (Ah.refl _) O
  refine DagSteps.cons (λb w' X U H=>dH ⟨?_,?_⟩) ?_
  .exact AE O
  .have p:b 11=(I6 x.s.2):=H 6 O 11 (.eq (I6 x.s.2)) O (by rw[a];rfl);have j:b 13=(I6 y.s.2):=H 8 O 13 (.eq (I6 y.s.2)) O (by rw[a];rfl);exact A7 (AS lU kQ kQ (F_ p j)) (FE _ _ _)
  refine DagSteps.cons (λb w' X U H=>dH ⟨?_,?_⟩) ?_
  .exact AE O
  .have B:b 9=(I6 (Bd x.s.1 y.s.1)):=H 4 O 9 (.eq (I6 (Bd x.s.1 y.s.1))) O (by rw[a];rfl);have m:b 14=(I6 (Bd x.s.2 y.s.2)):=H 9 O 14 (.eq (I6 (Bd x.s.2 y.s.2))) O (by rw[a];rfl);exact Mk B m
  refine DagSteps.cons (λb w' X U H=>dH ⟨?_,?_⟩) ?_
  .exact AE O
  .obtain ⟨b15,g,k⟩:=H 10 O 15 (.gen (KI (Bd x.s.1 y.s.1) (Bd x.s.2 y.s.2)) (He _ _)) O (by rw[a];rfl);exact A7 (AS func138 kQ kQ (Ha g)) (Uz _ _ _ (g▸k))
  refine DagSteps.cons (λb w' X U H=>dH ⟨?_,?_⟩) ?_
  .exact AE O
  .have n:b 16=(I6 (UY x y)):=H 11 O 16 (.eq (I6 (UY x y))) O (by rw[a];rfl);exact AP (Dg n) (Ah.refl _) O
  exact DagSteps.nil
 .intro b w3 t U H;obtain ⟨j3,rfl⟩:=Ak.out (σ:=b) (l:=[(4,(I6 (UY x y)))]) ⟨(show b 4=(I6 (UY x y)) from H 12 4 (.eq (I6 (UY x y))) O (by rw[a];rfl)),trivial⟩;clear U H;have e:=t.keep e;have h:=t.keep h;have E:=E.ext t;refine AC (AO (AY results111 (v:=(I6 (UY x y))) O ?_));exact ⟨O,E⟩
theorem Wi (x y:VSp):UY x y<0↔x.s.1<y.s.1∨x.s.1=y.s.1∧x.s.2<y.s.2:=by
 unfold UY K_ K_ K_ Bd
 (repeat' split)<;>omega
theorem bP:SWO (ltOf UY):=by
 refine ⟨λx=>?_,λx y z=>?_,λx y z=>?_⟩<;>simp only[ltOf,decide_eq_true_eq,decide_eq_false_iff_not,Wi]<;>omega
theorem XT (a:World) (base:Nat) (v:Value) (l:oF) (h:Kz a base v l) (g:l.length<=8796093022208) (c:∀s∈l,EA s) :
 Bj prog 110 #[v,.func (.func 111) #[] #[]] a λr w=>r=.tuple #[]∧(∃d:oF,d.Perm l∧d.Pairwise (λs t=>s.1<=t.1)∧BP w v d)∧Chg (λx=>v.ownBlock=some x) a w:=
 (XO UY bP func111 kQ kQ aY a base v l h g c).mono λr w ⟨j,⟨l',f,e,k⟩,i⟩=>
  ⟨j,⟨_,f,List.pairwise_map.2 (e.imp fun {s t} b=>by rw[Wi] at b;omega),k⟩,i⟩
theorem IM {w w':World} {base e size n cap g i:Nat} {xs:n_} {b:oG} {v:Value} (h:w.ownsRow base e size (.slice (oI g 0) n cap) n xs) (o:BV w g b e) (hi:i<n*size) (c:BV w' g (b.setIfInBounds i v) e):w'.ownsRow base e size (.slice (oI g 0) n cap) n (xs.set i v):=by
 rcases h.2 with ⟨p,_⟩|⟨g',cap',cur',m,l,d,k,j,f,a⟩
 .simp at p
 .simp only[Value.slice.injEq,fI,Addr.mk.injEq,and_true] at m;obtain ⟨rfl,_,rfl⟩:=m;unfold BV at o c;rw[o] at d;simp only[fI,Obj.cells.injEq,and_true] at d;obtain ⟨rfl,_⟩:=d;refine ⟨by simpa using h.1,.inr ⟨g,cap,_,O,l,c,k,j,by simpa using f,?_⟩⟩;rw[<-a,fC,List.take_set]
theorem JP {w:World} {base e size n cap g:Nat} {xs:n_} (h:w.ownsRow base e size (.slice (oI g 0) n cap) n xs):∃a,BV w g a e∧n*size<=a.size:=by
 rcases h.2 with ⟨j,_⟩|⟨g',cap',b,f,hbg,i,d,hcm,c,htake⟩
 .simp at j
 .simp only[Value.slice.injEq,fI,Addr.mk.injEq,and_true] at f;obtain ⟨rfl,_,rfl⟩:=f;exact ⟨b,i,by rw[c];exact iC _ d⟩
theorem Jw (o:oF) (c:Sp):((o++[c]).map Ba).flatten[o.length*2+1]?=some (I6 c.2):=by
 rw[GN,dX (by rw[GF];omega),GF];rw[show o.length*2+1 - o.length*2=1 from qO];rfl
theorem PT (o:oF) (c:Sp) (x:Int):((o++[c]).map Ba).flatten.set (o.length*2+1) (I6 x)=((o++[(c.1,x)]).map Ba).flatten:=by
 rw[GN,GN,List.set_append,if_neg (by rw[GF];omega),GF,show o.length*2+1 - o.length*2=1 from qO];rfl
theorem Vx (P:World) (v:Value) (l:oF) (h:BP P v l) (hl:l.length<=8796093022208) (Z:∀s∈l,EA s) :
 Bj prog 68 #[v] P λr w=>(∃out,Gz l out∧Kz w P.heap.size r out)∧Ah P w:=by
 refine qR func68 O ntmps68 O (λE=>(AA (qA _ O (AB (AA (qM v O (qE O (AS func74 kQ kQ O) (Qd _ v l h qO) ?_)))))));rintro _ w9 ⟨⟨⟨a9,c9,rfl⟩,O9⟩,X9⟩;have E:=E.ext X9;refine qA _ O (AB (AA (qM _ O (qE O (AS func110 kQ kQ O) (XT _ P.heap.size (.slice a9 l.length c9) l ⟨⟨_,_,O⟩,O9⟩ qO Z) ?_))));rintro _ G ⟨rfl,⟨I,A,N,ak⟩,af⟩;have E:=E.step af (λx hx hm=>absurd (O9.lt x hm).1 qO);have hlen:I.length=l.length:=A.length_eq;have aa:∀s∈I,EA s:=λs hs=>Z s (A.mem_iff.1 hs);have hsz0:P.heap.size<=G.heap.size:=E.size;obtain ⟨base,hbase⟩:∃base,base=G.heap.size:=⟨_,O⟩;have f:Chg Aj G G:=Chg.refl _ _;refine AB (AA (qA _ O (AB (AH (AA (qM _ O (qV (AT dS O) (qM _ O (AB (AW (Ax (λnn_ σ X=>∃(k:Nat) (T:oE) (F:Nat) (m:Nat) (J:oF),(∃jj_,σ=BW jj_ [(11,(.slice a9 l.length c9)),(12,(I6 (l.length:Int))),(13,(I6 (k:Int))),(3,(.slice T m F))])∧Chg Aj P X∧Chg Aj G X∧(k<=l.length)∧(m=J.length)∧(m<=k)∧(∀s∈J,0<=s.2∧s.2<=1114111)∧((I.drop k).foldl L8 J=Nj I)∧(X.ownsRow base Mt 2 (.slice T m F) m (J.map Ba).flatten)∧(base<=X.heap.size)∧nn_=l.length - k) (n:=l.length - 0) ?_ ?_)))))))))))
 .exact ⟨0,none,0,0,[],oH,E,f,dR _,O,dU _,(λs hs=>absurd hs eY),O,World.ownsRow_nil _ _ _ _,qO,O⟩
 .clear E f;rintro _ _ X ⟨k,T,F,m,J,⟨j1,rfl⟩,E,f,hk,hm,hlo,L,B,a,e,rfl⟩;refine AA (qV (A6 O O) (AB (AH (qC O (λad=>?_) (λad=>?_)))))
  .obtain ⟨s,hs⟩:=AU (l:=I) (i:=k) qO;have hv:=aa s (dK hs);unfold EA at hv;obtain ⟨b,o,al,ah⟩:=BR ak qO;subst al;rw[Bi hs,f_] at B;have y:=a;refine AM (AC (AH (AW (AA (qV (AL (b:=b) (o:=o) (len:=l.length) (cap:=c9) (i:=k) (o':=o+k*2) O O O dS BL qO qO) (qV (AI O Dw BL O ((ah k s hs).ext f)) (As (v:=(.agg #[(I6 s.1),(I6 s.2)])) (c:=#[(I6 s.1),(I6 s.2)]) (n:=2) qD Df O BL O O O qS ?_)))))));intro bq wq H;have a:=Az a H.ext;have e:=dL e H.ext.size;have E:=E.ext H.ext;have j:=H.blk;have f:=f.ext H.ext;refine AB ?_;rcases dT (decide ((0:Int)<((m:Nat):Int))) with d|d
   .have q:=d;have q:=of_decide_eq_true q;obtain ⟨C,cc,ao⟩:∃C cc,J=C++[cc]:=by rcases HT J with rfl|R;simp at hm;omega;exact R
    subst ao;have hvc:=L cc qP;have ac:m=C.length+1:=by simpa using hm
    obtain ⟨g,rfl,hgb,hgc⟩:=Co a qO;have hgn:g≠bq:=λR=>by have:=(y.lt g O).2;have:=H.eq;omega
    refine AA (qM _ O (qV (AT dS O) (qA _ O (AB (Eg 13 mixed qK ?_)))));intro w3 X3 _;have j:=X3.keep j;have a:=Az a X3;have e:=dL e X3.size;have E:=E.ext X3;have f:=f.ext X3;refine qT (Am O) (qT (CN O O) (qT (Am O) (Ce (oj:=_) O O qD (Ar d) (qT (AQ O eM O Al O) (Ce (oj:=_) O O qD (Ar d) (qT (AJ O Ag (j.cell O)) (Ce (oj:=_) O O qD (Ar d) (qT (Am O) (Ce (oj:=_) O O qD (Ar d) (qT (Am O) (Ce (oj:=_) O O qD (Ar d) (qT (DZ O O (A8 qO)) (Ce (oj:=_) O O qD (Ar d) (qT (AL (b:=g) (o:=0) (len:=m) (cap:=F) (i:=m - 1) (o':=0+(m - 1)*2) O O qO dS BL qO qO) ?_))))))))))))));refine Ce (oj:=_) O O qD (Ar d) (qT (AQ O eM O Al O) (Ce (oj:=_) O O qD (Ar d) (qT (AJ (v:=(I6 cc.2)) O Ag ((by have R:=(a.cells (g:=g) O) (C.length*2+1) _ (Jw C cc);rwa [Addr.add_lit,show 0+(C.length*2+1)=0+(m - 1)*2+1 from qO] at R))) (Ce (oj:=_) O O qD (Ar d) (qT (A0 O O (A8 qO)) (Ce (oj:=_) O O qD (Ar d) (qT (ER O O) (Gc (qV (Af (v:=(.bool (decide ((s.1:Int)<=cc.2+1)))) O (by rw[d];rfl)) (AB (qC O (λhj=>?_) (λhj=>?_))))))))))))
    .obtain ⟨aj,V,hcs⟩:=JP a;refine TY 14 mixed qK ?_;intro w5 U _;have j:=U.keep j;have V:=U.keep V;have a:=Az a U;have e:=dL e U.size;have E:=E.ext U;have f:=f.ext U;refine qT (Am O) (qT (Am O) (qT (DZ O O (A8 qO)) (qT (Am O) (qT (Am O) (qT (DZ O O (A8 qO)) (qT (AL (b:=g) (o:=0) (len:=m) (cap:=F) (i:=m - 1) (o':=0+(m - 1)*2) O O qO dS BL qO qO) (qT (AQ O eM O Al O) (qT (AJ (v:=(I6 cc.2)) O Ag ((by have R:=(a.cells (g:=g) O) (C.length*2+1) _ (Jw C cc);rwa [Addr.add_lit,show 0+(C.length*2+1)=0+(m - 1)*2+1 from qO] at R))) (qT (AQ O eM O Al O) (qT (AJ O Ag (j.cell O)) (qT (RH O O O) (qT (AL (b:=g) (o:=0) (len:=m) (cap:=F) (i:=m - 1) (o':=0+(m - 1)*2) O O qO dS BL qO qO) (qT (AQ O eM O Al O) (Gc ?_))))))))))))));have ai:=V;refine CB (b:=g) (o:=0+(m - 1)*2+1) (c':=aj.setIfInBounds (0+(m - 1)*2+1) (I6 (max cc.2 s.2))) (v:=(I6 (max cc.2 s.2))) O O O Al V qO (O) ?_;intro w6 S6;have j:=S6.keep qO j;have E:=S6.step E (by first|exact dH qO|assumption|exact dG rfl|exact dG (by assumption)|exact dG qP|exact dG qO|exact dG (by dsimp only;omega));have f:=S6.step f (dH qO);have V:=S6.blk;have z:=IM a ai (i:=0+(m - 1)*2+1) qO V;refine AB (AV (AC (AN (qV (A0 O O (A8 qO)) (qM _ O (AB (AC ?_)))))));exact ⟨l.length - (k+1),qO,k+1,oI g 0,F,m,C++[(cc.1,max cc.2 s.2)],oH,E,f,qO,(by simp[ac]),qO,(λu t=>by rcases eC.1 t with t|t;exact L u (by simp[t]);rw[dO] at t;subst t;simp only;omega),(by rw[<-B,I',if_pos hj]),(by rw[show 0+(m - 1)*2+1=C.length*2+1 from qO,PT] at z;exact z),(by have:=z.lt g O;omega),O⟩
    .refine AN (qM _ O (qV (AI (vs:=[(I6 s.1),(I6 s.2)]) O Dw BL O (j.cells O)) (Aw (ps:=[(0,(.agg #[(I6 s.1),(I6 s.2)]))]) (c:=#[(I6 s.1),(I6 s.2)]) qD O dS BL Df qD qD qK ?_)));intro br wr Q;have j:=Q.keep j;have a:=Az a Q.ext;have e:=dL e Q.ext.size;have E:=E.ext Q.ext;have Br:=Q.blk;have f:=f.ext Q.ext;refine BQ (base:=base) (n:=m) (m:=1) (xs:=((C++[cc]).map Ba).flatten) (news:=[(I6 s.1),(I6 s.2)]) (size:=2) (bytes:=16) (v:=(.slice (oI g 0) m F)) qD dS BL Ma Df O qD O a O (O) (Br.cells O) qS (by unfold maxLen;omega) qO (e) ?_;intro v9 an D p ag;have j:=p.keep (λh=>by have:=(y.lt _ h).2;have:=H.eq;omega) j;have E:=E.step p (λx hx h=>absurd (a.lt x h).1 qO);have f:=f.step p (λx hx h=>absurd (a.lt x h).1 qO);obtain ⟨M,K,rfl⟩:=BB D;refine qA _ O (AB (AV (AC (AN (qV (A0 O O (A8 qO)) (qM _ O (AB (AC ?_))))))));exact ⟨l.length - (k+1),qO,k+1,M,K,m+1,C++[cc]++[s],oH,E,f,qO,(by simp[ac]),qO,(λu t=>by rcases eC.1 t with t|t;exact L u t;rw[dO] at t;subst t;omega),(by rw[<-B,I',if_neg hj]),(by rw[GN];exact D),dL e p.size,O⟩
   .have q:=d;have q:=of_decide_eq_false q;have ae:m=0:=qO
    have ab:J=[]:=eD qO;subst ab;refine AA (qM _ O (qV (AT dS O) (qA _ O (AB (Eg 13 mixed qK ?_)))));intro w7 W _;have j:=W.keep j;have E:=E.ext W;have f:=f.ext W;refine qT (Am O) (qT (CN O O) (qT (Am O) (Cp (oj:=_) O O qD (v:=.bool false) (Ar d) (dH O) (Cp (oj:=_) O O qD (v:=.bool false) (Ar d) (dH O) (Cp (oj:=_) O O qD (v:=.bool false) (Ar d) (dH O) (Cp (oj:=_) O O qD (v:=.bool false) (Ar d) (dH O) (Cp (oj:=_) O O qD (v:=.bool false) (Ar d) (dH O) (Cp (oj:=_) O O qD (v:=.bool false) (Ar d) (dH O) (Cp (oj:=_) O O qD (v:=.bool false) (Ar d) (dH O) (Cp (oj:=_) O O qD (v:=.bool false) (Ar d) (dH O) (Cp (oj:=_) O O qD (v:=.bool false) (Ar d) (dH O) (Cp (oj:=_) O O qD (v:=.bool false) (Ar d) (dH O) (Gc (qV (Af (v:=(.bool false)) O (by rw[d];rfl)) ?_))))))))))))));refine AB (Ae O (AN (qM _ O (qV (AI (vs:=[(I6 s.1),(I6 s.2)]) O Dw BL O (j.cells O)) (Aw (ps:=[(0,(.agg #[(I6 s.1),(I6 s.2)]))]) (c:=#[(I6 s.1),(I6 s.2)]) qD O dS BL Df qD qD qK ?_)))));intro b8 w8 S;have j:=S.keep j;have a:=Az (Az a W) S.ext;have e:=dL (dL e W.size) S.ext.size;have E:=E.ext S.ext;have B8:=S.blk;have f:=f.ext S.ext;refine BQ (base:=base) (n:=m) (m:=1) (xs:=[]) (news:=[(I6 s.1),(I6 s.2)]) (size:=2) (bytes:=16) (v:=(.slice T m F)) qD dS BL Ma Df O qD O a O (O) (B8.cells O) qS (by unfold maxLen;omega) qO (e) ?_;intro v9 an D p ag;have j:=p.keep (λh=>by have:=(y.lt _ h).2;have:=H.eq;omega) j;have E:=E.step p (λx hx h=>absurd (a.lt x h).1 qO);have f:=f.step p (λx hx h=>absurd (a.lt x h).1 qO);obtain ⟨M,K,rfl⟩:=BB D;refine qA _ O (AB (AV (AC (AN (qV (A0 O O (A8 qO)) (qM _ O (AB (AC ?_))))))));exact ⟨l.length - (k+1),qO,k+1,M,K,m+1,[s],oH,E,f,qO,(by simp[ae]),qO,(λu t=>by rw[dO] at t;subst t;omega),(by rw[<-B,Ng]),(by simpa[Ba] using D),dL e p.size,O⟩
  .have am:I.drop k=[]:=fR qO;rw[am,List.foldl_nil] at B;refine Av (AZ (AZ (Ao (AC (AA (qM _ O (qA _ O (AB (AO (AY results68 (v:=(.slice T m F)) O ?_))))))))));subst B;subst hm;exact ⟨⟨Nj I,⟨I,A,N,O⟩,⟨T,F,O⟩,K8 a qO⟩,E⟩
theorem OS:∀(l:oF) (p:Option Int),Canon l->(∀h,p=some h->∀s∈l,h+2<=s.1)->DW p l=0
 | [],_,_,_=>rfl
 | s::r,p,hc,hp=>by
  have a:=hc.head;unfold EA at a;rw[Ci,if_neg (by unfold Dz;simp;omega)];rw[if_neg,OS r (some s.2) hc.tail (λh c t b=>by cases c;exact hc.far t b)];cases p with
  | none=>simp
  | some h=>have:=hp h O s eJ;simp;omega
theorem Jh:∀(l:oF) (p:Option Int),DW p l=0->Canon l∧(∀h,p=some h->∀s∈l,h+2<=s.1)
 | [],_,_=>⟨Canon.nil,λ_ _ _ h=>absurd h eY⟩
 | s::r,p,h0=>by
  rw[Ci] at h0;by_cases c:Dz s=false
  .rw[if_pos c] at h0;cases h0
  rw[if_neg c] at h0;have f:DW (some s.2) r=0∧∀h,p=some h->h+2<=s.1:=by
   cases p with
   | none=>exact ⟨by simpa using h0,λ_ b=>by cases b⟩
   | some q=>
    by_cases g:s.1<q+2
    .simp[g] at h0
    .simp[g] at h0;exact ⟨h0,λh b=>by cases b;omega⟩
  obtain ⟨i,j⟩:=Jh r (some s.2) f.1;have a:EA s:=by unfold EA;unfold Dz at c;simp at c;omega
  have e:=j s.2 O;refine ⟨Canon.cons a e i,λh b t d=>?_⟩;have h4:=f.2 h b;rcases dZ.1 d with rfl|d
  .omega
  .have:=e t d;unfold EA at a;omega
theorem UX {l:oF} (h:Canon l) (hl:l.length<=16):BJ l=0:=by
 unfold BJ;rw[if_neg qO];exact OS l none h λ_ a=>by cases a
theorem Dd {l:oF} (h:BJ l=0):Canon l∧l.length<=16:=by
 unfold BJ at h;split at h
 .cases h
 .exact ⟨(Jh l none h).1,qO⟩
def Dy (out:oF) (f:Int->Bool):Prop:=Canon out∧∀r,0<=r->r<=1114111->Ca out r=f r
theorem Dy.eq {a b:oF} {f g:Int->Bool} (e:Dy a f) (hb:Dy b g) (h:∀r,0<=r->r<=1114111->f r=g r):a=b:=
 Ua e.1 hb.1 λr d c=>by rw[e.2 r d c,hb.2 r d c,h r d c]
theorem Dy.join {l out:oF} (h:Gz l out) (a:∀s∈l,EA s):Dy out (Ca l)∧out.length<=l.length:=
 let ⟨h1,h2,h3⟩:=h.all a
 ⟨⟨h1,λr _ _=>h2 r⟩,h3⟩
end Go.Proofs
namespace Go.Eng
open Go
def Ff (l:List Oper) (t u:Nat):Bool:=match l[t]? with
  | some o=>o.after.any λe=>Region.binds .any e && Nat.beq e.on u
  | none=>false
def KM (hd:List Bool) (o:Oper):Bool:=match o.guard with|some p=>hd.getD p.1 false|none=>true
def Fl (N:Nat) (hd:List Bool):Nat->List Oper->List Nat->List oC->List Bool->Bool
  | _,[],[],[],[]=>true
  | i,o::l,d::ds,ws::wss,h::hs=>(bif h then Ev N i o d ws && ((o.after.all λe=>!Region.binds .any e || hd.getD e.on false) && KM hd o) else Nat.ble N d) && Fl N hd (i+1) l ds wss hs
  | _,_,_,_,_=>false
def ZE (l:List Oper) (hd:List Bool) (ts:oC):Bool:=
 (List.range l.length).all λi=>hd.getD i false || (ts.contains i && ((List.range l.length).all (λu=>!hd.getD u false || Ff l i u) || ts.any λp=>!hd.getD p true && Ff l i p))
def JO (ops:Array Oper):oC->Array Bool->Bool
  | [],listed=>(Region.ready .any ops listed).isEmpty
  | k::ks,listed=>decide (Region.ready .any ops listed=[k]) && JO ops ks (listed.setIfInBounds k true)
theorem EN {P:Program} {ops:Array Oper} {Q':Exit->Act->World->Prop}:∀(b:oC) (listed:Array Bool) (a:Act) (w:World),JO ops b listed=true->wpList P ops Q' (b.filterMap λk=>ops[k]?) a w->wpAny P .any ops Q' b.length listed a w
 | [],_,_,_,hB,h=>⟨by simpa[JO] using hB,h⟩
 | k::b,listed,a,w,hB,h=>by
  simp only[JO,dP,decide_eq_true_eq] at hB;refine ⟨λf=>(by rw[hB.1] at f;cases f),λi hi=>?_⟩;have c:=hi;rw[hB.1] at hi;have d:i=k:=by simpa using hi
  subst d;obtain ⟨_,o,e,_⟩:=mem_ready.1 c;have g:wpOp P ops Q' i (wpList P ops Q' (b.filterMap λk=>ops[k]?)) a w:=by
   rw[nP,e] at h;unfold wpOp;simp only[e];exact h
  exact wpOp_mono (λa' w' j=>EN b _ a' w' hB.2 j) g
theorem FD {N:Nat} {hd:List Bool}:∀{i:Nat} {l:List Oper} {ds:oC} {a:List oC} {hs:List Bool},Fl N hd i l ds a hs=true->∀{j:Nat} {o:Oper},l[j]?=some o->∃d ws h,ds[j]?=some d∧a[j]?=some ws∧hs[j]?=some h∧(bif h then Ev N (i+j) o d ws && ((o.after.all λe=>!Region.binds .any e || hd.getD e.on false) && KM hd o) else Nat.ble N d)=true
 | _,[],_,_,_,_,j,o,h=>by simp at h
 | i,x::l,[],_,_,hB,_,_,_=>by simp[Fl] at hB
 | i,x::l,d::ds,[],_,hB,_,_,_=>by simp[Fl] at hB
 | i,x::l,d::ds,ws::a,[],hB,_,_,_=>by simp[Fl] at hB
 | i,x::l,d::ds,ws::a,h0::hs,hB,j,o,h=>by
  simp only[Fl,dP] at hB;cases j with
  | zero=>simp at h;subst h;exact ⟨d,ws,h0,O,O,O,hB.1⟩
  | succ j=>
   simp at h;obtain ⟨g,b,m,k,f,c,n⟩:=FD hB.2 h;exact ⟨g,b,m,by simpa using k,by simpa using f,by simpa using c,by rw[show i+(j+1)=i+1+j from qO];exact n⟩
theorem KS {N:Nat} {hd:List Bool}:∀{i:Nat} {l:List Oper} {ds:oC} {a:List oC} {hs:List Bool},Fl N hd i l ds a hs=true->ds.length=l.length∧hs.length=l.length
 | _,[],[],[],[],_=>⟨O,O⟩
 | _,[],[],[],_::_,hB=>by simp[Fl] at hB
 | _,[],[],_::_,_,hB=>by simp[Fl] at hB
 | _,[],_::_,_,_,hB=>by simp[Fl] at hB
 | i,x::l,[],_,_,hB=>by simp[Fl] at hB
 | i,x::l,d::ds,[],_,hB=>by simp[Fl] at hB
 | i,x::l,d::ds,ws::a,[],hB=>by simp[Fl] at hB
 | i,x::l,d::ds,ws::a,h0::hs,hB=>by
  simp only[Fl,dP] at hB;have:=KS hB.2;simp[this.1,this.2]
inductive DagStepsP (P:Program) (N:Nat) (ds:List Nat) (Fs:List Fact) (σ:CZ) (w:World):List Oper->List (List Nat)->List Bool->List Fact->Prop where
  | nil:DagStepsP P N ds Fs σ w [] [] [] []
  | cons {o:Oper} {ws:List Nat} {F:Fact} {l:List Oper} {wss:List (List Nat)} {hs:List Bool} {Gs:List Fact}:LI P N ds Fs σ w o ws F->DagStepsP P N ds Fs σ w l wss hs Gs->DagStepsP P N ds Fs σ w (o::l) (ws::wss) (true::hs) (F::Gs)
  | tail {o:Oper} {ws:List Nat} {F:Fact} {l:List Oper} {wss:List (List Nat)} {hs:List Bool} {Gs:List Fact}:DagStepsP P N ds Fs σ w l wss hs Gs->DagStepsP P N ds Fs σ w (o::l) (ws::wss) (false::hs) (F::Gs)
theorem DagStepsP.get {P:Program} {N:Nat} {ds:oC} {f:List Fact} {σ:CZ} {w:World}:∀{l:List Oper} {d:List oC} {hs:List Bool} {e:List Fact},DagStepsP P N ds f σ w l d hs e->∀{j:Nat} {o:Oper},l[j]?=some o->hs[j]?=some true->∃ws F,d[j]?=some ws∧e[j]?=some F∧LI P N ds f σ w o ws F
 | _,_,_,_,.nil,j,o,h,_=>by simp at h
 | _,_,_,_,.cons h1 h2,0,o,h,_=>by simp at h;subst h;exact ⟨_,_,O,O,h1⟩
 | _,_,_,_,.tail h2,0,o,h,ht=>by simp at ht
 | _,_,_,_,.cons h1 h2,j+1,o,h,ht=>by
  obtain ⟨ws,F,a,b,c⟩:=h2.get (j:=j) (by simpa using h) (by simpa using ht);exact ⟨ws,F,by simpa using a,by simpa using b,c⟩
 | _,_,_,_,.tail h2,j+1,o,h,ht=>by
  obtain ⟨ws,F,a,b,c⟩:=h2.get (j:=j) (by simpa using h) (by simpa using ht);exact ⟨ws,F,by simpa using a,by simpa using b,c⟩
def DP (hd:List Bool) (listed:List Bool):Nat:=((hd.zip listed).filter λp=>p.1 && !p.2).length
theorem HE:∀{hd listed:List Bool} {i:Nat},hd[i]?=some true->listed[i]?=some false->DP hd (listed.set i true)+1=DP hd listed
 | [],_,_,h,_=>by simp at h
 | _::_,[],_,_,h=>by simp at h
 | h::hd,x::listed,0,h1,h2=>by
  simp at h1 h2;subst h1;subst h2;simp[DP]
 | h::hd,x::listed,i+1,h1,h2=>by
  have:=HE (hd:=hd) (listed:=listed) (i:=i) (by simpa using h1) (by simpa using h2);simp only[DP,List.set_cons_succ,lY,lC] at this⊢;split
  .simp only[d_];omega
  .exact this
theorem Hb:∀{hd listed:List Bool},hd.length=listed.length->DP hd listed=0->(∀(i:Nat),hd[i]?=some false->listed[i]?=some false)->listed=hd
 | [],[],_,_,_=>rfl
 | [],_::_,h,_,_=>by simp at h
 | _::_,[],h,_,_=>by simp at h
 | h::hd,x::listed,hl,h0,ht=>by
  have c:DP hd listed=0:=by
   simp only[DP,lY,lC] at h0⊢;split at h0
   .simp at h0
   .exact h0
  have b:=Hb (by simpa using hl) c λi hi=>by have:=ht (i+1) (by simpa using hi);simpa using this
  have a:x=h:=by
   cases h with
   | false=>have:=ht 0 O;simpa using this
   | true=>
    cases x with
    | true=>rfl
    | false=>simp[DP] at h0
  rw[b,a]
theorem IT:∀{hd listed:List Bool},0<DP hd listed->∃i:Nat,hd[i]?=some true∧listed[i]?=some false
 | [],_,h=>by simp[DP] at h
 | _::_,[],h=>by simp[DP] at h
 | h::hd,x::listed,hp=>by
  simp only[DP,lY,lC] at hp;split at hp
  .rename_i a
   simp at a;exact ⟨0,by simp[a.1],by simp[a.2]⟩
  .obtain ⟨i,b,c⟩:=IT (hd:=hd) (listed:=listed) hp;exact ⟨i+1,by simpa using b,by simpa using c⟩
theorem Cr {listed:Array Bool} {i:Nat} {b d:Bool} (h:listed.toList[i]?=some b):listed.getD i d=b:=by
 have:listed[i]?=some b:=by simpa using h
 simp[eB,this]
theorem FQ {P:Program} {N:Nat} {Q:EF} {σ:CZ} {w:World} {id:Nat} {l:List Oper} (hd:List Bool) (ts:oC) (ds:oC) (am:List oC) (Fs:List Fact) {Gs:List Fact} (hG:Fs=Gs) (hm:P.follows .mixedOrders=true) (hB:Fl N hd 0 l ds am hd=true) (hn:HZ ds=true)
 (hT:(ZE l hd ts && JO l.toArray ts hd.toArray)=true) (hN:Nat.beq (DP hd (List.replicate l.length false)+ts.length) l.length=true)
 (af:∀K,Ah w K->DagStepsP P N ds Fs σ K l am hd Gs)
 (k:∀σ' w',Ah w w'->(∀t,ds.contains t=false->σ' t=σ t)->(∀j,hd[j]?=some true->Holds ds Fs j σ' w')->Dp P N l.toArray (Q .normal) Q (ts.filterMap λk=>l[k]?) σ' w'):Wp P N (.region id l.toArray true) Q σ w:=by
 intro dz a L he;have eQ:EJ dz N (NE (Q .normal) Q)=EJ dz N Q:=by funext e a w;cases e<;>rfl
 refine wp_region_any hm ?_;obtain ⟨K,an⟩:∃K:World,K={w with drawn:=w.drawn+1}:=⟨_,O⟩;have aq:Ah w K:=by rw[an];exact HH w
 rw[<-an];have ar:=af K aq;rw[<-hG] at ar;rw[dP] at hT;obtain ⟨a4,a8⟩:=hT;obtain ⟨hlen,hlen2⟩:=KS hB;have a7:∀(m:Nat) (listed:Array Bool) (a:Act) (w':World),DP hd listed.toList=m->listed.size=l.length->(∀(t:Nat),hd[t]?=some false->listed.toList[t]?=some false)->Ok dz N a->Ah K w'->(∀t,ds.contains t=false->Dr a t=σ t)->(∀j,hd[j]?=some true->listed.getD j false=true->Holds ds Fs j (Dr a) w')->
  wpAny P .any l.toArray (EJ dz N Q) (m+ts.length) listed a w':=by
  intro m
  induction m with
  | zero=>
   intro listed a w' ay ax D L hx hu hh;have hl:listed=hd.toArray:=by
    apply iJ;exact Hb (by simp;omega) ay D
   rw[eO];have U:=k (Dr a) w' (aq.trans hx) hu (λj r=>hh j r (Cr (by rw[hl];exact r))) dz a L O;rw[eQ] at U;exact EN ts listed a w' (by rw[hl];exact a8) (by simpa using U)
  | succ m ih=>
   intro listed a w' hcm ax D L hx hu hh;obtain ⟨i0,ah,aw⟩:=IT (hd:=hd) (listed:=listed.toList) qO;rw[show m+1+ts.length=(m+ts.length)+1 by omega];refine ⟨λhr=>?_,λi hi=>?_⟩
   .exfalso;have ap:∀i:Nat,hd[i]?=some true->listed.getD i true=true:=by
     intro i
     induction i using Nat.strongRecOn with
     | _ i ihi=>
      intro hi;cases hv:listed.getD i true with
      | true=>rfl
      | false=>
       exfalso;obtain ⟨o,ho⟩:=AU (l:=l) (i:=i) (by have:=AX hi;omega);obtain ⟨d,ws,h,_,_,R,h3⟩:=FD hB ho;rw[hi] at R;cases R;simp only[cond_true,dP,eO] at h3;have:i∈Region.ready .any l.toArray listed:=by
        refine mem_ready.2 ⟨hv,o,by simpa using ho,λe he hb=>?_⟩;have C:=h3.1;simp only[Ev,dP,fA,eZ,e_] at C;have T:=h3.2.1;simp only[fA,eZ,e_] at T;have g:=(C.1.2 e he).resolve_left (by simp[hb]);have x:e.on<i:=by simpa[gY] using g
        have h7:=(T e he).resolve_left (by simp[hb]);have au:e.on<hd.length:=by have:=AX hi;omega
        have h8:hd[e.on]?=some true:=by
         rw[eG,dM au,eL] at h7;rw[dM au,h7]
        have H:=ihi e.on x h8;have r:e.on<listed.size:=qO
        simpa only[eB,dV r,eL] using H
       rw[hr] at this;cases this
    have:=ap i0 ah;rw[Cr aw] at this;cases this
   .obtain ⟨U,o,R,h3⟩:=mem_ready.1 hi;have ho:l[i]?=some o:=by simpa using R
    have az:i<l.length:=AX ho;have J:hd[i]?=some true:=by
     obtain ⟨b,hb⟩:=AU (l:=hd) (i:=i) qO;cases b with
     | true=>exact hb
     | false=>
      exfalso;have C:=fM.1 a4 i (gJ.2 az);rw[eG,hb,eL,gZ,dP,eZ] at C;have Z:∀u,Ff l i u=true->listed.getD u false=true:=λu I=>by
       unfold Ff at I;rw[ho] at I;simp only[gI,dP] at I;obtain ⟨e,he,ae,ab⟩:=I;have:=dY ab;rw[<-this];exact h3 e he ae
      rcases C.2 with T|T
      .have g:=fM.1 T i0 (gJ.2 (by have:=AX ah;omega));rw[eG,ah,eL,jX,gZ] at g;have:=Z i0 g;rw[Cr aw] at this;cases this
      .obtain ⟨p,_,g⟩:=eX.1 T;rw[dP,e_] at g;have h7:=Z p g.2;have hp:hd[p]?=some false:=by
        have h8:=g.1;rw[eG] at h8;cases H:hd[p]? with
        | none=>rw[H] at h8;cases h8
        | some b=>rw[H,eL] at h8;rw[h8]
       rw[Cr (D p hp)] at h7;cases h7
    obtain ⟨d,ws,h,ac,a0,al,C⟩:=FD hB ho;rw[J] at al;cases al;obtain ⟨ws',F,V,hF,ag⟩:=ar.get ho J;rw[a0] at V;cases V;simp only[cond_true,dP,eO] at C;have G:=C.2.2;have C:=C.1;simp only[Ev,dP,fM,gI,fA,eZ,e_] at C;obtain ⟨⟨⟨q,aa⟩,_⟩,aj⟩:=C;have q:o.dst=some d:=by
     split at q
     .rename_i d' h;rw[h,dY q]
     .cases q
    have aa:d<N:=by simpa[gY] using aa
    have hH:∀j,ws.contains j=true->Holds ds Fs j (Dr a) w':=by
     intro j r;have a3:j∈ws:=by simpa using r
     obtain ⟨e,he,hb⟩:=aj j a3;obtain ⟨ae,ab⟩:=hb;have a6:e.on=j:=dY ab;have E:=h3 e he ae;rw[a6] at E;refine hh j ?_ E;obtain ⟨b,hb⟩:=AU (l:=hd) (i:=j) (by
      rcases eI j listed.size with H|H
      .omega
      .simp[eB,gG H] at E)
     cases b with
     | true=>exact hb
     | false=>rw[Cr (D j hb)] at E;cases E
    have gd:∀j b,o.guard=some (j,b)->∀z,ds[j]?=some z->(∃oj,l[j]?=some oj∧oj.dst=some z)∧z<N:=λj b f z B=>by
     obtain ⟨oj,y⟩:=AU (l:=l) (i:=j) (by have:=AX B;omega);obtain ⟨dj',_,r,M,_,T,g⟩:=FD hB y;rw[B] at M;cases M;unfold KM at G;rw[f] at G;simp only at G;have h7:r=true:=by rw[eG,T,eL] at G;exact G
     rw[h7] at g;simp only[cond_true,dP,Ev] at g;obtain ⟨⟨⟨c,n⟩,_⟩,_⟩:=g.1;refine ⟨⟨oj,y,?_⟩,by simpa[gY] using n⟩;split at c
     .rename_i d' h;rw[h,dY c]
     .cases c
    have S:∀v w2,Ah w' w2->F.In v w2->wpAny P .any l.toArray (EJ dz N Q) (m+ts.length) (listed.setIfInBounds i true) (a.put o.dst v) w2:=by
     intro v w2 ao hv;have W:Dr (a.put o.dst v)=Of (Dr a) d v:=by rw[q];exact FN L aa v
     have a5:listed.toList[i]?=some false:=by
      have r:i<listed.size:=qO
      simp only[eB,dV r,eL] at U;rw[gC,dV r,U]
     refine ih _ _ _ ?_ (by simpa using ax) (λt X=>?_) (L.put _ _) (hx.trans ao) ?_ ?_
     .rw[fC];have:=HE J a5;omega
     .rw[fC,fG];have ad:i≠t:=λe=>by rw[<-e,J] at X;cases X
      rw[if_neg ad];exact D t X
     .intro t X;rw[W,<-hu t X];simp only[Of];cases hb:Nat.beq t d
      .rfl
      .exfalso;have:t=d:=dY hb;subst this;have:=dK ac;simp[this] at X
     .intro j a2 r d' F' A ai;rw[W];by_cases ak:j=i
      .subst ak;rw[ac] at A;cases A;rw[hF] at ai;cases ai;simp only[Of,kE,cond_true];exact hv
      .have ad:Nat.beq d' d=false:=by
        cases hb:Nat.beq d' d
        .rfl
        .exfalso;have:d'=d:=dY hb;subst this;exact ak (DN hn A ac)
       simp only[Of,ad,cond_false];rw[getD_set_ne _ (Ne.symm ak)] at r;exact Fact.ext (hh j a2 r d' F' A ai) ao
    rcases ag (Dr a) w' hx hu hH with ⟨hg,a1⟩|⟨⟨j,b,z,f,B,s⟩,av⟩
    .have hw:Region.wanted o (yielded l.toArray a.tmps)=true:=by
      cases f:o.guard with
      | none=>simp[Region.wanted,f]
      | some p=>
       obtain ⟨j,b⟩:=p;obtain ⟨z,B,s⟩:=hg j b f;obtain ⟨c,n⟩:=gd j b f z B;have g:a.tmps[z]?=some (Value.bool b):=by
        have R:a.tmps.getD z undef=.bool b:=s;have x:z<a.tmps.size:=by rw[L.size];exact n
        rw[dV x];simpa[x] using R
       obtain ⟨oj,y,c⟩:=c;simp[Region.wanted,f,yielded,y,c,g]
     unfold wpOp;simp only[R,hw,if_true];exact dH (a1 _ a L O _ _ S)
    .have hw:Region.wanted o (yielded l.toArray a.tmps)=false:=by
      obtain ⟨c,n⟩:=gd j b f z B;have x:z<a.tmps.size:=by rw[L.size];exact n
      have g:a.tmps[z]?=some (Dr a z):=by
       rw[dV x];simp[Dr,x]
      obtain ⟨oj,y,c⟩:=c;rcases s with s|s
      .rw[s] at g;cases b<;>simp[Region.wanted,f,yielded,y,c,g]
      .rw[s] at g;simp[Region.wanted,f,yielded,y,c,g,undef]
     unfold wpOp;simp only[R,hw,gW,if_false];exact S undef w' (Ah.refl _) av
 have U:=a7 (DP hd (Array.replicate l.toArray.size false).toList) (Array.replicate l.toArray.size false) a K O qP (λt X=>by have H:=AX X;rw[kU,gX,if_pos (by rw[fQ];omega)]) L (Ah.refl _) (λt _=>by rw[he]) (λj _ r=>by rw[getD_replicate_false] at r;cases r);have e3:DP hd (Array.replicate l.toArray.size false).toList+ts.length=l.toArray.size:=by have H:=dY hN;simpa using H
 rw[e3] at U;exact U
theorem aQ {x y z u p a b c d e:Value} (h:x=a) (i:y=b) (f:z=c) (g:u=d) (j:p=e):[x,y,z,u,p]=[a,b,c,d,e]:=by rw[h,i,f,g,j]
section
variable {P : Program} {N : Nat} {σ : CZ} {w : World} {dst : Option Tmp} {ty : TypeId} {pos : String} {af : Array Edge} {g : Option (Nat × Bool)} {t : TypeId} {x y z u : Operand} {a b c d : Value} {i j k m : Nat}
theorem dE (h:ev σ x=a):([(i,x)].map λ(i,x)=>(i,ev σ x))=[(i,a)]:=by simp only[List.map,h]
theorem bB (h:ev σ x=a) (c:ev σ y=b):([(i,x),(j,y)].map λ(i,x)=>(i,ev σ x))=[(i,a),(j,b)]:=by simp only[List.map,h,c]
def OW (e:Nat) (c:oG) (hs:Nat):G0:=λv w=>∃b,v=P6 b 0∧BV w b c e∧hs<=b
theorem Dv (e:Nat) (c:oG) (hs:Nat):FK (OW e c hs):=by
 rintro v w w' x ⟨b,a,f,d⟩;exact ⟨b,a,Ah.keep x f,d⟩
theorem FM {d hs:Nat} {z:Value} {c:oG} (e:FP P t z) (b:z.cells=c) (a:hs<=w.heap.size):Ka P N ⟨some d,.alloc t,ty,pos,af,g⟩ (OW t c hs) σ w:=by
 subst b;have hn:=New.mk' w z.cells t;exact AP (v:=P6 w.heap.size 0) (by simp[execOp,Instr.alloc,e.run,newVar,newRow]) hn.ext ⟨_,O,hn.blk,a⟩
end
def two (c1 c2:Nat) (M1 M2:oD) (p:Nat):Nat->Prop:=bif Nat.beq p c1 then M1 else bif Nat.beq p c2 then M2 else Aj
def Zr (wss cl:List oC) (i:Nat):Bool:=(cl.getD i []).all λc=>(wss.getD i []).contains c || (wss.getD i []).any λe=>(cl.getD e []).contains c
def We (wss cl:List oC):Bool:=(List.range wss.length).all (Zr wss cl)
theorem OQ {b d:List oC} (h:We b d=true) {i c:Nat} {ws:oC} (f:b[i]?=some ws) (j:(d.getD i []).contains c=true):c∈ws∨∃e∈ws,(d.getD e []).contains c=true:=by
 have g:=fM.1 h i (gJ.2 (AX f));have a:=fM.1 g c (by simpa using j);rw[eG,f,eL,eZ] at a;rcases a with a|a
 .exact .inl (by simpa using a)
 .obtain ⟨e,l,k⟩:=eX.1 a;exact .inr ⟨e,l,k⟩
abbrev CW:=(Nat->Bool)->CZ->G0
abbrev eF (u:Value):CW:=λ_ _ v _=>v=u
def JE (ds:oC) (Fs:List CW) (S:Nat->Bool) (j:Nat) (σ:CZ) (w:World):Prop:=∀d F,ds[j]?=some d->Fs[j]?=some F->F S σ (σ d) w
def KK (S:Nat->Bool) (i:Nat):Nat->Bool:=λj=>bif Nat.beq j i then true else S j
theorem KJ (S:Nat->Bool) (i:Nat):KK S i i=true:=by simp[KK]
theorem Ow {S:Nat->Bool} {i j:Nat} (h:j≠i):KK S i j=S j:=by
 have:Nat.beq j i=false:=by cases hb:Nat.beq j i;rfl;exact absurd (dY hb) h
 simp[KK,this]
def M6:List (Nat×oD)->Nat->Nat->Prop
  | [],_,_=>False
  | p::r,j,y=>(j=p.1∧p.2 y)∨M6 r j y
theorem BE {c:Nat} {M:oD} {r:List (Nat×oD)} {j y:Nat} (h:M6 ((c,M)::r) j y):(j=c∧M y)∨M6 r j y:=h
theorem Cq {S:Nat->Bool} {w w':World} (X:Chg (λy=>∃j,S j=true∧M6 [] j y) w w'):Chg Aj w w':=X.mono λy _ ⟨_,_,h⟩=>h.elim
theorem Ui {S:Nat->Bool} {w w':World} {c:Nat} {M:oD} (a:S c=false) (X:Chg (λy=>∃j,S j=true∧M6 [(c,M)] j y) w w'):Chg Aj w w':=X.mono λy _ ⟨j,b,h⟩=>by
 rcases BE h with ⟨rfl,_⟩|d
 .rw[b] at a;cases a
 .exact d.elim
theorem xN2 {S:Nat->Bool} {w w':World} {c d:Nat} {M f:oD} (b:S c=false) (a:S d=false) (X:Chg (λy=>∃j,S j=true∧M6 [(c,M),(d,f)] j y) w w'):Chg Aj w w':=X.mono λy _ ⟨j,e,h⟩=>by
 rcases BE h with ⟨rfl,_⟩|h
 .rw[e] at b;cases b
 rcases BE h with ⟨rfl,_⟩|g
 .rw[e] at a;cases a
 .exact g.elim
theorem cS {S:Nat->Bool} {w w':World} {c:Nat} {M:oD} (X:Chg (λy=>∃j,S j=true∧M6 [(c,M)] j y) w w'):Chg M w w':=X.mono λy _ ⟨j,hj,h⟩=>by
 rcases BE h with ⟨_,h⟩|a
 .exact h
 .exact a.elim
theorem xM2 {S:Nat->Bool} {w w':World} {c d:Nat} {M b:oD} (a:S d=false) (X:Chg (λy=>∃j,S j=true∧M6 [(c,M),(d,b)] j y) w w'):Chg M w w':=X.mono λy _ ⟨j,e,h⟩=>by
 rcases BE h with ⟨_,h⟩|h
 .exact h
 rcases BE h with ⟨rfl,_⟩|f
 .rw[e] at a;cases a
 .exact f.elim
def IY (N i:Nat) (hd:List Bool) (o:Oper) (d:Nat) (ws:oC):Bool:=
 (match o.dst with|some d'=>Nat.beq d' d && Nat.blt d N|none=>Nat.ble N d) && (o.after.all λe=>!Region.binds .any e || (Nat.blt e.on i && hd.getD e.on false)) && (ws.all λj=>o.after.any λe=>Region.binds .any e && Nat.beq e.on j) && KM hd o
def Fh (N:Nat) (hd:List Bool):Nat->List Oper->List Nat->List oC->List Bool->Bool
  | _,[],[],[],[]=>true
  | i,o::l,d::ds,ws::wss,h::hs=>(bif h then IY N i hd o d ws else Nat.ble N d) && Fh N hd (i+1) l ds wss hs
  | _,_,_,_,_=>false
theorem HI {N:Nat} {hd:List Bool}:∀{i:Nat} {l:List Oper} {ds:oC} {a:List oC} {hs:List Bool},Fh N hd i l ds a hs=true->∀{j:Nat} {o:Oper},l[j]?=some o->∃d ws h,ds[j]?=some d∧a[j]?=some ws∧hs[j]?=some h∧(bif h then IY N (i+j) hd o d ws else Nat.ble N d)=true
 | _,[],_,_,_,_,j,o,h=>by simp at h
 | i,x::l,[],_,_,hB,_,_,_=>by simp[Fh] at hB
 | i,x::l,d::ds,[],_,hB,_,_,_=>by simp[Fh] at hB
 | i,x::l,d::ds,ws::a,[],hB,_,_,_=>by simp[Fh] at hB
 | i,x::l,d::ds,ws::a,h0::hs,hB,j,o,h=>by
  simp only[Fh,dP] at hB;cases j with
  | zero=>simp at h;subst h;exact ⟨d,ws,h0,O,O,O,hB.1⟩
  | succ j=>
   simp at h;obtain ⟨f,b,k,g,e,c,m⟩:=HI hB.2 h;exact ⟨f,b,k,by simpa using g,by simpa using e,by simpa using c,by rw[show i+(j+1)=i+1+j from qO];exact m⟩
theorem OF {N:Nat} {hd:List Bool}:∀{i:Nat} {l:List Oper} {ds:oC} {a:List oC} {hs:List Bool},Fh N hd i l ds a hs=true->ds.length=l.length∧hs.length=l.length∧a.length=l.length
 | _,[],[],[],[],_=>⟨O,O,O⟩
 | _,[],[],[],_::_,hB=>by simp[Fh] at hB
 | _,[],[],_::_,_,hB=>by simp[Fh] at hB
 | _,[],_::_,_,_,hB=>by simp[Fh] at hB
 | i,x::l,[],_,_,hB=>by simp[Fh] at hB
 | i,x::l,d::ds,[],_,hB=>by simp[Fh] at hB
 | i,x::l,d::ds,ws::a,[],hB=>by simp[Fh] at hB
 | i,x::l,d::ds,ws::a,h0::hs,hB=>by
  simp only[Fh,dP] at hB;have:=OF hB.2;simp[this.1,this.2.1,this.2.2]
def Mq (P:Program) (N:Nat) (ds:oC) (Fs:List CW) (σ:CZ) (w:World) (Ms:Nat->Nat->Prop) (cl:List oC) (i:Nat) (o:Oper) (ws:oC) (F:CW):Prop:=
 ∀(S:Nat->Bool) σ' w',S i=false->(∀j,(cl.getD j []).contains i=true->S j=false)->Chg (λy=>∃j,S j=true∧Ms j y) w w'->(∀t,ds.contains t=false->σ' t=σ t)->(∀j d,ds[j]?=some d->S j=false->σ' d=σ d)->(∀j,ws.contains j=true->S j=true∧JE ds Fs S j σ' w')->
  (LH ds o σ'∧Dn (Ms i) P N o (λv w=>F (KK S i) σ' (Go.Eng.valOf o v) w) σ' w')∨(Ta ds o σ'∧F (KK S i) σ' undef w')
def Dl (Ms:Nat->Nat->Prop) (i:Nat) (ws:oC) (F:CW):Prop:=∀p,p≠i->ws.contains p=false->∀S σ v w w',S i=true->S p=false->Chg (Ms p) w w'->F S σ v w->F (KK S p) σ v w'
def Hr (ds:oC) (ws:oC) (F:CW):Prop:=∀S (σ1 σ2:CZ),(∀j d,ws.contains j=true->ds[j]?=some d->σ2 d=σ1 d)->∀v w,F S σ1 v w->F S σ2 v w
inductive DagStepsS (P:Program) (N:Nat) (ds:List Nat) (Fs:List CW) (σ:CZ) (w:World) (Ms:Nat->Nat->Prop) (cl:List (List Nat)):Nat->List Oper->List (List Nat)->List Bool->List CW->Prop where
  | nil {i:Nat}:DagStepsS P N ds Fs σ w Ms cl i [] [] [] []
  | cons {i:Nat} {o:Oper} {ws:List Nat} {F:CW} {l:List Oper} {wss:List (List Nat)} {hs:List Bool} {Gs:List CW} (s:Dl Ms i ws F) (lc:Hr ds ws F) (h:Mq P N ds Fs σ w Ms cl i o ws F) (t:DagStepsS P N ds Fs σ w Ms cl (i+1) l wss hs Gs):DagStepsS P N ds Fs σ w Ms cl i (o::l) (ws::wss) (true::hs) (F::Gs)
  | tail {i:Nat} {o:Oper} {ws:List Nat} {F:CW} {l:List Oper} {wss:List (List Nat)} {hs:List Bool} {Gs:List CW} (t:DagStepsS P N ds Fs σ w Ms cl (i+1) l wss hs Gs):DagStepsS P N ds Fs σ w Ms cl i (o::l) (ws::wss) (false::hs) (F::Gs)
def Me (hd:List Bool):Nat->Bool:=λj=>hd.getD j false
def Qu (M:oD) (ch:List PanicEntry) (X:World->Prop) (P:Program) (N:Nat) (o:Oper) (R:G0) (σ:CZ) (w:World):Prop:=
 ∀dz a,Ok dz N a->Dr a=σ->∀(Q:Exit->Act->World->Prop) (K:Act->World->Prop),(∀v w',Chg M w w'->R v w'->K (a.put o.dst v) w')->(∀w',Chg M w w'->X w'->Q (.panic ch) a w')->o.wp P a w K Q
theorem Dn.x {M:oD} {b:List PanicEntry} {X:World->Prop} {P:Program} {N:Nat} {o:Oper} {R:G0} {σ:CZ} {w:World} (h:Dn M P N o R σ w):Qu M b X P N o R σ w:=λf a c d Q K e _=>h f a c d Q K e
theorem Qu.weak {M:oD} {b:List PanicEntry} {X:World->Prop} {P:Program} {N:Nat} {o:Oper} {R R':G0} {σ:CZ} {w:World} (h:Qu M b X P N o R σ w) (d:∀v w',Chg M w w'->R v w'->R' v w'):Qu M b X P N o R' σ w:=λi a f g Q K e j=>h i a f g Q K (λv w' c r=>e v w' c (d v w' c r)) j
def Mr (P:Program) (N:Nat) (ds:oC) (Fs:List CW) (σ:CZ) (w:World) (Ms:Nat->Nat->Prop) (Rs:Nat->World->World->Prop) (ch:List PanicEntry) (X:World->Prop) (cl:List oC) (i:Nat) (o:Oper) (ws:oC) (F:CW):Prop:=
 ∀(S:Nat->Bool) σ' w',S i=false->(∀j,(cl.getD j []).contains i=true->S j=false)->Chg (λy=>∃j,S j=true∧Ms j y) w w'->(∀t,ds.contains t=false->σ' t=σ t)->(∀j d,ds[j]?=some d->S j=false->σ' d=σ d)->(∀j,ws.contains j=true->S j=true∧JE ds Fs S j σ' w')->
  (LH ds o σ'∧Qu (Ms i) ch X P N o (λv w=>F (KK S i) σ' (Go.Eng.valOf o v) w∧Rs i w' w) σ' w')∨(Ta ds o σ'∧F (KK S i) σ' undef w'∧Rs i w' w')
def Y4 (Ms:Nat->Nat->Prop) (Rs:Nat->World->World->Prop) (cl:List oC) (i:Nat) (ws:oC) (F:CW):Prop:=∀p,p≠i->ws.contains p=false->∀S σ v w w',S i=true->S p=false->(∀j,(cl.getD p []).contains j=true->S j=true)->Chg (Ms p) w w'->Rs p w w'->F S σ v w->F (KK S p) σ v w'
inductive DagStepsG (P:Program) (N:Nat) (ds:List Nat) (Fs:List CW) (σ:CZ) (w:World) (Ms:Nat->Nat->Prop) (Rs:Nat->World->World->Prop) (ch:List PanicEntry) (X:World->Prop) (cl:List (List Nat)):Nat->List Oper->List (List Nat)->List Bool->List CW->Prop where
  | nil {i:Nat}:DagStepsG P N ds Fs σ w Ms Rs ch X cl i [] [] [] []
  | cons {i:Nat} {o:Oper} {ws:List Nat} {F:CW} {l:List Oper} {wss:List (List Nat)} {hs:List Bool} {Gs:List CW} (s:Y4 Ms Rs cl i ws F) (lc:Hr ds ws F) (h:Mr P N ds Fs σ w Ms Rs ch X cl i o ws F) (t:DagStepsG P N ds Fs σ w Ms Rs ch X cl (i+1) l wss hs Gs):DagStepsG P N ds Fs σ w Ms Rs ch X cl i (o::l) (ws::wss) (true::hs) (F::Gs)
  | tail {i:Nat} {o:Oper} {ws:List Nat} {F:CW} {l:List Oper} {wss:List (List Nat)} {hs:List Bool} {Gs:List CW} (t:DagStepsG P N ds Fs σ w Ms Rs ch X cl (i+1) l wss hs Gs):DagStepsG P N ds Fs σ w Ms Rs ch X cl i (o::l) (ws::wss) (false::hs) (F::Gs)
theorem DagStepsG.get {P:Program} {N:Nat} {ds:oC} {p:List CW} {σ:CZ} {w:World} {Ms:Nat->Nat->Prop} {d:Nat->World->World->Prop} {n:List PanicEntry} {X:World->Prop} {e:List oC}:∀{i:Nat} {l:List Oper} {a:List oC} {hs:List Bool} {m:List CW},DagStepsG P N ds p σ w Ms d n X e i l a hs m->∀{j:Nat} {o:Oper},l[j]?=some o->hs[j]?=some true->∃ws F,a[j]?=some ws∧m[j]?=some F∧Y4 Ms d e (i+j) ws F∧Hr ds ws F∧Mr P N ds p σ w Ms d n X e (i+j) o ws F
 | _,_,_,_,_,.nil,j,o,h,_=>by simp at h
 | i,_,_,_,_,.cons s lc h t,0,o,ho,_=>by
  simp at ho;subst ho;exact ⟨_,_,O,O,s,lc,h⟩
 | _,_,_,_,_,.tail t,0,o,h,ht=>by simp at ht
 | i,_,_,_,_,.cons s lc h t,j+1,o,ho,ht=>by
  obtain ⟨ws,F,g,c,b,f,k⟩:=t.get (j:=j) (by simpa using ho) (by simpa using ht);exact ⟨ws,F,by simpa using g,by simpa using c,by rw[show i+(j+1)=i+1+j from qO];exact b,f,by rw[show i+(j+1)=i+1+j from qO];exact k⟩
 | i,_,_,_,_,.tail t,j+1,o,ho,ht=>by
  obtain ⟨ws,F,g,c,b,f,k⟩:=t.get (j:=j) (by simpa using ho) (by simpa using ht);exact ⟨ws,F,by simpa using g,by simpa using c,by rw[show i+(j+1)=i+1+j from qO];exact b,f,by rw[show i+(j+1)=i+1+j from qO];exact k⟩
def J4 (l:List Oper):Nat->Nat->Nat->Bool
  | 0,i,u=>Ff l i u
  | k+1,i,u=>Ff l i u || (List.range l.length).any λv=>Ff l i v && J4 l k v u
def Uq (l:List Oper) (hd:List Bool) (ts:oC):Bool:=
 (List.range l.length).all λi=>hd.getD i false || (ts.contains i && ((List.range l.length).all (λu=>!hd.getD u false || J4 l 4 i u) || ts.any λp=>!hd.getD p true && Ff l i p))
theorem Oh {l:List Oper} {listed:Array Bool} (f:∀(j:Nat) oj,l[j]?=some oj->listed.getD j false=true->∀e∈oj.after,Region.binds .any e=true->listed.getD e.on false=true) :
 ∀(k j u:Nat),listed.getD j false=true->J4 l k j u=true->listed.getD u false=true:=by
 have a:∀j u,listed.getD j false=true->Ff l j u=true->listed.getD u false=true:=λj u c b=>by
  unfold Ff at b;cases ho:l[j]? with
  | none=>rw[ho] at b;cases b
  | some o=>
   rw[ho] at b;simp only[gI,dP] at b;obtain ⟨e,m,g,i⟩:=b;have:=dY i;rw[<-this];exact f j o ho c e m g
 intro k
 induction k with
 | zero=>intro j u c h;exact a j u c h
 | succ k ih=>
  intro j u c h;simp only[J4,eZ] at h;rcases h with h|h
  .exact a j u c h
  .obtain ⟨v,_,d⟩:=eX.1 h;rw[dP] at d;exact ih v u (a j v c d.1) d.2
theorem Yo {P:Program} {N:Nat} {Q:EF} {σ:CZ} {w:World} {id:Nat} {l:List Oper} (Ms:Nat->Nat->Prop) (Rs:Nat->World->World->Prop) (ch:List PanicEntry) (X:World->Prop) (hd:List Bool) (ts:oC) (ds:oC) (ba cl:List oC) (Fs:List CW) {Gs:List CW} (hG:Fs=Gs) (hC:We ba cl=true) (hm:P.follows .mixedOrders=true) (hB:Fh N hd 0 l ds ba hd=true) (hn:HZ ds=true)
 (hT:(Uq l hd ts && JO l.toArray ts hd.toArray)=true) (hN:Nat.beq (DP hd (List.replicate l.length false)+ts.length) l.length=true)
 (au:∀D,Ah w D->DagStepsG P N ds Fs σ D Ms Rs ch X cl 0 l cl hd Gs)
 (hX:∀σ' D w',Ah w D->Chg (λy=>∃j,Ms j y) D w'->X w'->Q (.panic ch) σ' w')
 (k:∀σ' D w',Ah w D->Chg (λy=>∃j,hd.getD j false=true∧Ms j y) D w'->(∀t,ds.contains t=false->σ' t=σ t)->(∀j,hd[j]?=some true->JE ds Fs (Me hd) j σ' w')->Dp P N l.toArray (Q .normal) Q (ts.filterMap λk=>l[k]?) σ' w'):Wp P N (.region id l.toArray true) Q σ w:=by
 intro dz a ha E;have eQ:EJ dz N (NE (Q .normal) Q)=EJ dz N Q:=by funext e a w;cases e<;>rfl
 refine wp_region_any hm ?_;obtain ⟨D,bg⟩:∃D:World,D={w with drawn:=w.drawn+1}:=⟨_,O⟩;have az:Ah w D:=by rw[bg];exact HH w
 rw[<-bg];have a0:=au D az;rw[<-hG] at a0;rw[dP] at hT;obtain ⟨bv,b7⟩:=hT;obtain ⟨hlen,hlen2,hlen3⟩:=OF hB
 let W:Array Bool->Nat->Bool:=λlisted j=>listed.getD j false
 have b3:∀(m:Nat) (listed:Array Bool) (a:Act) (w':World),DP hd listed.toList=m->listed.size=l.length->(∀(t:Nat),hd[t]?=some false->listed.toList[t]?=some false)->(∀(j:Nat) oj,l[j]?=some oj->listed.getD j false=true->∀e∈oj.after,Region.binds .any e=true->listed.getD e.on false=true)->Ok dz N a->Chg (λy=>∃j,listed.getD j false=true∧Ms j y) D w'->(∀t,ds.contains t=false->Dr a t=σ t)->(∀j d,ds[j]?=some d->listed.getD j false=false->Dr a d=σ d)->(∀j,hd[j]?=some true->listed.getD j false=true->JE ds Fs (W listed) j (Dr a) w')->
  wpAny P .any l.toArray (EJ dz N Q) (m+ts.length) listed a w':=by
  intro m
  induction m with
  | zero=>
   intro listed a w' bx bf ag ap ha hx hu a1 hh;have hl:listed=hd.toArray:=by
    apply iJ;exact Hb (by simp;omega) bx ag
   have bi:W listed=Me hd:=by
    funext j;show listed.getD j false=hd.getD j false;rw[hl];simp[eG]
   rw[eO];have h1:=k (Dr a) D w' az (hx.mono λy _ h=>by
    obtain ⟨j,h1,h2⟩:=h;have:Me hd j=true:=by rw[<-bi];exact h1
    exact ⟨j,this,h2⟩) hu (λj r=>by rw[<-bi];exact hh j r (Cr (by rw[hl];exact r))) dz a ha O
   rw[eQ] at h1;exact EN ts listed a w' (by rw[hl];exact b7) (by simpa using h1)
  | succ m ih=>
   intro listed a w' hcm bf ag ap ha hx hu a1 hh;obtain ⟨i0,av,a8⟩:=IT (hd:=hd) (listed:=listed.toList) qO;rw[show m+1+ts.length=(m+ts.length)+1 by omega];refine ⟨λhr=>?_,λi hi=>?_⟩
   .exfalso;have bb:∀i:Nat,hd[i]?=some true->listed.getD i true=true:=by
     intro i
     induction i using Nat.strongRecOn with
     | _ i ihi=>
      intro hi;cases hv:listed.getD i true with
      | true=>rfl
      | false=>
       exfalso;obtain ⟨o,ho⟩:=AU (l:=l) (i:=i) (by have:=AX hi;omega);obtain ⟨d,ws,h,_,_,h2,h3⟩:=HI hB ho;rw[hi] at h2;cases h2;simp only[cond_true,IY,dP,eO] at h3;have:i∈Region.ready .any l.toArray listed:=by
        refine mem_ready.2 ⟨hv,o,by simpa using ho,λe E hb=>?_⟩;have h4:=h3.1.1.2;simp only[fA,eZ,e_,dP] at h4;have g:=(h4 e E).resolve_left (by simp[hb]);have S:e.on<i:=by simpa[gY] using g.1
        have T:=g.2;have be:e.on<hd.length:=by have:=AX hi;omega
        have h8:hd[e.on]?=some true:=by
         rw[eG,dM be,eL] at T;rw[dM be,T]
        have h9:=ihi e.on S h8;have r:e.on<listed.size:=qO
        simpa only[eB,dV r,eL] using h9
       rw[hr] at this;cases this
    have:=bb i0 av;rw[Cr a8] at this;cases this
   .obtain ⟨h1,o,h2,h3⟩:=mem_ready.1 hi;have ho:l[i]?=some o:=by simpa using h2
    have bo:i<l.length:=AX ho;have an:hd[i]?=some true:=by
     obtain ⟨b,hb⟩:=AU (l:=hd) (i:=i) qO;cases b with
     | true=>exact hb
     | false=>
      exfalso;have h4:=fM.1 bv i (gJ.2 bo);rw[eG,hb,eL,gZ,dP,eZ] at h4;have ak:∀u,Ff l i u=true->listed.getD u false=true:=λu al=>by
       unfold Ff at al;rw[ho] at al;simp only[gI,dP] at al;obtain ⟨e,E,ad,aj⟩:=al;have:=dY aj;rw[<-this];exact h3 e E ad
      rcases h4.2 with h5|h5
      .have g:=fM.1 h5 i0 (gJ.2 (by have:=AX av;omega));rw[eG,av,eL,jX,gZ] at g;have:listed.getD i0 false=true:=by
        simp only[J4,eZ] at g;rcases g with g|g
        .exact ak i0 g
        .obtain ⟨v,_,T⟩:=eX.1 g;rw[dP] at T;refine Oh ap 3 v i0 (ak v T.1) ?_;simp only[J4];exact T.2
       rw[Cr a8] at this;cases this
      .obtain ⟨p,_,g⟩:=eX.1 h5;rw[dP,e_] at g;have T:=ak p g.2;have hp:hd[p]?=some false:=by
        have h8:=g.1;rw[eG] at h8;cases h9:hd[p]? with
        | none=>rw[h9] at h8;cases h8
        | some b=>rw[h9,eL] at h8;rw[h8]
       rw[Cr (ag p hp)] at T;cases T
    obtain ⟨d,ws,h,ae,bz,a9,h4⟩:=HI hB ho;rw[an] at a9;cases a9;obtain ⟨ci,F,bh,hF,ax,bd,ai⟩:=a0.get ho an;rw[eO] at ax ai;simp only[cond_true,IY,dP,fM,gI,eO] at h4;obtain ⟨⟨⟨z,_⟩,aw⟩,ah⟩:=h4;have H:∀j,listed.getD j false=true->hd[j]?=some true:=λj r=>by
     obtain ⟨b,hb⟩:=AU (l:=hd) (i:=j) (by
      rcases eI j listed.size with h9|h9
      .omega
      .simp[eB,gG h9] at r)
     cases b with
     | true=>exact hb
     | false=>rw[Cr (ag j hb)] at r;cases r
    have a5:∀j,listed.getD j false=true->∀c,(cl.getD j []).contains c=true->listed.getD c false=true:=by
     intro j
     induction j using Nat.strongRecOn with
     | _ j ihj=>
      intro C c hc;have ab:=H j C;obtain ⟨oc,bc⟩:=AU (l:=l) (i:=j) (by have:=AX ab;omega);obtain ⟨dc,bt,hb,_,bn,bm,h5⟩:=HI hB bc;rw[ab] at bm;cases bm;simp only[cond_true,IY,dP,fM,gI,fA,eZ,e_,eO] at h5;have B:∀L∈bt,listed.getD L false=true∧L<j:=by
       intro L K;obtain ⟨e,E,ad,aj⟩:=h5.1.2 L K;have bq:e.on=L:=dY aj;have g:=ap j oc bc C e E ad;have T:=(h5.1.1.2 e E).resolve_left (by simp[ad]);rw[bq] at g T;exact ⟨g,by simpa[gY] using T.1⟩
      rcases OQ hC bn hc with g|⟨L,K,g⟩
      .exact (B c g).1
      .exact ihj L (B L K).2 (B L K).1 c g
    have M:∀j,ci.contains j=true->listed.getD j false=true:=by
     intro j r;have I:(cl.getD i []).contains j=true:=by rw[eG,bh,eL];exact r
     have B:∀L∈ws,listed.getD L false=true:=by
      intro L K;obtain ⟨e,E,ad,aj⟩:=aw L K;have:e.on=L:=dY aj;exact this▸h3 e E ad
     rcases OQ hC bz I with g|⟨L,K,g⟩
     .exact B j g
     .exact a5 L (B L K) j g
    have a2:∀j,(cl.getD i []).contains j=true->W listed j=true:=λj r=>M j (by rw[eG,bh,eL] at r;exact r);have bk:W listed i=false:=getD_both h1;have a6:∀j,(cl.getD j []).contains i=true->W listed j=false:=by
     intro j r;cases C:W listed j with
     | false=>rfl
     | true=>
      exfalso;have:=a5 j C i r;rw[getD_both h1] at this;cases this
    have hH:∀j,ci.contains j=true->W listed j=true∧JE ds Fs (W listed) j (Dr a) w':=λj r=>⟨M j r,hh j (H j (M j r)) (M j r)⟩;have R:i<listed.size:=qO
    have bs:W (listed.setIfInBounds i true)=KK (W listed) i:=by
     funext j;by_cases n:j=i
     .subst n;rw[KJ];show (listed.setIfInBounds j true).getD j false=true;simp[eB,R]
     .rw[Ow n];exact getD_set_ne _ (Ne.symm n)
    have U:∀Z,Chg (Ms i) w' Z->Chg (λy=>∃j,(listed.setIfInBounds i true).getD j false=true∧Ms j y) D Z:=by
     intro Z aa;have hg:(listed.setIfInBounds i true).getD i false=true:=by simp[eB,R]
     refine Chg.step (hx.mono λy _ h=>?_) aa (λy _ h=>⟨i,hg,h⟩);obtain ⟨j,h5,g⟩:=h;by_cases n:j=i
     .exact ⟨i,hg,n▸g⟩
     .exact ⟨j,by rw[getD_set_ne _ (Ne.symm n)];exact h5,g⟩
    have ar:∀v Z,Chg (Ms i) w' Z->F (KK (W listed) i) (Dr a) (Go.Eng.valOf o v) Z∧Rs i w' Z->wpAny P .any l.toArray (EJ dz N Q) (m+ts.length) (listed.setIfInBounds i true) (a.put o.dst v) Z:=by
     rintro v Z aa ⟨hv,a3⟩;have A:(∀t,t≠d->Dr (a.put o.dst v) t=Dr a t)∧Dr (a.put o.dst v) d=Go.Eng.valOf o v:=by
      cases hod:o.dst with
      | none=>
       rw[hod] at z;have b6:N<=d:=iU z;refine ⟨λt _=>rfl,?_⟩;simp only[Go.Eng.valOf,hod];show a.tmps.getD d undef=undef;have:a.tmps.size<=d:=by rw[ha.size];exact b6
       simp[gG this]
      | some d'=>
       rw[hod] at z;simp only[dP] at z;have bp:d'=d:=dY z.1;have s:d<N:=by simpa[gY] using z.2
       subst bp;rw[FN ha s v];refine ⟨λt ht=>?_,?_⟩
       .have:Nat.beq t d'=false:=by cases hb:Nat.beq t d';rfl;exact absurd (dY hb) ht
        simp[Of,this]
       .simp[Of,Go.Eng.valOf,hod]
     have bw:listed.toList[i]?=some false:=by
      simp only[eB,dV R,eL] at h1;rw[gC,dV R,h1]
     refine ih _ _ _ ?_ (by simpa using bf) (λt ht=>?_) (λj oj q C e E hb=>?_) (ha.put _ _) (U Z aa) ?_ ?_ ?_
     .rw[fC];have:=HE an bw;omega
     .rw[fC,fG];have ay:i≠t:=λe=>by rw[<-e,an] at ht;cases ht
      rw[if_neg ay];exact ag t ht
     .refine getD_set_true ?_;by_cases n:j=i
      .subst n;rw[ho] at q;cases q;exact h3 e E hb
      .rw[getD_set_ne _ (Ne.symm n)] at C;exact ap j oj q C e E hb
     .intro t ht;rw[A.1 t (λh=>by
       subst h;have:=dK ae;simp[this] at ht),hu t ht]
     .intro j d2 s am;by_cases n:j=i
      .subst n;have br:(listed.setIfInBounds j true).getD j false=true:=by simp[eB,R]
       rw[br] at am;cases am
      .rw[getD_set_ne _ (Ne.symm n)] at am;rw[A.1 d2 (λh=>by subst h;exact n (DN hn s ae)),a1 j d2 s am]
     .intro j ab r d2 F2 s ao;rw[bs];by_cases n:j=i
      .subst n;rw[ae] at s;cases s;rw[hF] at ao;cases ao;rw[A.2];refine bd _ (Dr a) _ (λj' d2 I s=>A.1 d2 λE=>?_) _ _ hv;have:=DN hn (E▸s) ae;subst this;have:=M j' I;rw[getD_both h1] at this;cases this
      .have ay:d2≠d:=by
        intro h;subst h;exact n (DN hn s ae)
       rw[A.1 d2 ay];rw[getD_set_ne _ (Ne.symm n)] at r;have g:=hh j ab r d2 F2 s ao;obtain ⟨oj,q⟩:=AU (l:=l) (i:=j) (by have:=AX ab;omega);obtain ⟨cj,Fj,b2,a4,bj,C,_⟩:=a0.get q ab;rw[ao] at a4;cases a4;rw[eO] at bj;have b4:cl.getD j []=cj:=by rw[eG,b2,eL]
       have V:cj.contains i=false:=by
        cases V:cj.contains i with
        | false=>rfl
        | true=>
         exfalso;have:=a6 j (by rw[b4];exact V);have I:W listed j=true:=r;rw[I] at this;cases this
       refine C _ (Dr a) _ (λj' d3 I b0=>A.1 d3 λE=>?_) _ _ (bj i (Ne.symm n) V (W listed) (Dr a) _ _ _ r bk a2 aa a3 g);have h8:=DN hn (E▸b0) ae;subst h8;rw[V] at I;cases I
    have gd:∀j b,o.guard=some (j,b)->∀J,ds[j]?=some J->((∃oj,l[j]?=some oj∧oj.dst=some J)∧J<N)∨(N<=J∧∃oj,l[j]?=some oj∧oj.dst=none):=λj b x J ac=>by
     obtain ⟨oj,q⟩:=AU (l:=l) (i:=j) (by have:=AX ac;omega);obtain ⟨dj',_,r,aq,_,h5,g⟩:=HI hB q;rw[ac] at aq;cases aq;unfold KM at ah;rw[x] at ah;simp only at ah;have T:r=true:=by rw[eG,h5,eL] at ah;exact ah
     rw[T] at g;simp only[cond_true,dP,IY] at g;have f:=g.1.1.1;split at f
     .rename_i d2 hq
      rw[dP] at f;exact .inl ⟨⟨oj,q,by rw[hq,dY f.1]⟩,by simpa[gY] using f.2⟩
     .rename_i hq
      exact .inr ⟨iU f,oj,q,hq⟩
    rcases ai (W listed) (Dr a) w' bk a6 hx hu a1 hH with ⟨hg,bu⟩|⟨⟨j,b,J,x,ac,G⟩,a7,a3⟩
    .have hw:Region.wanted o (yielded l.toArray a.tmps)=true:=by
      cases x:o.guard with
      | none=>simp[Region.wanted,x]
      | some p=>
       obtain ⟨j,b⟩:=p;obtain ⟨J,ac,G⟩:=hg j b x;rcases gd j b x J ac with ⟨f,af⟩|⟨b1,_⟩
       .have g:a.tmps[J]?=some (Value.bool b):=by
         have h2:a.tmps.getD J undef=.bool b:=G;have S:J<a.tmps.size:=by rw[ha.size];exact af
         rw[dV S];simpa[S] using h2
        obtain ⟨oj,q,f⟩:=f;simp[Region.wanted,x,yielded,q,f,g]
       .exfalso;have h2:a.tmps.getD J undef=.bool b:=G;have:a.tmps.size<=J:=by rw[ha.size];exact b1
        simp[gG this,undef] at h2
     unfold wpOp;simp only[h2,hw,if_true];exact dH (bu _ a ha O _ _ ar (λZ aa b5=>⟨ha,hX (Dr a) D Z az ((U Z aa).mono λy _ h=>h.imp λj h=>h.2) b5⟩))
    .have hw:Region.wanted o (yielded l.toArray a.tmps)=false:=by
      rcases gd j b x J ac with ⟨f,af⟩|⟨_,oj,q,hq⟩
      .have S:J<a.tmps.size:=by rw[ha.size];exact af
       have g:a.tmps[J]?=some (Dr a J):=by
        rw[dV S];simp[Dr,S]
       obtain ⟨oj,q,f⟩:=f;rcases G with G|G
       .rw[G] at g;cases b<;>simp[Region.wanted,x,yielded,q,f,g]
       .rw[G] at g;simp[Region.wanted,x,yielded,q,f,g,undef]
      .simp[Region.wanted,x,yielded,q,hq]
     unfold wpOp;simp only[h2,hw,gW,if_false];exact ar undef w' (Chg.refl _ _) (by
      have:Go.Eng.valOf o undef=undef:=by unfold Go.Eng.valOf;split<;>rfl
      rw[this];exact ⟨a7,a3⟩)
 have h1:=b3 (DP hd (Array.replicate l.toArray.size false).toList) (Array.replicate l.toArray.size false) a D O qP (λt ht=>by have h9:=AX ht;rw[kU,gX,if_pos (by rw[fQ];omega)]) (λj oj _ hl=>(by rw[getD_replicate_false] at hl;cases hl)) ha (Chg.refl _ _) (λt _=>by rw[E]) (λj d _ _=>by rw[E]) (λj _ r=>by rw[getD_replicate_false] at r;cases r);have e3:DP hd (Array.replicate l.toArray.size false).toList+ts.length=l.toArray.size:=by have h9:=dY hN;simpa using h9
 rw[e3] at h1;exact h1
theorem Mq.toG {P:Program} {N:Nat} {ds:oC} {k:List CW} {σ:CZ} {w:World} {Ms:Nat->Nat->Prop} {j:List oC} {i:Nat} {o:Oper} {ws:oC} {F:CW} (h:Mq P N ds k σ w Ms j i o ws F):Mr P N ds k σ w Ms (λ_ _ _=>True) [] (λ_=>False) j i o ws F:=λS σ' w' a b c d e f=>
 (h S σ' w' a b c d e f).imp (λ⟨g,h⟩=>⟨g,(Dn.x h).weak λ_ _ _ r=>⟨r,trivial⟩⟩) λ⟨u,f⟩=>⟨u,f,trivial⟩
theorem DagStepsS.toG {P:Program} {N:Nat} {ds:oC} {d:List CW} {σ:CZ} {w:World} {Ms:Nat->Nat->Prop} {b:List oC}:∀{i:Nat} {l:List Oper} {a:List oC} {hs:List Bool} {c:List CW},DagStepsS P N ds d σ w Ms b i l a hs c->DagStepsG P N ds d σ w Ms (λ_ _ _=>True) [] (λ_=>False) b i l a hs c
 | _,_,_,_,_,.nil=>.nil
 | _,_,_,_,_,.cons s lc h t=>.cons (λp k f S σ v w w' hi j _ e _ g=>s p k f S σ v w w' hi j e g) lc h.toG t.toG
 | _,_,_,_,_,.tail t=>.tail t.toG
theorem EE {P:Program} {N:Nat} {Q:EF} {σ:CZ} {w:World} {i:Nat} {l:List Oper} (Ms:Nat->Nat->Prop) (hd:List Bool) (ts:oC) (ds:oC) (a d:List oC) (f:List CW) {g:List CW} (r:f=g) (m:We a d=true) (n:P.follows .mixedOrders=true) (q:Fh N hd 0 l ds a hd=true) (hn:HZ ds=true)
 (p:(Uq l hd ts && JO l.toArray ts hd.toArray)=true) (o:Nat.beq (DP hd (List.replicate l.length false)+ts.length) l.length=true)
 (c:∀b,Ah w b->DagStepsS P N ds f σ b Ms d 0 l d hd g)
 (k:∀σ' b w',Ah w b->Chg (λy=>∃j,hd.getD j false=true∧Ms j y) b w'->(∀t,ds.contains t=false->σ' t=σ t)->(∀j,hd[j]?=some true->JE ds f (Me hd) j σ' w')->Dp P N l.toArray (Q .normal) Q (ts.filterMap λk=>l[k]?) σ' w'):Wp P N (.region i l.toArray true) Q σ w:=
 Yo Ms (λ_ _ _=>True) [] (λ_=>False) hd ts ds a d f r m n q hn p o (λb e=>(c b e).toG) (λ_ _ _ _ _ h=>h.elim) k
section
variable {Ms : Nat → Nat → Prop} {i : Nat} {ws ds : List Nat}
theorem Dl.eq {u:Value}:Dl Ms i ws (λ_ _ v _=>v=u):=λ_ _ _ _ _ _ _ _ _ _ _ h=>h
theorem Dl.chg {F:G0} {U:oD} (e:∀v w w',Chg U w w'->F v w->F v w') (b:∀p y,p≠i->ws.contains p=false->Ms p y->U y):Dl Ms i ws (λ_ _=>F):=
 λp c a _ _ v w w' _ _ x h=>e v w w' (x.mono λy _ d=>b p y c a d) h
theorem Dl.till {F:G0} {U:oD} {c:Nat} (k:∀v w w',Chg U w w'->F v w->F v w') (f:∀p y,p≠i->ws.contains p=false->p≠c->Ms p y->U y):Dl Ms i ws (λS _ v w=>S c=false->F v w):=
 λp g d S _ v w w' _ _ x h b=>by
  have a:p≠c:=λe=>by subst e;rw[KJ] at b;cases b
  rw[Ow (Ne.symm a)] at b;exact k v w w' (x.mono λy _ j=>f p y g d a j) (h b)
theorem Hr.const {G:(Nat->Bool)->G0}:Hr ds ws (λS _=>G S):=λ_ _ _ _ _ _ h=>h
end
theorem qZ {P:Program} {N:Nat} {ds:oC} {m:List CW} {σ:CZ} {w:World} {Ms:Nat->Nat->Prop} {k:List oC} {i:Nat} {dst:Option Tmp} {op:Op} {ty:TypeId} {pos:String} {af:Array Edge} {ws:oC} {u:Value} {l:List Oper} {g:List oC} {hs:List Bool} {n:List CW}
 (h:∀(S:Nat->Bool) σ' w',S i=false->(∀j,(k.getD j []).contains i=true->S j=false)->Chg (λy=>∃j,S j=true∧Ms j y) w w'->(∀t,ds.contains t=false->σ' t=σ t)->(∀j d,ds[j]?=some d->S j=false->σ' d=σ d)->(∀j,ws.contains j=true->S j=true∧JE ds m S j σ' w')->Dn (Ms i) P N ⟨dst,op,ty,pos,af,none⟩ (λv _=>Go.Eng.valOf ⟨dst,op,ty,pos,af,none⟩ v=u) σ' w')
 (t:DagStepsS P N ds m σ w Ms k (i+1) l g hs n):DagStepsS P N ds m σ w Ms k i (⟨dst,op,ty,pos,af,none⟩::l) (ws::g) (true::hs) ((eF u)::n):=
 .cons Dl.eq Hr.const (λS o w' a b c d e f=>.inl ⟨AE O,h S o w' a b c d e f⟩) t
section
variable {M : Nat → Prop} {P : Program} {N : Nat} {o : Oper} {R : G0} {σ : CZ} {w : World} {dst : Option Tmp} {ty : TypeId} {pos : String} {af : Array Edge} {g : Option (Nat × Bool)} {t : TypeId}
theorem Ab {v:Value} (a:(execOp (ev σ) o).run P w=.ok (.value v) w) (h:R v w):Dn M P N o R σ w:=BZ a (Chg.refl _ _) h
theorem Kt {R R':G0} (h:Dn M P N o R σ w) (i:∀v w,R v w->R' (Go.Eng.valOf o v) w):Dn M P N o (λv w=>R' (Go.Eng.valOf o v) w) σ w:=λj a d f Q K g=>h j a d f Q K λv c b e=>g v c b (i v c e)
theorem D_ {f:FuncId} {args:oG} (b:(execOp (ev σ) o).run P w=.ok (.enter f args) w) (a:Bj P f args w λv w'=>R v w'∧Ah w w'):Dn M P N o R σ w:=
 IE b (a.mono λ_ _ h=>⟨h.1,Ah.chg h.2⟩)
theorem Qx {d hs:Nat} {z:Value} {c:oG} (e:FP P t z) (b:z.cells=c) (a:hs<=w.heap.size):Dn M P N ⟨some d,.alloc t,ty,pos,af,g⟩ (OW t c hs) σ w:=by
 subst b;have hn:=New.mk' w z.cells t;exact BZ (v:=P6 w.heap.size 0) (by simp[execOp,Instr.alloc,e.run,newVar,newRow]) (Ah.chg hn.ext) ⟨_,O,hn.blk,a⟩
end
def bS (l:List UInt8):ByteArray:=⟨l.toArray⟩
theorem Zw (l m:List UInt8):bS l++bS m=bS (l++m):=by
 unfold bS;apply ByteArray.ext;simp
theorem TW (l:List UInt8):(bS l).size=l.length:=by simp[bS,ByteArray.size]
theorem Em {P:Program} {σ:CZ} {w:World} {dst:Option Tmp} {ty t t':TypeId} {pos:String} {af:Array Edge} {g:Option (Nat×Bool)} {x y:Operand} {l m n:List UInt8} (d:ev σ x=.string (bS l)) (c:ev σ y=.string (bS m)) (a:l++m=n) (hn:n.length<=1000000000):(execOp (ev σ) ⟨dst,.binOp .add t x y t',ty,pos,af,g⟩).run P w=.ok (.value (.string (bS n))) w:=by
 subst a;have b:((bS l).size:Int)+((bS m).size:Int)<=9223372036854775807:=by rw[TW,TW];rw[dN] at hn;omega
 simp only[execOp,d,c,eqGuard,binOp];simp[Op.stringOp,Zw,b]
end Go.Eng
namespace Go.Proofs
open Go Go.Eng Go.Sort Go.Lib
set_option maxRecDepth 100000
theorem Zv {l m:OZ} (h:bS l=bS m):l=m:=by
 unfold bS at h;have:=congrArg (λx=>x.data.toList) h;simpa using this
def Er (t:Re):ByteArray:=bS (I9 t)
def Dm (w:World):Prop:=∃t fr,w.heap[1]?=some (.cells (pow10Tab.map λz=>Value.int .u64 z).toArray t fr)
theorem Sq : prog.globalNamed "internal/strconv.uint64pow10" = some 1 := by kernel_rfl
theorem Dm.of {w : World} (h : TabIs prog w "internal/strconv.uint64pow10" .u64 pow10Tab) : Dm w := by
 unfold TabIs World.var? at h;rw[Sq,k_] at h;split at h
 .rename_i cs t fr hh
  cases h;exact ⟨t,fr,hh⟩
 .cases h
theorem Dm.tab {w : World} (h : Dm w) : TabIs prog w "internal/strconv.uint64pow10" .u64 pow10Tab := by
 obtain ⟨t,fr,a⟩:=h;unfold TabIs World.var?;rw[Sq,k_,a]
theorem Dm.lt {w:World} (h:Dm w):1<w.heap.size:=by
 obtain ⟨t,fr,a⟩:=h;exact (fT.1 a).1
theorem Dm.chg {M:oD} {w w':World} (h:Dm w) (c:Chg M w w') (a:¬M 1):Dm w':=by
 have b:=h.lt;obtain ⟨t,d,e⟩:=h;exact ⟨t,d,(c.blk _ b a).trans e⟩
theorem Dm.ext {w w':World} (h:Dm w) (c:Ah w w'):Dm w':=h.chg c λf=>f
theorem L_ (a:World) (n:Int) (h0:0<=n) (h1:n<=2000000) (b:Dm a):Bj prog 118 #[I6 n] a λv w=>v=.string (bS (itoa n))∧Ah a w:=by
 refine (Any.strconv_Itoa Tryz.itoaS n qO qO a b.tab).mono ?_;rintro e w' ⟨rfl,k,os,rfl⟩;refine ⟨_,O,O,Ah.of_below ?_ (by show a.drawn<=a.drawn+k;omega)⟩;exact below_grow _ _ (dU _) k os
def Z9 (t:Re):OZ:=((((([40]++itoa t.kind)++[32])++itoa t.mn)++[32])++itoa t.mx)
def Ou (t:Re) (j:Nat):OZ:=Z9 t++EH (t.set.take j)
def T_ (t:Re) (j:Nat):OZ:=(Z9 t++EH t.set)++DU (t.args.take j)
theorem Nd:∀(l m:List (Int×Int)),EH (l++m)=EH l++EH m
 | [],m=>rfl
 | p::l,m=>by rw[fH,EH,EH,Nd l m];simp
theorem KG:∀(l m:List Re),DU (l++m)=DU l++DU m
 | [],m=>by rw[fO,DU];rfl
 | p::l,m=>by rw[fH,DU,DU,KG l m];simp
theorem Vt {t:Re} {j:Nat} {p:Int×Int} (h:t.set[j]?=some p):Ou t j++((([32]++itoa p.1)++[45])++itoa p.2)=Ou t (j+1):=by
 unfold Ou;rw[eK,h,fL,Nd,EH,EH];simp
theorem Vs {t x:Re} {j:Nat} (h:t.args[j]?=some x):T_ t j++I9 x=T_ t (j+1):=by
 unfold T_;rw[eK,h,fL,KG,DU,DU];simp
theorem QA (t:Re):Ou t 0=Z9 t:=by unfold Ou;rw[iK,EH,gD]
theorem Vr (t:Re) {j:Nat} (h:j=t.set.length):Ou t j=T_ t 0:=by unfold Ou T_;rw[h,eE,iK,DU,gD]
theorem Ot (t:Re) {j:Nat} (h:j=t.args.length):T_ t j++[41]=I9 t:=by
 obtain ⟨k,s,a,m,x,g⟩:=t;unfold T_ Z9;rw[h,eE,I9];simp[Re.kind,Re.mn,Re.mx,Re.set,Re.args]
theorem IH {t:Re} (h:Au t):(0<=t.kind∧t.kind<=8)∧(0<=t.mn∧t.mn<=8)∧(0<=t.mx∧t.mx<=8)∧∀p∈t.set,(0<=p.1∧p.1<=1114111)∧(0<=p.2∧p.2<=1114111):=by
 have hn:=h.n;have hk:=hn.ks;refine ⟨qO,?_,?_,λp c=>?_⟩
 .by_cases a:t.kind=6
  .obtain ⟨y,_,_,_,d,b,e,_⟩:=hn.k6 a;omega
  .have:=hn.mm a;omega
 .by_cases a:t.kind=6
  .obtain ⟨y,_,_,_,d,b,e,_⟩:=hn.k6 a;omega
  .have:=hn.mm a;omega
 .by_cases b:t.kind=2
  .have:=(Dd (hn.k2 b).2).1.ok p c;unfold EA at this;omega
  .rw[hn.st b] at c;cases c
mutual
theorem J0:∀{t:Re},Au t->KY t
 | .mk k s a m x g,h=>by
  have b:=IH h;refine ⟨b.1.1,b.2.1.1,b.2.2.1.1,λp c=>?_,h.1.ng,LZ h.2⟩;have:=b.2.2.2 p c;exact ⟨this.1.1,this.2.1⟩
theorem LZ:∀{ts:List Re},Dt ts->Jp ts
 | [],_=>trivial
 | _::_,h=>⟨J0 h.1,LZ h.2⟩
end
theorem YB {t t':Re} (h:Au t) (a:Au t') (e:Er t=Er t'):t=t':=Vw (J0 h) (J0 a) (Zv e)
theorem TL:∀(k u:Nat),u<10 ^ (k+1)->(decDigits u).length<=k+1
 | 0,u,h=>by
  rw[decDigits,dif_pos (by simpa using h)];exact dU 1
 | k+1,u,h=>by
  rw[decDigits];split
  .simp
  .have a:u / 10<10 ^ (k+1):=by rw[Nat.pow_succ] at h;omega
   have h2:=TL k _ a;simp only[dN,jP];omega
theorem Es {n:Int} (h0:0<=n) (h:n<=2000000):(itoa n).length<=7:=by
 unfold itoa;rw[if_neg qO];exact TL 6 _ qO
theorem Nc:∀{l:List (Int×Int)},(∀p∈l,(0<=p.1∧p.1<=1114111)∧(0<=p.2∧p.2<=1114111))->(EH l).length<=16*l.length
 | [],_=>dR _
 | p::l,h=>by
  have a:=h p eJ;have h2:=Es a.1.1 qO;have h3:=Es a.2.1 qO;have h4:=Nc (l:=l) λq b=>h q (eP _ b);simp only[EH,d_,dN];omega
theorem Sw {t:Re} (h:Au t):(Z9 t).length<=24:=by
 obtain ⟨c,b,a,_⟩:=IH h;have h4:=Es c.1 qO;have h5:=Es b.1 qO;have h6:=Es a.1 qO;unfold Z9;simp only[dN,d_,fP];omega
theorem NL {t:Re} (h:Au t):t.set.length<=16:=by
 by_cases a:t.kind=2
 .exact (Dd (h.n.k2 a).2).2
 .rw[h.n.st a];exact dR _
theorem Sv {t:Re} (h:Au t) (j:Nat):(Ou t j).length<=280:=by
 have h1:=Sw h;have h2:=NL h;have a:=Nc (l:=t.set.take j) λp b=>(IH h).2.2.2 p (gP b);rw[gE] at a;unfold Ou;rw[dN];omega
mutual
theorem L6:∀{t:Re},Au t->(I9 t).length<=400*t.size
 | .mk k s a m x g,h=>by
  have h1:=Nf h.2;have b:=Sv h s.length;have e:=Ot (.mk k s a m x g) (j:=a.length) O;rw[<-e];unfold Ou at b;unfold T_;rw[show (Re.mk k s a m x g).args=a from O,show (Re.mk k s a m x g).set=s from rfl] at *;rw[eE] at *;simp only[dN,d_,fP,Re.size] at *;omega
theorem Nf:∀{ts:List Re},Dt ts->(DU ts).length<=400*Re.sizes ts
 | [],_=>dR _
 | t::ts,h=>by
  have h1:=L6 h.1;have h2:=Nf h.2;simp only[DU,dN,Re.sizes];omega
end
theorem YC {t:Re} (h:Au t) (j:Nat):(T_ t j).length<=400*t.size:=by
 have a:=L6 h;rw[<-Ot t (j:=t.args.length) rfl] at a;unfold T_ at *;rw[eE] at a;have h2:(DU (t.args.take j)).length<=(DU t.args).length:=by
  conv=>rhs;rw[<-fF j t.args,KG,dN]
  omega
 simp only[dN] at *;omega
theorem Vn:∀(n:Nat),n<=1000000->∀(t:Re) (z:World) (vs:n_),t.size<=n->Au t->Dm z->A3 z t vs->
 Bj prog 89 #[.agg vs.toArray] z λv w=>v=.string (Er t)∧Ah z w:=by
 intro n
 induction n with
 | zero=>intro _ t z vs hn;have:=t.size_pos;omega
 | succ n ih=>
 intro hnn t z vs hn hs N ht;have ht0:=ht;obtain ⟨sa,sc,aa,ac,rfl,T,hlen,L⟩:=ht.form;obtain ⟨R,Z,aj,ag⟩:=IH hs;have l1:=Es R.1 qO;have l2:=Es Z.1 qO;have l3:=Sw hs;have l4:=L6 hs;have l7:=NL hs;have l8:=Ch t;refine qR func89 O ntmps89 O (λE=>(AA (BC (v:=(.agg (R6 t sa sc aa ac))) (c:=(R6 t sa sc aa ac)) qD O O ?_)));intro r wr Nr;have E:=E.ext Nr.ext;have g:=Nr.blk;refine qA _ O (AB ?_);have hz_1:z.heap.size<=wr.heap.size:=E.size;have lz_1_br:r<wr.heap.size:=g.lt;refine AH ?_;obtain ⟨az,d⟩:∃Fs:List CW,Fs=[(eF (P6 r 0)),(eF (I6 t.kind)),(eF (.string (bS (itoa t.kind)))),(eF (.string (bS ([40]++itoa t.kind)))),(eF (.string (bS (([40]++itoa t.kind)++[32])))),(eF (P6 r 3)),(eF (I6 t.mn)),(eF (.string (bS (itoa t.mn)))),(eF (.string (bS ((([40]++itoa t.kind)++[32])++itoa t.mn)))),(eF (.string (bS (((([40]++itoa t.kind)++[32])++itoa t.mn)++[32])))),(eF (P6 r 4)),(eF (I6 t.mx)),(eF (.string (bS (itoa t.mx)))),(eF (.string (bS (Ou t 0)))),(eF undef)]:=⟨_,O⟩;refine EE (M6 []) [true,true,true,true,true,true,true,true,true,true,true,true,true,true,false] [14] [8,9,10,11,12,13,14,15,16,17,18,19,20,21,69] [[],[0],[1],[2],[3],[],[5],[2,6],[4,7],[8],[],[10],[7,11],[9,12],[]] [[],[0],[1,0],[2,1,0],[3,2,1,0],[],[5],[2,1,0,6,5],[4,3,2,1,0,7,6,5],[8,4,3,2,1,0,7,6,5],[],[10],[7,2,1,0,6,5,11,10],[9,8,4,3,2,1,0,7,6,5,12,11,10],[]] az d qK mixed qK qK qK qK ?_ ?_
 .intro wd q;refine qZ (λS f w' hi p X U V H=>?_) ?_
  .replace X:=Cq X;exact Ab (AQ (U 1 O) dI O Al O) O
  refine qZ (λS f w' hi p X U V H=>?_) ?_
  .replace X:=Cq X;have e8:=(H 0 O).2 8 _ O (by rw[d];rfl);exact Ab (AJ e8 Ag (((q.trans X).keep g).cell O)) O
  refine qZ (λS f w' hi p X U V H=>?_) ?_
  .replace X:=Cq X;have e9:=(H 1 O).2 9 _ O (by rw[d];rfl);exact D_ (AS nA kQ kQ (Ha e9)) ((L_ _ t.kind R.1 qO (N.ext (Ah.trans E (q.trans X)))).mono (λv w h=>h))
  refine qZ (λS f w' hi p X U V H=>?_) ?_
  .replace X:=Cq X;have a3:=(H 2 O).2 10 _ O (by rw[d];rfl);exact Ab (Em (n:=([40]++itoa t.kind)) O a3 O (by simp only[dN,d_,fP];omega)) O
  refine qZ (λS f w' hi p X U V H=>?_) ?_
  .replace X:=Cq X;have av:=(H 3 O).2 11 _ O (by rw[d];rfl);exact Ab (Em (n:=(([40]++itoa t.kind)++[32])) av O O (by simp only[dN,d_,fP];omega)) O
  refine qZ (λS f w' hi p X U V H=>?_) ?_
  .replace X:=Cq X;exact Ab (AQ (U 1 O) dI O Al O) O
  refine qZ (λS f w' hi p X U V H=>?_) ?_
  .replace X:=Cq X;have ad:=(H 5 O).2 13 _ O (by rw[d];rfl);exact Ab (AJ ad Ag (((q.trans X).keep g).cell O)) O
  refine qZ (λS f w' hi p X U V H=>?_) ?_
  .replace X:=Cq X;have ar:=(H 6 O).2 14 _ O (by rw[d];rfl);exact D_ (AS nA kQ kQ (Ha ar)) ((L_ _ t.mn Z.1 qO (N.ext (Ah.trans E (q.trans X)))).mono (λv w h=>h))
  refine qZ (λS f w' hi p X U V H=>?_) ?_
  .replace X:=Cq X;have aw:=(H 4 O).2 12 _ O (by rw[d];rfl);have a5:=(H 7 O).2 15 _ O (by rw[d];rfl);exact Ab (Em (n:=((([40]++itoa t.kind)++[32])++itoa t.mn)) aw a5 O (by simp only[dN,d_,fP];omega)) O
  refine qZ (λS f w' hi p X U V H=>?_) ?_
  .replace X:=Cq X;have au:=(H 8 O).2 16 _ O (by rw[d];rfl);exact Ab (Em (n:=(((([40]++itoa t.kind)++[32])++itoa t.mn)++[32])) au O O (by simp only[dN,d_,fP];omega)) O
  refine qZ (λS f w' hi p X U V H=>?_) ?_
  .replace X:=Cq X;exact Ab (AQ (U 1 O) dI O Al O) O
  refine qZ (λS f w' hi p X U V H=>?_) ?_
  .replace X:=Cq X;have al:=(H 10 O).2 18 _ O (by rw[d];rfl);exact Ab (AJ al Ag (((q.trans X).keep g).cell O)) O
  refine qZ (λS f w' hi p X U V H=>?_) ?_
  .replace X:=Cq X;have an:=(H 11 O).2 19 _ O (by rw[d];rfl);exact D_ (AS nA kQ kQ (Ha an)) ((L_ _ t.mx aj.1 qO (N.ext (Ah.trans E (q.trans X)))).mono (λv w h=>h))
  refine qZ (λS f w' hi p X U V H=>?_) ?_
  .replace X:=Cq X;have a6:=(H 9 O).2 17 _ O (by rw[d];rfl);have ay:=(H 12 O).2 20 _ O (by rw[d];rfl);exact Ab (Em (n:=Ou t 0) a6 ay (QA t).symm (by rw[QA];omega)) O
  refine DagStepsS.tail ?_;exact DagStepsS.nil
 .intro f wd1 w1 q M U H;have M:=M.mono (M':=Aj) (λy _ h=>by
   obtain ⟨j,hj,h⟩:=h;exact h.elim)
  have a4:=H 13 O 21 _ O (by rw[d];rfl);obtain ⟨j1,rfl⟩:=Ak.out (σ:=f) (l:=[(1,(P6 r 0)),(21,(.string (bS (Ou t 0))))]) ⟨U 1 O,a4,trivial⟩;clear U H;have g:=(q.trans M).keep g;have M:=q.trans M;have E:=E.ext M;refine qA _ O (AB (AC (AH (AA (qF r 0 1 O dI O Bc O (qV (AJ O Bf (g.cell O)) (qV (AT dS O) (qM _ O (AB (AW (Ax (λnn_ σ W2=>∃(k:Nat),(∃jj_,σ=BW jj_ [(1,(P6 r 0)),(23,(.slice sa t.set.length sc)),(24,(I6 (t.set.length:Int))),(25,(I6 (k:Int))),(3,(.string (bS (Ou t k))))])∧Chg Aj z W2∧BV W2 r (R6 t sa sc aa ac) 25∧(k<=t.set.length)∧nn_=t.set.length - k) (n:=t.set.length - 0) ?_ ?_)))))))))))
  .exact ⟨0,oH,E,g,dR _,O⟩
  .clear E g;rintro _ _ W2 ⟨k,⟨j2,rfl⟩,E,g,hk,rfl⟩;refine AA (qV (A6 O O) (AB (AH (qC O (λai=>?_) (λai=>?_)))))
   .obtain ⟨s,K⟩:=AU (l:=t.set) (i:=k) qO;have B:=ag s (dK K);have l5:=Es B.1.1 qO;have l6:=Es B.2.1 qO;obtain ⟨b,o,rfl,ap⟩:=BR T qO;refine AM (AC (AH (AW (AA (qV (AL (b:=b) (o:=o) (len:=t.set.length) (cap:=sc) (i:=k) (o':=o+k*2) O O O dS BL qO qO) (qV (AI O Dw BL O ((ap k s K).ext E)) (As (v:=(.agg #[(I6 s.1),(I6 s.2)])) (c:=#[(I6 s.1),(I6 s.2)]) (n:=2) qD Df O BL O O O qS ?_)))))));intro bz wz u;have Fz:=u.ge E;have G:=u.lt g;have g:=u.keep g;have E:=E.ext u.ext;have A:=u.blk;refine AB ?_;have hz_4:z.heap.size<=wz.heap.size:=E.size;have lz_4_br:r<wz.heap.size:=g.lt;have lz_4_bz:bz<wz.heap.size:=A.lt;obtain ⟨aq,e⟩:∃Fs:List CW,Fs=[(eF (.string (bS (Ou t k)))),(eF (P6 bz 0)),(eF (I6 s.1)),(eF (.string (bS (itoa s.1)))),(eF (.string (bS ([32]++itoa s.1)))),(eF (.string (bS (([32]++itoa s.1)++[45])))),(eF (P6 bz 1)),(eF (I6 s.2)),(eF (.string (bS (itoa s.2)))),(eF (.string (bS ((([32]++itoa s.1)++[45])++itoa s.2)))),(eF (.string (bS (Ou t (k+1))))),(eF undef)]:=⟨_,O⟩;refine EE (M6 []) [true,true,true,true,true,true,true,true,true,true,true,false] [11] [29,30,31,32,33,34,35,36,37,38,39,66] [[],[],[1],[2],[3],[4],[],[6],[3,7],[5,8],[0,9],[]] [[],[],[1],[2,1],[3,2,1],[4,3,2,1],[],[6],[3,2,1,7,6],[5,4,3,2,1,8,7,6],[0,9,5,4,3,2,1,8,7,6],[]] aq e qK mixed qK qK qK qK ?_ ?_
    .intro wd q;refine qZ (λS f w' hi p X U V H=>?_) ?_
     .replace X:=Cq X;exact Ab (Am (U 3 O)) O
     refine qZ (λS f w' hi p X U V H=>?_) ?_
     .replace X:=Cq X;exact Ab (AQ (U 5 O) eM O Al O) O
     refine qZ (λS f w' hi p X U V H=>?_) ?_
     .replace X:=Cq X;have af:=(H 1 O).2 30 _ O (by rw[e];rfl);exact Ab (AJ af Ag (((q.trans X).keep A).cell O)) O
     refine qZ (λS f w' hi p X U V H=>?_) ?_
     .replace X:=Cq X;have ax:=(H 2 O).2 31 _ O (by rw[e];rfl);exact D_ (AS nA kQ kQ (Ha ax)) ((L_ _ s.1 B.1.1 qO (N.ext (Ah.trans E (q.trans X)))).mono (λv w h=>h))
     refine qZ (λS f w' hi p X U V H=>?_) ?_
     .replace X:=Cq X;have ae:=(H 3 O).2 32 _ O (by rw[e];rfl);exact Ab (Em (n:=([32]++itoa s.1)) O ae O (by simp only[dN,d_,fP];omega)) O
     refine qZ (λS f w' hi p X U V H=>?_) ?_
     .replace X:=Cq X;have ak:=(H 4 O).2 33 _ O (by rw[e];rfl);exact Ab (Em (n:=(([32]++itoa s.1)++[45])) ak O O (by simp only[dN,d_,fP];omega)) O
     refine qZ (λS f w' hi p X U V H=>?_) ?_
     .replace X:=Cq X;exact Ab (AQ (U 5 O) eM O Al O) O
     refine qZ (λS f w' hi p X U V H=>?_) ?_
     .replace X:=Cq X;have a1:=(H 6 O).2 35 _ O (by rw[e];rfl);exact Ab (AJ a1 Ag (((q.trans X).keep A).cell O)) O
     refine qZ (λS f w' hi p X U V H=>?_) ?_
     .replace X:=Cq X;have ah:=(H 7 O).2 36 _ O (by rw[e];rfl);exact D_ (AS nA kQ kQ (Ha ah)) ((L_ _ s.2 B.2.1 qO (N.ext (Ah.trans E (q.trans X)))).mono (λv w h=>h))
     refine qZ (λS f w' hi p X U V H=>?_) ?_
     .replace X:=Cq X;have a7:=(H 5 O).2 34 _ O (by rw[e];rfl);have a8:=(H 8 O).2 37 _ O (by rw[e];rfl);exact Ab (Em (n:=((([32]++itoa s.1)++[45])++itoa s.2)) a7 a8 O (by simp only[dN,d_,fP];omega)) O
     refine qZ (λS f w' hi p X U V H=>?_) ?_
     .replace X:=Cq X;have am:=(H 0 O).2 29 _ O (by rw[e];rfl);have a2:=(H 9 O).2 38 _ O (by rw[e];rfl);exact Ab (Em (n:=Ou t (k+1)) am a2 (Vt K) (by have:=Sv hs (k+1);omega)) O
     refine DagStepsS.tail ?_;exact DagStepsS.nil
    .intro f wd4 w4 q F U H;have F:=F.mono (M':=Aj) (λy _ h=>by
      obtain ⟨j,hj,h⟩:=h;exact h.elim)
     have a0:=H 10 O 39 _ O (by rw[e];rfl);obtain ⟨j4,rfl⟩:=Ak.out (σ:=f) (l:=[(1,(P6 r 0)),(23,(.slice (oI b o) t.set.length sc)),(24,(I6 ((t.set.length:Nat):Int))),(25,(I6 ((k:Nat):Int))),(39,(.string (bS (Ou t (k+1)))))]) ⟨U 1 O,U 23 O,U 24 O,U 25 O,a0,trivial⟩;clear U H;have g:=(q.trans F).keep g;have A:=(q.trans F).keep A;have F:=q.trans F;have E:=E.ext F;refine qA _ O (AB (AV (AC (AN (qV (A0 O O (A8 qO)) (qM _ O (AB (AC ?_))))))));exact ⟨t.set.length - (k+1),qO,k+1,oH,E,g,qO,O⟩
   .refine Av (AZ (AZ (Ao (AC (AH (AA (qF r 0 2 O dI O BF O (qV (AJ O A9 (g.cell O)) (qV (AT dJ O) (qM _ O (AB (AW (Ax (λnn_ σ W5=>∃(j:Nat) (l:OZ),(∃jj_,σ=BW jj_ [(42,(.slice aa t.args.length ac)),(43,(I6 (t.args.length:Int))),(44,(I6 (j:Int))),(3,(.string (bS l)))])∧Chg Aj z W5∧BV W5 r (R6 t sa sc aa ac) 25∧(j<=t.args.length)∧(l=T_ t j)∧nn_=t.args.length - j) (n:=t.args.length - 0) ?_ ?_)))))))))))))
    .exact ⟨0,Ou t k,oH,E,g,dR _,Vr t qO,O⟩
    .clear E g;rintro _ _ W5 ⟨j,l,⟨j5,rfl⟩,E,g,hj,hl,rfl⟩;refine AA (qV (A6 O O) (AB (AH (qC O (λP=>?_) (λP=>?_)))))
     .obtain ⟨x,hx⟩:=AU (l:=t.args) (i:=j) qO;obtain ⟨b,o,rfl,ab⟩:=EV L qO;obtain ⟨us,ao,Q⟩:=ab.get hx;have W:=Q;obtain ⟨I,D,C,J,rfl,_,_,_⟩:=Q.form;have hxz:=Re.size_arg hx;refine AM (AC (AH (AW (AA (qV (AL (b:=b) (o:=o) (len:=t.args.length) (cap:=ac) (i:=j) (o':=o+j*6) O O O dJ AG qO qO) (qV (AI O Ad AG O (ao.ext E)) (As (v:=(.agg (R6 x I D C J))) (c:=(R6 x I D C J)) (n:=6) qD A1 O AG O O O qS ?_)))))));intro bz wz u;have Fz:=u.ge E;have G:=u.lt g;have E:=E.ext u.ext;have A:=u.blk;refine AB (AN (qM _ O (qV (AI (vs:=(oJ x I D C J)) O Ad AG O (A.cells O)) (qE O (AS func89 kQ kQ O) (ih qO x _ _ qO (hs.a x (dK hx)) (N.ext E) (A3.ext E x W)) ?_))));rintro _ w9 ⟨rfl,X9⟩;have g:=X9.keep (u.keep g);have A:=X9.keep A;have E:=E.ext X9;refine qV (Em (l:=l) (m:=I9 x) (n:=T_ t (j+1)) O O (by rw[hl];exact Vs hx) (by have:=YC hs (j+1);omega)) (qA _ O (AB (AV (AC (AN (qV (A0 O O (A8 qO)) (qM _ O (AB (AC ?_)))))))));exact ⟨t.args.length - (j+1),qO,j+1,T_ t (j+1),oH,E,g,qO,O,O⟩
     .refine Av (AZ (AZ (Ao (AC (AA (qM _ O (qV (Em (l:=l) (m:=[41]) (n:=I9 t) O O (by rw[hl];exact Ot t qO) qO) (qA _ O (AB (AO (AY results89 (v:=(.string (Er t))) O ?_)))))))))));exact ⟨O,E⟩
end Go.Proofs
namespace Go.Eng
open Go
section
variable {κ ν : Type} [DecidableEq κ]
def C_:List (κ×ν)->κ->Option ν
  | [],_=>none
  | p::r,k=>if p.1=k then some p.2 else C_ r k
def C4:List (κ×ν)->κ->ν->List (κ×ν)
  | [],k,v=>[(k,v)]
  | p::r,k,v=>if p.1=k then (k,v)::r else p::C4 r k v
def Im (eV:ν->Value):List (κ×ν)->κ->Nat->Option (Nat×Value)
  | [],_,_=>none
  | p::r,k,i=>if p.1=k then some (i,eV p.2) else Im eV r k (i+1)
theorem JA {eV:ν->Value}:∀{es:List (κ×ν)} {k:κ} {i:Nat},C_ es k=none->Im eV es k i=none
 | [],_,_,_=>rfl
 | p::r,k,i,h=>by
  unfold C_ at h;unfold Im;split at h
  .cases h
  .rename_i a;rw[if_neg a];exact JA h
theorem GT {eV:ν->Value}:∀{es:List (κ×ν)} {k:κ} {i:Nat} {v:ν},C_ es k=some v->∃j,Im eV es k i=some (i+j,eV v)∧es[j]?=some (k,v)∧∀u,C4 es k u=es.set j (k,u)
 | [],_,_,_,h=>by cases h
 | p::r,k,i,v,h=>by
  unfold C_ at h;unfold Im;split at h
  .rename_i d
   cases h;rw[if_pos d];exact ⟨0,O,by obtain ⟨a,b⟩:=p;simp at d;subst d;rfl,λu=>by unfold C4;rw[if_pos d];rfl⟩
  .rename_i c
   rw[if_neg c];obtain ⟨j,e,g,f⟩:=GT (eV:=eV) (i:=i+1) h;exact ⟨j+1,by rw[e];congr 2;omega,by simpa using g,λu=>by unfold C4;rw[if_neg c,f u];rfl⟩
theorem E_:∀{es:List (κ×ν)} {k:κ} (v:ν),C_ es k=none->C4 es k v=es++[(k,v)]
 | [],_,_,_=>rfl
 | p::r,k,v,h=>by
  unfold C_ at h;unfold C4;split at h
  .cases h
  .rename_i a;rw[if_neg a,E_ v h];rfl
theorem JY (es:List (κ×ν)) (k:κ) (v:ν) (q:κ):C_ (C4 es k v) q=if k=q then some v else C_ es q:=by
 induction es with
 | nil=>unfold C4 C_ C_;rfl
 | cons p r ih=>
  unfold C4;split
  .rename_i b
   unfold C_;by_cases h:k=q
   .rw[if_pos h,if_pos h]
   .rw[if_neg h,if_neg h,if_neg (by rw[b];exact h)]
  .rename_i a
   unfold C_;rw[ih];by_cases h:k=q
   .rw[if_pos h,if_neg (by rw[<-h];exact a),if_pos h]
   .rw[if_neg h,if_neg h]
theorem Il {es:List (κ×ν)} {k:κ} {v:ν} (h:C_ es k=some v):(k,v)∈es:=by
 obtain ⟨j,_,a,_⟩:=GT (eV:=λ_=>undef) (i:=0) h;exact dK a
theorem Gn {es:List (κ×ν)} {k:κ}:(C_ es k).isSome=true↔k∈es.map (·.1):=by
 induction es with
 | nil=>simp[C_]
 | cons p r ih=>
  unfold C_;by_cases h:p.1=k
  .simp[h]
  .rw[if_neg h,ih];simp[Ne.symm h]
def Ge (es:List (κ×ν)):Prop:=(es.map (·.1)).Nodup
omit [DecidableEq κ] in
theorem Ge.nil:Ge ([]:List (κ×ν)):=g_
theorem Ge.put {es:List (κ×ν)} (h:Ge es) (k:κ) (v:ν):Ge (C4 es k v):=by
 cases hg:C_ es k with
 | none=>
  rw[E_ v hg];unfold Ge;rw[eT,gN];refine ⟨h,qP,λa f b hb=>?_⟩;simp at hb;subst hb;intro g;subst g;have:=Gn.2 f;rw[hg] at this;cases this
 | some u=>
  obtain ⟨j,_,d,e⟩:=GT (eV:=λ_=>undef) (i:=0) hg;rw[e v];unfold Ge;have:(es.set j (k,v)).map (·.1)=es.map (·.1):=by
   apply fW;intro i;rw[eN,eN,fG];by_cases hi:j=i
   .subst hi;have c:=AX d;rw[if_pos O,if_pos c,d];rfl
   .simp[hi]
  rw[this];exact h
end
def EL {κ ν:Type} (ek:κ->Value) (eV:ν->Value) (es:List (κ×ν)):List MapEntry:=es.zipIdx.map λp=>{key:=ek p.1.1,val:=eV p.1.2,born:=p.2}
def Bl {κ ν:Type} (w:World) (b:Nat) (ek:κ->Value) (eV:ν->Value) (es:List (κ×ν)):Prop:=w.heap[b]?=some (.map (EL ek eV es).toArray es.length)
theorem Jc {κ ν:Type} (ek:κ->Value) (eV:ν->Value) (es:List (κ×ν)):(EL ek eV es).length=es.length:=by simp[EL]
theorem FZ {κ ν:Type} {ek:κ->Value} {eV:ν->Value} {es:List (κ×ν)} {i:Nat}:(EL ek eV es)[i]?=(es[i]?).map λp=>{key:=ek p.1,val:=eV p.2,born:=i}:=by
 unfold EL;rw[eN,List.getElem?_zipIdx];cases es[i]?<;>simp
theorem TJ {κ ν:Type} (ek:κ->Value) (eV:ν->Value) (es:List (κ×ν)):(EL ek eV es).map (λe=>(e.key,e.val))=es.map λp=>(ek p.1,eV p.2):=by
 apply fW;intro i;rw[eN,FZ,eN];cases es[i]?<;>rfl
section
variable {κ ν : Type} {ek : κ → Value} {eV : ν → Value} {es : List (κ × ν)} {w w' : World} {b : Nat}
theorem Bl.lt (h:Bl w b ek eV es):b<w.heap.size:=(fT.1 h).1
theorem Chg.keepM {M:oD} (h:Chg M w w') (a:¬M b) (hb:Bl w b ek eV es):Bl w' b ek eV es:=(h.blk b hb.lt a).trans hb
theorem Ah.keepM (h:Ah w w') (hb:Bl w b ek eV es):Bl w' b ek eV es:=Chg.keepM h (λf=>f) hb
theorem New.keepM {n:Nat} {c:oG} {t:TypeId} (h:New w w' n c t) (hb:Bl w b ek eV es):Bl w' b ek eV es:=h.ext.keepM hb
theorem New.ltM {n:Nat} {c:oG} {t:TypeId} (h:New w w' n c t) (hb:Bl w b ek eV es):b<n:=by rw[h.eq];exact hb.lt
theorem Put.keepM {n:Nat} {c:oG} {t:TypeId} (h:Put w w' n c t) (a:b≠n) (hb:Bl w b ek eV es):Bl w' b ek eV es:=h.chg.keepM a hb
end
structure NewO (w w':World) (b:Nat) (o:Obj):Prop where
 at':w'.heap[b]?=some o
 ext:Ah w w'
 eq:b=w.heap.size
 size:w'.heap.size=w.heap.size+1
theorem NewO.mk' (w:World) (o:Obj):NewO w {w with heap:=w.heap.push o} w.heap.size o:=
 ⟨qP,⟨O,O,O,dU _,qP,λx a _=>by simp[nM,Nat.ne_of_lt a]⟩,O,qP⟩
section
variable {w w' : World} {b : Nat} {o : Obj}
theorem NewO.keep (h:NewO w w' b o) {b':Nat} {c':oG} {t':TypeId} (hb:BV w b' c' t'):BV w' b' c' t':=h.ext.keep hb
theorem NewO.lt (h:NewO w w' b o) {b':Nat} {c':oG} {t':TypeId} (hb:BV w b' c' t'):b'<b:=by rw[h.eq];exact hb.lt
theorem NewO.ge (h:NewO w w' b o) {a:World} {M:oD} (e:Chg M a w):a.heap.size<=b:=by rw[h.eq];exact e.size
variable {κ ν : Type} {ek : κ → Value} {eV : ν → Value} {es : List (κ × ν)} {b' : Nat}
theorem NewO.keepM (h:NewO w w' b o) (hb:Bl w b' ek eV es):Bl w' b' ek eV es:=h.ext.keepM hb
theorem NewO.ltM (h:NewO w w' b o) (hb:Bl w b' ek eV es):b'<b:=by rw[h.eq];exact hb.lt
end
structure PutO (w w':World) (b:Nat) (o:Obj):Prop where
 at':w'.heap[b]?=some o
 chg:Chg (λx=>x=b) w w'
 size:w'.heap.size=w.heap.size
theorem PutO.mk' {w:World} {b:Nat} (o:Obj) (hb:b<w.heap.size):PutO w {w with heap:=w.heap.setIfInBounds b o} b o:=
 ⟨by simp[hb],⟨O,O,O,dU _,qP,λx hx a=>by simp[lT,Ne.symm a]⟩,qP⟩
section
variable {w w' : World} {b : Nat} {o : Obj}
theorem PutO.keep (h:PutO w w' b o) {b':Nat} {c':oG} {t':TypeId} (a:b'≠b) (hb:BV w b' c' t'):BV w' b' c' t':=h.chg.keep a hb
theorem PutO.step (h:PutO w w' b o) {a:World} {M:oD} (e:Chg M a w) (hb:a.heap.size<=b∨M b):Chg M a w':=
 e.step h.chg λx hx c=>by subst c;rcases hb with hb|hb;omega;exact hb
variable {κ ν : Type} {ek : κ → Value} {eV : ν → Value} {es : List (κ × ν)} {b' : Nat}
theorem PutO.keepM (h:PutO w w' b o) (a:b'≠b) (hb:Bl w b' ek eV es):Bl w' b' ek eV es:=h.chg.keepM a hb
end
structure KeyOk (P:Program) (kt:TypeId) {κ:Type} [DecidableEq κ] (ek:κ->Value):Prop where
 check:∀(b:Bool) (w:World) (k:κ),(Instr.checkKey b 10000 kt (ek k)).run P w=.ok () w
 find:∀(ν:Type) (w:World) (k:κ) (es:List (κ×ν)) (eV:ν->Value) (L:List MapEntry),L.map (λe=>(e.key,e.val))=es.map (λp=>(ek p.1,eV p.2))->(Instr.findKey kt (ek k) L).run P w=.ok (Im eV es k 0) w
 same:∀k,Instr.sameBits 10000 (ek k) (ek k)=true
def Eh (x:Int):Value:=I6 x
def EK (s:ByteArray):Value:=.string s
def S0 (x:Bool):Value:=.bool x
theorem L7 {P:Program} {kt:TypeId} (d:P.underlying kt=some (.int .i64)):KeyOk P kt Eh where
 check:=λb w k=>by rw[show (10000:Nat)=9999+1 from O,Instr.checkKey];simp only[Sem.run_bind,run_underlying d,Result.andThen_ok,Eh];rfl
 find:=λν w k es eV L g=>by
  have c:∀(L:List MapEntry) (es:List (Int×ν)) (i:Nat),L.map (λe=>(e.key,e.val))=es.map (λp=>(Eh p.1,eV p.2))->Instr.findNow (.int .i64) (Eh k) L i=some (Im eV es k i):=by
   intro L
   induction L with
   | nil=>
    intro es i h;cases es with
    | nil=>rfl
    | cons _ _=>simp at h
   | cons e L ih=>
    intro es i h;cases es with
    | nil=>simp at h
    | cons p es=>
     simp only[gK,fV,nL] at h;obtain ⟨⟨l,j⟩,f⟩:=h;unfold Instr.findNow Im;rw[l];simp only[Eh,Instr.sameNow,if_true];by_cases a:p.1=k
     .rw[if_pos a,a];simp[j]
     .have:(k == p.1)=false:=by simp;exact λh=>a h.symm
      rw[if_neg a,this];exact ih es (i+1) f
  simp[Instr.findKey,run_underlying d,c L es 0 g]
 same:=λk=>by unfold Eh;rw[Instr.sameBits];simp
theorem H0 {P:Program} {kt:TypeId} (d:P.underlying kt=some .string):KeyOk P kt EK where
 check:=λb w k=>by rw[show (10000:Nat)=9999+1 from O,Instr.checkKey];simp only[Sem.run_bind,run_underlying d,Result.andThen_ok,EK];rfl
 find:=λν w k es eV L g=>by
  have c:∀(L:List MapEntry) (es:List (ByteArray×ν)) (i:Nat),L.map (λe=>(e.key,e.val))=es.map (λp=>(EK p.1,eV p.2))->Instr.findNow .string (EK k) L i=some (Im eV es k i):=by
   intro L
   induction L with
   | nil=>
    intro es i h;cases es with
    | nil=>rfl
    | cons _ _=>simp at h
   | cons e L ih=>
    intro es i h;cases es with
    | nil=>simp at h
    | cons p es=>
     simp only[gK,fV,nL] at h;obtain ⟨⟨l,j⟩,f⟩:=h;unfold Instr.findNow Im;rw[l];simp only[EK,Instr.sameNow];by_cases a:p.1=k
     .rw[if_pos a,a,(MapKept.bytes_beq k k).2 rfl];simp[j]
     .have:(k == p.1)=false:=by rw[kR];exact λh=>a ((MapKept.bytes_beq _ _).1 h).symm
      rw[if_neg a,this];exact ih es (i+1) f
  simp[Instr.findKey,run_underlying d,c L es 0 g]
 same:=λk=>by unfold EK;rw[Instr.sameBits];exact (MapKept.bytes_beq k k).2 O
section
variable {P : Program} {N : Nat} {Q : EF} {σ : CZ} {w : World} {K : CZ → World → Prop} {ops : Array Oper} {rest : List Oper} {d : Nat} {ty : TypeId} {pos : String} {af : Array Edge} {g : Option (Nat × Bool)} {dst : Option Tmp} {t kt et : TypeId} {m x y : Operand} {b : Nat}
variable {κ ν : Type} [DecidableEq κ] {ek : κ → Value} {eV : ν → Value} {es : List (κ × ν)} {k : κ} {v : ν}
omit [DecidableEq κ] in
theorem G9 (ek:κ->Value) (eV:ν->Value) (a:d<N) (c:∀b w',NewO w w' b (.map #[] 0)->Bl w' b ek eV []->Dp P N ops K Q rest (Of σ d (.map (some b))) w') :
 Dp P N ops K Q (⟨some d,.makeMap t none,ty,pos,af,none⟩::rest) σ w:=by
 refine CM (v:=.map (some w.heap.size)) (w':={w with heap:=w.heap.push (.map #[] 0)}) O O a ?_ (c _ _ (NewO.mk' w _) (NewO.mk' w _).at');simp[execOp,Instr.makeMap]
theorem Ik (g:P.underlying t=some (.map kt et)) (d:KeyOk P kt ek) (a:Bl w b ek eV es) :
 (Instr.mapUpdate t (.map (some b)) (ek k) (eV v)).run P w=.ok () {w with heap:=w.heap.setIfInBounds b (.map (EL ek eV (C4 es k v)).toArray (C4 es k v).length)}:=by
 have hlt:=a.lt;unfold Bl at a;have h:(getObj b).run P w=.ok (.map (EL ek eV es).toArray es.length) w:=by simp[getObj,Sem.run,a]
 have hs:∀o,(setObj b o).run P w=.ok () {w with heap:=w.heap.setIfInBounds b o}:=λo=>by simp[setObj,Sem.run,a]
 have n:=d.find ν w k es eV (EL ek eV es) (TJ ek eV es);simp only[Instr.mapUpdate,Sem.run_bind,run_underlying g,Result.andThen_ok,h,d.check,n];cases hgm:C_ es k with
 | none=>
  rw[JA hgm];simp only[hs];congr 4
  .apply iJ;rw[E_ v hgm];simp[EL,List.zipIdx_append]
  .rw[E_ v hgm];simp
 | some u=>
  obtain ⟨j,e,c,f⟩:=GT (eV:=eV) (i:=0) hgm;rw[eO] at e;rw[e];have m:=AX c;have l:(EL ek eV es).toArray[j]?=some {key:=ek k,val:=eV u,born:=j}:=by rw[lG,FZ,c];rfl
  simp only[l,iF,eL,Instr.keyThatStays,d.same,if_true,Sem.run_bind,Sem.run_pure,Result.andThen_ok,hs];congr 4
  .apply iJ;rw[f v];apply fW;intro i;rw[lG.symm.trans (by rfl)]<;>simp only[gC,iV,lG,FZ,fG];by_cases hi:j=i
   .subst hi;simp[c,m]
   .simp[hi]
  .rw[f v];simp
theorem Ea (i:P.underlying t=some (.map kt et)) (g:KeyOk P kt ek) (a:Bl w b ek eV es) (h:ev σ m=.map (some b)) (e:ev σ x=ek k) (c:ev σ y=eV v)
 (d:∀w',PutO w w' b (.map (EL ek eV (C4 es k v)).toArray (C4 es k v).length)->Bl w' b ek eV (C4 es k v)->Dp P N ops K Q rest σ w') :
 Dp P N ops K Q (⟨none,.mapUpdate t m x y,ty,pos,af,none⟩::rest) σ w:=by
 have f:=Ik (k:=k) (v:=v) i g a;refine H_ O O (w':={w with heap:=w.heap.setIfInBounds b (.map (EL ek eV (C4 es k v)).toArray (C4 es k v).length)}) ?_ (d _ (PutO.mk' _ a.lt) (PutO.mk' _ a.lt).at');simp[execOp,h,e,c,f]
theorem VB (i:P.underlying t=some (.map kt et)) (g:KeyOk P kt ek) (a:Bl w b ek eV es) (h:ev σ m=.map (some b)) (e:ev σ x=ek k) (c:ev σ y=eV v)
 (d:∀w',PutO w w' b (.map (EL ek eV (C4 es k v)).toArray (C4 es k v).length)->Bl w' b ek eV (C4 es k v)->Dp P N ops K Q rest σ w') :
 Dp P N ops K Q (⟨none,.insert t m x y,ty,pos,af,none⟩::rest) σ w:=by
 have f:=Ik (k:=k) (v:=v) i g a;refine H_ O O (w':={w with heap:=w.heap.setIfInBounds b (.map (EL ek eV (C4 es k v)).toArray (C4 es k v).length)}) ?_ (d _ (PutO.mk' _ a.lt) (PutO.mk' _ a.lt).at');simp[execOp,h,e,c,f]
theorem Le (c:Bool) {z:ν} (f:P.underlying t=some (.map kt et)) (d:KeyOk P kt ek) (h:FP P et (eV z)) (a:Bl w b ek eV es) :
 (Instr.lookup t (.map (some b)) (ek k) c).run P w=.ok (if c then .tuple #[eV ((C_ es k).getD z),.bool (C_ es k).isSome] else eV ((C_ es k).getD z)) w:=by
 unfold Bl at a;have g:(getObj b).run P w=.ok (.map (EL ek eV es).toArray es.length) w:=by simp[getObj,Sem.run,a]
 have l:=d.find ν w k es eV (EL ek eV es) (TJ ek eV es);simp only[Instr.lookup,Sem.run_bind,run_underlying f,Result.andThen_ok,g,Sem.run_pure,d.check,l];cases hgm:C_ es k with
 | none=>rw[JA hgm];simp[h.run]
 | some u=>
  obtain ⟨j,e,_,_⟩:=GT (eV:=eV) (i:=0) hgm;rw[e];simp
theorem JL {z:ν} (d:P.underlying t=some (.map kt et)) (f:KeyOk P kt ek) (h:FP P et (eV z)) (e:Bl w b ek eV es) (c:ev σ m=.map (some b)) (a:ev σ x=ek k) :
 (execOp (ev σ) ⟨dst,.lookup t m x false,ty,pos,af,g⟩).run P w=.ok (.value (eV ((C_ es k).getD z))) w:=by
 simp[execOp,c,a,Le false d f h e]
theorem NR {z:ν} (d:P.underlying t=some (.map kt et)) (f:KeyOk P kt ek) (h:FP P et (eV z)) (e:Bl w b ek eV es) (c:ev σ m=.map (some b)) (a:ev σ x=ek k) :
 (execOp (ev σ) ⟨dst,.lookup t m x true,ty,pos,af,g⟩).run P w=.ok (.value (.tuple #[eV ((C_ es k).getD z),.bool (C_ es k).isSome])) w:=by
 simp[execOp,c,a,Le true d f h e]
omit [DecidableEq κ] in
theorem Pf (e:P.underlying t=some (.map kt et)) (a:Bl w b ek eV es) (c:ev σ m=.map (some b)) :
 (execOp (ev σ) ⟨dst,.call ⟨.builtin .len,#[m],#[t]⟩,ty,pos,af,g⟩).run P w=.ok (.value (I6 es.length)) w:=by
 unfold Bl at a;have d:(getObj b).run P w=.ok (.map (EL ek eV es).toArray es.length) w:=by simp[getObj,Sem.run,a]
 simp[execOp,resolve,c,invoke,builtin,Builtin.len_,run_underlying e,d,goInt,Jc]
end
def Cj (w:World) (it b n:Nat) (seen:oC):Prop:=w.heap[it]?=some (.mapIter (some b) n seen.toArray n)
theorem Cj.lt {w:World} {it b n:Nat} {seen:oC} (h:Cj w it b n seen):it<w.heap.size:=(fT.1 h).1
theorem Cj.chg {M:oD} {w w':World} {it b n:Nat} {seen:oC} (h:Cj w it b n seen) (c:Chg M w w') (a:¬M it):Cj w' it b n seen:=(c.blk it h.lt a).trans h
theorem Cj.ext {w w':World} {it b n:Nat} {seen:oC} (h:Cj w it b n seen) (c:Ah w w'):Cj w' it b n seen:=h.chg c λf=>f
section
variable {w w' : World} {it b n : Nat} {seen : List Nat} (hb : Cj w it b n seen)
include hb
theorem Chg.keepI {M:oD} (h:Chg M w w') (a:¬M it):Cj w' it b n seen:=hb.chg h a
theorem Ah.keepI (h:Ah w w'):Cj w' it b n seen:=hb.ext h
theorem New.keepI {q:Nat} {c:oG} {t:TypeId} (h:New w w' q c t):Cj w' it b n seen:=hb.ext h.ext
theorem New.ltI {q:Nat} {c:oG} {t:TypeId} (h:New w w' q c t):it<q:=by rw[h.eq];exact hb.lt
theorem PutO.keepI {q:Nat} {o:Obj} (h:PutO w w' q o) (a:it≠q):Cj w' it b n seen:=hb.chg h.chg a
end
section
variable {P : Program} {N : Nat} {Q : EF} {σ : CZ} {w : World} {K : CZ → World → Prop} {ops : Array Oper} {rest : List Oper} {d : Nat} {ty : TypeId} {pos : String} {af : Array Edge} {g : Option (Nat × Bool)} {dst : Option Tmp} {t kt et : TypeId} {x : Operand} {b it : Nat}
variable {κ ν : Type} {ek : κ → Value} {eV : ν → Value} {es : List (κ × ν)} {seen : List Nat}
theorem Sc (f:d<N) (e:P.underlying t=some (.map kt et)) (a:Bl w b ek eV es) (c:ev σ x=.map (some b))
 (g:∀it w',NewO w w' it (.mapIter (some b) es.length #[] es.length)->Dp P N ops K Q rest (Of σ d (P6 it 0)) w') :
 Dp P N ops K Q (⟨some d,.range t x,ty,pos,af,none⟩::rest) σ w:=by
 unfold Bl at a;have h:(getObj b).run P w=.ok (.map (EL ek eV es).toArray es.length) w:=by simp[getObj,Sem.run,a]
 refine CM (v:=P6 w.heap.size 0) (w':={w with heap:=w.heap.push (.mapIter (some b) es.length #[] es.length)}) O O f ?_ (g _ _ (NewO.mk' w _));simp[execOp,c,Instr.range,run_underlying e,h]
theorem KQ {e:MapEntry} (h:e∈EL ek eV es):∃p,es[e.born]?=some p∧e.key=ek p.1∧e.val=eV p.2:=by
 obtain ⟨i,hi⟩:=eS.1 h;rw[FZ] at hi;cases hp:es[i]? with
 | none=>rw[hp] at hi;cases hi
 | some p=>
  rw[hp] at hi;simp at hi;subst hi;exact ⟨p,hp,O,O⟩
theorem VA (hN:d<N) (hm:Bl w b ek eV es) (hi:Cj w it b es.length seen) (h1:ev σ x=P6 it 0)
 (k1:(∀i,i<es.length->i∈seen)->Dp P N ops K Q rest (Of σ d (.tuple #[.bool false])) w)
 (k2:∀i p w',es[i]?=some p->i∉seen->PutO w w' it (.mapIter (some b) es.length (seen++[i]).toArray es.length)->Dp P N ops K Q rest (Of σ d (.tuple #[.bool true,ek p.1,eV p.2])) w') :
 Dp P N ops K Q (⟨some d,.next x false,ty,pos,af,none⟩::rest) σ w:=by
 have au:=hi.lt;have am:(getObj b).run P w=.ok (.map (EL ek eV es).toArray es.length) w:=by unfold Bl at hm;simp[getObj,Sem.run,hm]
 have an:(getObj it).run P w=.ok (.mapIter (some b) es.length seen.toArray es.length) w:=by unfold Cj at hi;simp[getObj,Sem.run,hi]
 have ai:((!seen.toArray.isEmpty && !(EL ek eV es).toArray.isEmpty) && (EL ek eV es).toArray.all (λe=>decide (e.born ≥ es.length)))=false:=by
  cases es with
  | nil=>simp[EL]
  | cons p r=>
   have ap:({key:=ek p.1,val:=eV p.2,born:=0}:MapEntry)∈EL ek eV (p::r):=dK (i:=0) (by rw[FZ];rfl);have:(EL ek eV (p::r)).toArray.all (λe=>decide (e.born ≥ (p::r).length))=false:=by
    rw[List.all_toArray,List.all_eq_false];exact ⟨_,ap,qP⟩
   rw[this,Bool.and_false]
 obtain ⟨aa,ab⟩:∃aa,aa=(EL ek eV es).toArray.filter λe=>!seen.toArray.contains e.born:=⟨_,O⟩;have ac:∀e,e∈aa->e∈EL ek eV es∧e.born∉seen:=λe he=>by rw[ab] at he;simpa using he
 have ae:aa.filter (λe=>decide (e.born<es.length))=aa:=by
  rw[Array.filter_eq_self];intro e he;obtain ⟨p,hp,_⟩:=KQ (ac e he).1;simpa using AX hp
 have ad:aa.filter (λe=>decide (e.born ≥ es.length))=#[]:=by
  rw[Array.filter_eq_empty_iff];intro e he;obtain ⟨p,hp,_⟩:=KQ (ac e he).1;have:=AX hp;simp;omega
 by_cases hemp:aa=#[]
 .have av:=k1 λi ax=>by
   by_cases hin:i∈seen
   .exact hin
   .exfalso;obtain ⟨p,hp⟩:∃p,es[i]?=some p:=⟨_,dM ax⟩;have he:({key:=ek p.1,val:=eV p.2,born:=i}:MapEntry)∈EL ek eV es:=dK (i:=i) (by rw[FZ,hp];rfl);have:({key:=ek p.1,val:=eV p.2,born:=i}:MapEntry)∈aa:=by rw[ab];simpa using ⟨he,hin⟩
    rw[hemp] at this;simp at this
  refine CM (v:=.tuple #[.bool false]) (w':=w) O O hN ?_ av;have az:Question.forced (.mapNext 1)=true:=rfl;have ak:(choose (.mapNext 1)).run P w=.ok 0 w:=by simp[choose,Sem.run,az]
  simp only[execOp,h1,Instr.next,Sem.run_bind,an,Result.andThen_ok,am,ai,gW,if_false,Sem.run_pure,<-ab,ae,ad,hemp];have ar:Array.filter (λx:MapEntry=>decide (x.born<es.length)) #[]=#[]:=qP
  have aq:Array.filter (λx:MapEntry=>decide (x.born ≥ es.length)) #[]=#[]:=qP
  have a2:((if (#[]:Array MapEntry).isEmpty=true then #[none] else #[])++Array.map some ((#[]:Array MapEntry)++#[]):Array (Option MapEntry))=#[none]:=qP
  simp only[ar,aq,a2];rw[show (#[none]:Array (Option MapEntry)).size=1 from O,ak];rfl
 .have ao:0<aa.size:=by rcases gO aa.size with h|h;exact absurd (Array.eq_empty_of_size_eq_zero h) hemp;exact h
  have ag:aa.isEmpty=false:=by simpa using hemp
  obtain ⟨j,dr,hj,ak⟩:∃j dr,j<aa.size∧(choose (.mapNext aa.size)).run P w=.ok j {w with drawn:=w.drawn+dr}:=by
   by_cases hf:Question.forced (.mapNext aa.size)=true
   .exact ⟨0,0,ao,by simp[choose,Sem.run,hf]⟩
   .exact ⟨_,1,Nat.mod_lt (w.tape w.drawn (.mapNext aa.size)) ao,by simp[choose,Sem.run,hf,Question.cut]⟩
  obtain ⟨e,he⟩:∃e,aa[j]?=some e:=⟨_,dV hj⟩;obtain ⟨aj,ay⟩:=ac e (Array.mem_of_getElem? he);obtain ⟨p,hp,hk,hv⟩:=KQ aj;have a0:({w with drawn:=w.drawn+dr}:World).heap[it]?=some (.mapIter (some b) es.length seen.toArray es.length):=hi;refine CM (v:=.tuple #[.bool true,ek p.1,eV p.2]) (w':={w with drawn:=w.drawn+dr,heap:=w.heap.setIfInBounds it (.mapIter (some b) es.length (seen++[e.born]).toArray es.length)}) O O hN ?_ (k2 e.born p _ hp ay ?_)
  .have a1:(setObj it (.mapIter (some b) es.length (seen.toArray.push e.born) es.length)).run P {w with drawn:=w.drawn+dr}=.ok () {w with drawn:=w.drawn+dr,heap:=w.heap.setIfInBounds it (.mapIter (some b) es.length (seen.toArray.push e.born) es.length)}:=by simp[setObj,Sem.run,a0]
   have ah:((#[]:Array (Option MapEntry))++(aa++#[]).map some)[j]?=some (some e):=by simp[he]
   have al:((#[]:Array (Option MapEntry))++(aa++#[]).map some).size=aa.size:=qP
   simp only[execOp,h1,Instr.next,Sem.run_bind,an,Result.andThen_ok,am,ai,gW,if_false,Sem.run_pure,<-ab,ae,ad,ag,al,ak,ah,a1,hk,hv];simp
  .refine ⟨by simp[au],⟨O,O,O,lB _ _,qP,λy hy aw=>by simp[lT,Ne.symm aw]⟩,qP⟩
theorem Sk {i:Nat} {p:κ×ν} (l:Bl w b ek eV es) (hi:Cj w it b es.length (seen++[i])) (m:es[i]?=some p) (n:ev σ x=P6 it 0) :
 (execOp (ev σ) ⟨dst,.entry x,ty,pos,af,g⟩).run P w=.ok (.value (.tuple #[ek p.1,eV p.2])) w:=by
 have d:(getObj b).run P w=.ok (.map (EL ek eV es).toArray es.length) w:=by unfold Bl at l;simp[getObj,Sem.run,l]
 have h:(getObj it).run P w=.ok (.mapIter (some b) es.length (seen++[i]).toArray es.length) w:=by unfold Cj at hi;simp[getObj,Sem.run,hi]
 have hb:(seen++[i]).toArray.back?=some i:=by simp[Array.back?]
 have a:=AX m;have o:(EL ek eV es).find? (λe=>e.born == i)=some {key:=ek p.1,val:=eV p.2,born:=i}:=by
  rw[lL];refine ⟨qP,i,by rw[Jc];exact a,?_,λj hj=>?_⟩
  .have:=FZ (ek:=ek) (eV:=eV) (es:=es) (i:=i);rw[m,dM (by rw[Jc];exact a)] at this;simpa using this
  .have f:=FZ (ek:=ek) (eV:=eV) (es:=es) (i:=j);have c:j<es.length:=qO
   rw[dM (by rw[Jc];exact c),dM c] at f;simp at f;rw[f];simp;omega
 have k:(EL ek eV es).toArray.find? (λe=>e.born == i)=some {key:=ek p.1,val:=eV p.2,born:=i}:=by simpa using o
 simp only[execOp,n,Instr.entry,Sem.run_bind,h,Result.andThen_ok,hb,d,k,Sem.run_pure];simp
end
theorem aX {l:oC} (hd:l.Nodup) {a:Nat} (h:a∈l):l.count a=1:=by
 induction l with
 | nil=>cases h
 | cons x r ih=>
  rw[kD] at hd;rw[List.count_cons];rcases dZ.1 h with rfl|h
  .rw[jM hd.1];simp
  .have:x≠a:=λe=>hd.1 (e▸h);rw[ih hd.2 h];simp[this]
theorem Tl {n:Nat} {seen:oC} (hd:seen.Nodup) (c:∀i∈seen,i<n) (d:∀i,i<n->i∈seen):seen.Perm (List.range n):=by
 rw[List.perm_iff_count];intro a;by_cases h:a∈seen
 .rw[aX hd h,aX List.nodup_range (gJ.2 (c a h))]
 .rw[jM h,jM (λb=>h (d a (gJ.1 b)))]
theorem Ld {n:Nat} {seen:oC} (hd:seen.Nodup) (a:∀i∈seen,i<n):seen.length<=n:=by
 have h:seen.Subset (List.range n):=λi hi=>gJ.2 (a i hi);have:=hd.length_le_of_subset h;simpa using this
end Go.Eng
namespace Go.Proofs
open Go Go.Eng Go.Sort
set_option maxRecDepth 100000
theorem SN {l:List Re} (h:∀x∈l,Au x) (a:∀y∈l,y.kind≠0∧y.kind≠1∧y.kind≠3):Au (CT 3 BT l):=by
 match l,h,a with
 | [],_,_=>exact E7
 | [x],h,_=>exact h x qP
 | x::y::l,h,a=>exact .mk' ⟨qP,O,qP,qP,qP,qP,λ_=>⟨qP,a⟩,qP,qP,qP,qP,qP⟩ h
theorem Iy (c:Int):∀ts:List Re,(CO c ts).length=ts.length
 | []=>rfl
 | t::ts=>by simp only[CO,d_,Iy c ts]
theorem Ix (c:Int) (ts:List Re):CO c ts=ts.map (A_ c):=by
 induction ts with
 | nil=>rfl
 | cons t ts ih=>simp[CO,ih]
mutual
theorem Du (c:Int):∀{t:Re},Au t->Au (A_ c t)
 | .mk k s a m x g,h=>by
  have hn:=h.1;have e:=D3.1 h.2;have hs:=PN c h.2;simp only[A_];split
  .split
   .exact E7
   .exact EP
  split
  .rename_i d
   exact PO c h.2 (hn.k3 d).2
  split
  .rename_i h1 h2 d
   refine IQ ⟨qO,O,λ_=>rfl,λ_=>⟨O,O⟩,qO,qO,λh8=>?_,qO⟩ hs;rw[Iy];obtain ⟨y,rfl,_⟩:=hn.k8 qO;rfl
  split
  .rename_i d
   obtain ⟨y,rfl,hy⟩:=hn.k5 d;refine Ji λz b=>?_;simp only[CO,gV,dZ,eY,or_false] at b;rcases b with rfl|rfl
   .exact hs _ (by simp[CO])
   .exact h
  split
  .rename_i d
   obtain ⟨y,rfl,hy1,hy2,h3,h4,h5,h6,h7⟩:=hn.k6 d;refine Ji λz b=>?_;simp only[CO,gV,dZ,eY,or_false] at b;rcases b with rfl|rfl
   .exact hs _ (by simp[CO])
   .exact IQ ⟨qO,O,λ_=>rfl,qO,qO,qO,λ_=>rfl,λ_=>qO⟩ (by intro z b;simp at b;subst b;exact e _ qP)
  .exact EP
theorem PN (c:Int):∀{ts:List Re},Dt ts->∀x∈CO c ts,Au x
 | [],_,x,a=>by simp[CO] at a
 | t::ts,h,x,a=>by
  simp only[CO,dZ] at a;rcases a with rfl|a
  .exact Du c h.1
  .exact PN c h.2 x a
theorem PO (c:Int):∀{ts:List Re},Dt ts->(∀y∈ts,y.kind≠0∧y.kind≠1∧y.kind≠3)->Au (Ek c ts)
 | [],_,_=>by simp only[Ek];exact EP
 | t::ts,h,hk=>by
  simp only[Ek];split
  .exact Du c h.1
  .have d:Au (De [A_ c t,CT 3 BT ts]):=Ji λz a=>by
    simp only[dZ,eY,or_false] at a;rcases a with rfl|rfl
    .exact Du c h.1
    .exact SN (D3.1 h.2) λy b=>hk y (by simp[b])
   split
   .exact IQ ⟨qO,O,λ_=>rfl,λ_=>⟨O,O⟩,qO,qO,qO,qO⟩ λz a=>by
     simp only[dZ,eY,or_false] at a;rcases a with rfl|rfl
     .exact d
     .exact PO c h.2 λy b=>hk y (by simp[b])
   .exact d
end
theorem Jx (p:Re->Bool):∀l:List Re,Re.sizes (ET p l)<=Re.sizes l
 | []=>by simp[ET]
 | x::l=>by
  have ih:=Jx p l;unfold ET at ih⊢;rw[lC];split
  .simp only[Re.sizes];omega
  .simp only[Re.sizes];omega
theorem Jy (k:Int) (z:Re) (l:List Re):(CT k z l).size<=if l=[] then z.size else Re.sizes l+1:=by
 match l with
 | []=>exact dU _
 | [x]=>simp[CT,Re.sizes]
 | x::y::l=>simp[CT,Re.sizes,Re.size]
theorem HN (l:List Re):(De l).size<=Re.sizes l+1:=by
 unfold De;have h1:=Jx Cl (BS 3 l);have h2:=HU 3 l;split
 .show 1<=_;omega
 .have a:=Jy 3 BT (ET Cl (BS 3 l));split at a
  .have:BT.size=1:=rfl;omega
  .omega
theorem NJ:∀l:List Re,Re.sizes (Ey l)<=Re.sizes l
 | []=>dU _
 | [x]=>dU _
 | x::y::l=>by
  have ih:=NJ (y::l);simp only[Ey];split
  .simp only[Re.sizes] at ih⊢;omega
  .simp only[Re.sizes] at ih⊢;omega
theorem Q9 {l m:List Re} (h:l.Perm m):Re.sizes l=Re.sizes m:=by
 induction h with
 | nil=>rfl
 | cons x _ ih=>simp only[Re.sizes,ih]
 | swap x y l=>simp only[Re.sizes];omega
 | trans _ _ ih1 ih2=>omega
theorem G6 {l:List Re} {x:Re} (h:x∈l):x.size<=Re.sizes l:=by
 obtain ⟨i,hi⟩:=eS.1 h;exact Re.sizes_get hi
theorem OR (k:Int) (l:List Re) (b a:Re->Bool) (z:Re):(Gw k l b a z).size<=max (Re.sizes l+1) z.size:=by
 unfold Gw;cases hf:l.find? b with
 | some x=>have:=G6 (jA hf);show x.size<=_;omega
 | none=>
  have h1:=Jx a (BS k l);have h2:=HU k l;have h3:=Q9 (kA (ET a (BS k l)) X_);have d:=NJ (EO (ET a (BS k l)));have c:=Jy k z (Ey (EO (ET a (BS k l))));unfold EO at d c;show (CT k z (Ey (EO (ET a (BS k l))))).size<=_;unfold EO;split at c<;>omega
theorem GI {k:Int} {s:List (Int×Int)} {a:List Re} {m x:Int} {g:Bool} (e:k=7->a≠[]) (f:k=8->a≠[]):(C5 k s a m x g).size<=Re.sizes a+1:=by
 have hh:∀y,a.head?=some y->y.size<=Re.sizes a:=λy c=>G6 (List.mem_of_mem_head? (by rw[c];rfl));have hd:(a.headD BO).size<=Re.sizes a+1:=by
  cases a with
  | nil=>simp[BO,Re.size,Re.sizes]
  | cons y r=>simp only[gV,Re.sizes];omega
 have b:(Re.mk k s a m x g).size=Re.sizes a+1:=by simp[Re.size]
 unfold C5;dsimp only;split
 .exact HN a
 split
 .have:=OR 4 a DV CC BO;have:BO.size=1:=rfl;omega
 split
 .rename_i d
  have h1:=OR 7 a CC DV Ei;have h2:Ei.size=2:=rfl;have h3:1<=Re.sizes a:=by
   cases a with
   | nil=>exact absurd O (e d)
   | cons y r=>have:=y.size_pos;simp only[Re.sizes];omega
  omega
 split
 .split
  .show 1<=_;omega
  split
  .exact hd
  .exact lM b
 split
 .split
  .show 1<=_;omega
  split
  .exact hd
  .exact lM b
 split
 .rename_i d
  split
  .cases a with
   | nil=>exact absurd O (f d)
   | cons y r=>
    simp only[gV,Re.sizes];have c:=Re.size_eq y;cases hya:y.args with
    | nil=>simp[BO,Re.size,Re.sizes]
    | cons z q=>rw[hya] at c;simp only[gV,Re.sizes] at c⊢;omega
  .exact lM b
 .exact lM b
theorem M9 (l:List Re):(CT 3 BT l).size<=Re.sizes l+1:=by
 have h:=Jy 3 BT l;split at h
 .have:BT.size=1:=rfl;omega
 .exact h
theorem LT (c:Int):∀(l:List Re) (M:Nat),Re.sizes l<=M->(Ek c l).size<=Re.sizes (CO c l)+l.length*(M+4)+1
 | [],M,_=>by simp[Ek,BO,Re.size,Re.sizes]
 | t::ts,M,hM=>by
  simp only[Re.sizes] at hM;have ih:=LT c ts M qO;have b:=HN [A_ c t,CT 3 BT ts];have h2:=M9 ts;simp only[Re.sizes] at b;simp only[Ek,CO,Re.sizes,d_,iM];split
  .omega
  .split
   .have d:=GI (k:=4) (s:=[]) (a:=[De [A_ c t,CT 3 BT ts],Ek c ts]) (m:=0) (x:=0) (g:=false) qO qO;simp only[Re.sizes] at d;omega
   .omega
mutual
theorem NH (c:Int) (N:Nat):∀{t:Re},Au t->t.size<=N->(A_ c t).size+(N+6)<=(N+6)*(2*t.size)
 | .mk k s a m x g,h,hN=>by
  have hn:=h.1;have l:(Re.mk k s a m x g).size=Re.sizes a+1:=by simp[Re.size]
  have ih:=Iw c N h.2 qO;have e:(N+6)*(2*(Re.sizes a+1))=(N+6)*(2*Re.sizes a)+2*(N+6):=by rw[iR 2,iR];omega
  have b:1+(N+6)<=(N+6)*(2*(Re.sizes a+1)):=by rw[e];omega
  rw[l] at hN⊢;have f:=Iy c a;simp only[A_];split
  .split<;>exact b
  split
  .have d:=LT c a N qO;have n:a.length*(N+4)<=(N+6)*a.length:=by rw[nT (N+6)];exact jG _ qO
   rw[e];omega
  split
  .rename_i h1 h2 i
   have d:=GI (k:=k) (s:=[]) (a:=CO c a) (m:=0) (x:=0) (g:=false) (λo j=>by rw[j] at f;have:=(hn.k7 o).1;simp at f;rw[<-f] at this;simp at this) (λp j=>by rw[j] at f;obtain ⟨y,rfl,_⟩:=hn.k8 p;simp at f);rw[e];omega
  split
  .rename_i i
   obtain ⟨y,rfl,_⟩:=hn.k5 i;have d:=HN [A_ c y,.mk k s [y] m x g];simp only[Re.sizes,Re.size,CO,gV,d_,fP] at d ih hN e⊢;rw[e];omega
  split
  .rename_i i
   obtain ⟨y,rfl,_⟩:=hn.k6 i;have d:=HN [A_ c y,C5 6 [] [y] (max 0 (m - 1)) (x - 1) false];have n:=GI (k:=6) (s:=[]) (a:=[y]) (m:=max 0 (m - 1)) (x:=x - 1) (g:=false) qO qO;simp only[Re.sizes,CO,gV,d_,fP] at d n ih hN e⊢;rw[e];omega
  .exact b
theorem Iw (c:Int) (N:Nat):∀{ts:List Re},Dt ts->Re.sizes ts<=N->Re.sizes (CO c ts)+(N+6)*ts.length<=(N+6)*(2*Re.sizes ts)
 | [],_,_=>by simp[CO,Re.sizes]
 | t::ts,h,hN=>by
  simp only[Re.sizes] at hN;have h1:=NH c N h.1 qO;have h2:=Iw c N h.2 qO;simp only[CO,Re.sizes,d_];have e1:(N+6)*(2*(t.size+Re.sizes ts))=(N+6)*(2*t.size)+(N+6)*(2*Re.sizes ts):=by rw[iR 2,iR]
  have e2:(N+6)*(ts.length+1)=(N+6)*ts.length+(N+6):=by rw[iR,kT]
  omega
end
theorem E5 {c:Int} {t:Re} (h:Au t) (hs:t.size<=300):(A_ c t).size<=200000:=by
 have h1:=NH c 300 h hs;have h2:(300+6)*(2*t.size)<=(300+6)*600:=jG _ qO;omega
mutual
theorem NM:∀{t:Re},C' t->(CR t).size<=t.size
 | .mk k s a m x g,h=>by
  have ih:Re.sizes (DF a)<=Re.sizes a:=Iz (C8 h);have b:(DF a).length=a.length:=by rw[DR,dW]
  have d:=@Py _ h;have e:=@HA _ h;simp only[Re.kind,Re.args] at e d;have hn:=GI (k:=k) (s:=s) (a:=DF a) (m:=m) (x:=x) (g:=g) (λh7 c=>by have:=d qO;rw[c] at b;simp at b;omega) (λh8 c=>by have:=e qO;rw[c] at b;simp at b;omega);simp only[CR,Re.size];omega
theorem Iz:∀{ts:List Re},DC ts->Re.sizes (DF ts)<=Re.sizes ts
 | [],_=>dU _
 | t::ts,h=>by
  simp only[DC] at h;have h1:=NM h.1;have h2:=Iz h.2;simp only[DF,Re.sizes];omega
end
end Go.Proofs
namespace Go.Proofs
open Go Go.Eng
set_option maxRecDepth 100000
mutual
def DA (ks:oB):Re->Bool
  | .mk k _ args _ _ _=>ks.contains k || DH ks args
def DH (ks:oB):List Re->Bool
  | []=>false
  | t::ts=>DA ks t || DH ks ts
end
def LO (ks:oB):Unit->Re->Bool×Unit:=λ_ t=>(!ks.contains t.kind,())
mutual
theorem PJ (a:oB):∀(t:Re),(DL (LO a) t ()).1 = !DA a t
 | .mk k set args mn mx ng=>by
  have h:=NA a args;rw[FT];split
  .rename_i b
   have b:a.contains k=false:=by simpa only[LO,Re.kind,e_] using b
   show (Cx (LO a) args ()).1=_;rw[h];simp only[DA,b,gZ]
  .rename_i b
   have b:a.contains k=true:=by
    cases hc:a.contains k with
    | true=>rfl
    | false=>exact absurd (show (LO a () (.mk k set args mn mx ng)).1=true by simp only[LO,Re.kind,hc,Bool.not_false]) b
   simp only[DA,b,Bool.true_or,jX]
theorem NA (a:oB):∀(ts:List Re),(Cx (LO a) ts ()).1 = !DH a ts
 | []=>rfl
 | t::ts=>by
  have b:=PJ a t;have h:=NA a ts;rw[DX];split
  .rename_i d
   rw[d] at b;have c:DA a t=false:=by simpa using b.symm
   show (Cx (LO a) ts ()).1=_;rw[h];simp only[DH,c,gZ]
  .rename_i d
   have c:DA a t=true:=by
    cases hc:DA a t with
    | true=>rfl
    | false=>rw[hc] at b;exact absurd b d
   simp only[DH,c,Bool.true_or,jX]
end
theorem XF (w0:World) (t:Re) (vs:n_) (ks:oB) (v:Value) (b:Nat) (ht:A3 w0 t vs) (hB:BV w0 b #[v] 46) (hks:Bw w0 v ks) :
 Bj prog 103 #[.agg vs.toArray,P6 b 0] w0 λr w=>r=.bool (!ks.contains t.kind)∧Ah w0 w:=by
 obtain ⟨sa,sc,aa,ac,rfl,_,_,_⟩:=ht.form;refine qR func103 O ntmps103 O (λE=>(AA (BC (v:=(.agg (R6 t sa sc aa ac))) (c:=(R6 t sa sc aa ac)) qD O O ?_)));intro b1 w1 N1;have hB:=N1.keep hB;have E:=E.ext N1.ext;have B1:=N1.blk;refine qA _ O (AB (AA (qV (AJ O WF (hB.cell O)) (qF b1 0 0 O dI O Al O (qV (AJ O Ag (B1.cell O)) (qE O (AS func104 kQ kQ O) (Zl _ v t.kind ks (hks.ext E)) ?_))))));rintro _ w9 ⟨rfl,X9⟩;have hB:=X9.keep hB;have B1:=X9.keep B1;have E:=E.ext X9;refine qV (C1 O) (qA _ O (AB (AO (AY results103 (v:=(.bool (!(ks.contains t.kind)))) O ?_))));exact ⟨O,E⟩
theorem ZC (o:World) (t:Re) (vs:n_) (a:oB) (v:Value) (m:A3 o t vs) (f:Bw o v a) :
 Bj prog 63 #[.agg vs.toArray,v] o λr w=>r=.bool (DA a t)∧Ah o w:=by
 have p:=m;obtain ⟨sa,sc,aa,ac,rfl,_,_,_⟩:=m.form;obtain ⟨i,g,rfl⟩:=BX.form f;simp only[dW] at f⊢;refine qR func63 O ntmps63 O (λE=>(AA (BC (v:=(.agg (R6 t sa sc aa ac))) (c:=(R6 t sa sc aa ac)) qD O O ?_)));intro br wr x;have E:=E.ext x.ext;have j:=x.blk;refine BC (v:=(.slice i a.length g)) (c:=#[(.slice i a.length g)]) qD O O ?_;intro d l q;have j:=q.keep j;have E:=E.ext q.ext;have k:=q.blk;refine qA _ O (AB (AA (qV (AI (vs:=(oJ t sa sc aa ac)) O Ad AG O (j.cells O)) (qV (Da O O) ?_))));have z:∀(s:Unit) (w:World) (t:Re) (vs:n_),d+1<=w.heap.size->Ah l w->BV w d #[.slice i a.length g] 46->A3 l t vs->CG prog (.func (.func 103) #[] #[P6 d 0]) #[.agg vs.toArray] w λr w'=>r=.bool (LO a s t).1∧Chg Aj w w'∧BV w' d #[.slice i a.length g] 46:=λs w t vs _ y n m=>CG.mk (first:=#[]) (cap:=#[P6 d 0]) func103 kQ kQ O ((XF w t vs a (.slice i a.length g) d (A3.ext y t m) n ((f.ext E).ext y)).mono λr w' h=>⟨h.1,h.2,Ah.keep h.2 n⟩);refine qE O (AS mP kQ kQ O) ((Q2 (LO a) (λ_ w=>BV w d #[.slice i a.length g] 46) Aj (d+1) _ l (λb hb=>hb.elim) (λs w w' n e=>e.keep n) z t.size t (dU _) () _ _ (by have:=k.lt;omega) (Ah.refl _) k (A3.ext E t p)).mono (R':=λr w=>r=.bool (DL (LO a) t ()).1∧Ah l w) (λr w h=>⟨h.1,h.2.1⟩)) ?_;rintro _ w9 ⟨rfl,u⟩;have j:=u.keep j;have k:=u.keep k;have E:=E.ext u;refine qV (C1 O) (qA _ O (AB (AO (AY results63 (v:=(.bool (!((DL (LO a) t ()).1)))) O ?_))));exact ⟨A' (by rw[PJ];simp),E⟩
structure NodeI (t:Re):Prop where
 k:0<=t.kind∧t.kind<=10
 two:t.kind=3∨t.kind=4∨t.kind=7->2<=t.args.length
 one:t.kind=5∨t.kind=6∨t.kind=8∨t.kind=9∨t.kind=10->t.args.length=1
 rep:t.kind=6->0<=t.mn∧t.mn<=t.mx∧t.mx<=8
 grp:t.kind=9->0<=t.mn∧t.mn<=9
 sett:t.kind=2->t.set≠[]
theorem Vf {t:Re} (h:Cb t=0):NodeI t:=by
 unfold Cb at h;split at h
 .cases h
 rename_i h1
 split at h
 .cases h
 rename_i d
 have c:Dj t=true:=by simpa using d
 unfold Dj at c;simp only[dP] at c;have b:=c.1.1.1.1;unfold Kk at b;refine ⟨qO,λa=>?_,λa=>?_,λa=>?_,λa=>?_,λa=>?_⟩
 .rw[if_pos a] at b;have:=of_decide_eq_true b;omega
 .rw[if_neg qO,if_pos a] at b;have:=of_decide_eq_true b;omega
 .rw[if_neg qO,if_pos a] at h;split at h
  .cases h
  .omega
 .rw[if_neg qO,if_neg qO,if_pos a] at h;split at h
  .cases h
  .omega
 .rw[if_pos a] at h;intro e;rw[e] at h;simp[BJ,DW] at h
end Go.Proofs
namespace Go.Proofs
open Go Go.Eng Go.Sort
set_option maxRecDepth 100000
theorem Oj {t:Re} (h:C' t) (h9:t.kind≠9) (d:t.kind≠10) {a:List Re} (m:a.length=t.args.length):PreN t.kind t.set a t.mn t.mx t.neg:=by
 have hn:=HB h;have b:=Vf hn;have i:=(FA h).2.2;simp only[Dj,dP,eZ,decide_eq_true_eq,e_] at i;obtain ⟨⟨⟨⟨e,l⟩,f3⟩,f4⟩,j⟩:=i;have hk:=b.k;refine ⟨qO,?_,λc=>?_,λg=>⟨qO,qO⟩,λc=>⟨b.sett c,?_⟩,λh0=>?_,λh1=>by rw[m];exact b.one qO,λg=>b.rep g⟩
 .rcases j with h|h
  .exact absurd h d
  .exact h
 .rcases l with h|h
  .exact absurd h c
  .exact eD qO
 .unfold Cb at hn;split at hn
  .cases hn
  split at hn
  .cases hn
  first|rw[if_pos c] at hn|skip
  by_cases f:BJ t.set=0
  .exact f
  .rw[if_pos f] at hn;exact hn
 .unfold Kk at e;rw[if_neg qO,if_neg qO] at e;have:=of_decide_eq_true e;exact eD qO
theorem G1 {b:oB} {k:Int} {s:List (Int×Int)} {a:List Re} {m x:Int} {g:Bool} (h:DA b (.mk k s a m x g)=false):b.contains k=false∧DH b a=false:=by
 simpa only[DA,iD] using h
mutual
theorem SZ:∀{t:Re},C' t->DA [9,10] t=false->Au (CR t)
 | .mk k s a m x g,h,hu=>by
  obtain ⟨c,d⟩:=G1 hu;have f:k≠9:=λe=>by subst e;simp at c
  have b:k≠10:=λe=>by subst e;simp at c
  simp only[CR];exact IQ (Oj (t:=.mk k s a m x g) h f b (a:=DF a) (by rw[DR,dW];rfl)) (La (C8 h) d)
theorem La:∀{ts:List Re},DC ts->DH [9,10] ts=false->∀x∈DF ts,Au x
 | [],_,_,x,a=>by simp[DF] at a
 | t::ts,h,hu,x,a=>by
  simp only[DC] at h;simp only[DH,iD] at hu;simp only[DF,dZ] at a;rcases a with rfl|a
  .exact SZ h.1 hu.1
  .exact La h.2 hu.2 x a
end
theorem Ti {k:Int} {s:List (Int×Int)} {a:List Re} {m x:Int} {g:Bool} (h:SimN k s a m x g):Cb (.mk k s a m x g)=0:=by
 have ab:=h.st;have aa:=h.mm;have hk:=h.ks;have ac:Kk k a.length=true:=by
  unfold Kk;split
  ·rename_i hk
   refine decide_eq_true ?_;rcases hk with hk|hk|hk
   ·have:=(h.k3 hk).1;omega
   ·have:=(h.k4 hk).1;omega
   ·have:=(h.k7 hk).1;omega
  split
  ·rename_i hk
   refine decide_eq_true ?_;rcases hk with hk|hk|hk|hk|hk
   ·obtain ⟨y,rfl,_⟩:=h.k5 hk;rfl
   ·obtain ⟨y,rfl,_⟩:=h.k6 hk;rfl
   ·obtain ⟨y,rfl,_⟩:=h.k8 hk;rfl
   ·omega
   ·omega
  ·rw[h.none qO];rfl
 have hf:Dj (.mk k s a m x g)=true:=by
  show (((((Kk k a.length && (decide (k=2) || decide ((s.length:Int)=0))) && ((decide (k=6) || decide (k=9)) || decide (m=0))) && (decide (k=6) || decide (x=0))) && (decide (k=10) || !g)):Bool)=true;simp only[dP,eZ,decide_eq_true_eq,e_];refine ⟨⟨⟨⟨ac,?_⟩,?_⟩,?_⟩,.inr h.ng⟩
  ·by_cases h2:k=2
   ·exact .inl h2
   ·rw[ab h2];exact .inr O
  ·by_cases h6:k=6
   ·exact .inl (.inl h6)
   ·exact .inr (aa h6).1
  ·by_cases h6:k=6
   ·exact .inl h6
   ·exact .inr (aa h6).2
 show (if k<0∨10<k then (1:Int) else if Dj (.mk k s a m x g)=false then 3 else if k=2 then (if BJ s≠0 then BJ s else if (s.length:Int)=0 then 3 else 0) else if k=6 then (if m<0∨x<m∨8<x then 1 else 0) else if k=9 then (if m<0∨9<m then 1 else 0) else 0)=0;have h1:¬(k<0∨10<k):=qO
 rw[if_neg h1]
 first|rw[if_neg (show ¬Dj (.mk k s a m x g)=false by rw[hf];decide)]|skip
 split
 ·rename_i h2
  obtain ⟨h3,h4⟩:=h.k2 h2;have h5:s.length≠0:=λe=>h3 (eD e);rw[if_neg qO,if_neg qO]
 split
 ·rename_i h6
  obtain ⟨y,_,_,_,h3,h4,h5,_⟩:=h.k6 h6;rw[if_neg qO]
 split
 ·omega
 ·rfl
mutual
theorem EZ:∀{t:Re},Au t->C' t∧DA [9,10] t=false
 | .mk k s a m x g,h=>by
  have b:=LX h.2;have hk:=h.1.ks;refine ⟨by simp only[C'];exact ⟨Ti h.1,b.1⟩,?_⟩;simp only[DA,iD];refine ⟨?_,b.2⟩;rw[kR,ne_eq,lH];simp;omega
theorem LX:∀{ts:List Re},Dt ts->DC ts∧DH [9,10] ts=false
 | [],_=>⟨trivial,O⟩
 | t::ts,h=>by
  have a:=EZ h.1;have b:=LX h.2;exact ⟨by simp only[DC];exact ⟨a.1,b.1⟩,by simp only[DH,a.2,b.2];rfl⟩
end
def Cz (t:Re):Int:=if By t 300≠0 then By t 300 else if DA [9,10] t=true then 3 else 0
def Zt (t:Re) (c:Int):Int:=if Cz t≠0 then Cz t else if CJ c=false then 1 else if 300<(A_ c (CR t)).size then 2 else 0
def bK (t:Re) (c:Int):Re:=if Zt t c=0 then A_ c (CR t) else BO
theorem HL {t:Re} (h:Cz t=0):C' t∧t.size<=300∧DA [9,10] t=false∧Au (CR t)∧(CR t).size<=300:=by
 unfold Cz at h;by_cases b:By t 300=0
 .rw[if_neg qO] at h;obtain ⟨a,hsz⟩:=(EY (t:=t) (most:=300) qD qD).1 b;have c:DA [9,10] t=false:=by
   cases h2:DA [9,10] t with
   | true=>rw[h2] at h;cases h
   | false=>rfl
  have:=NM a;exact ⟨a,qO,c,SZ a c,qO⟩
 .rw[if_pos b] at h;exact absurd h b
theorem U5 {t:Re} (h:Au t) (hs:t.size<=300):Cz t=0:=by
 obtain ⟨a,b⟩:=EZ h;unfold Cz;rw[if_neg (by rw[(EY (t:=t) (most:=300) qD qD).2 ⟨a,qO⟩];decide),if_neg (by rw[b];decide)]
theorem YW (z:World) (x y:Int×Int):Bj prog 111 #[.agg #[I6 x.1,I6 x.2],.agg #[I6 y.1,I6 y.2]] z λv w=>v=I6 (Cf x y)∧Ah z w:=by
 refine qR func111 O ntmps111 O (λE=>(AA (BC (v:=(.agg #[(I6 x.1),(I6 x.2)])) (c:=#[(I6 x.1),(I6 x.2)]) qD O O ?_)));intro d w1 u;have E:=E.ext u.ext;have e:=u.blk;refine BC (v:=(.agg #[(I6 y.1),(I6 y.2)])) (c:=#[(I6 y.1),(I6 y.2)]) qD O O ?_;intro f w2 t;have e:=t.keep e;have E:=E.ext t.ext;have h:=t.blk;refine qA _ O (AB (AH ?_));obtain ⟨o,a⟩:∃B:List Fact,B=[.eq (P6 d 0),.eq (I6 x.1),.eq (P6 f 0),.eq (I6 y.1),.eq (I6 (Bd x.1 y.1)),.eq (P6 d 1),.eq (I6 x.2),.eq (P6 f 1),.eq (I6 y.2),.eq (I6 (Bd x.2 y.2)),.gen (KI (Bd x.1 y.1) (Bd x.2 y.2)) (He _ _),.eq (I6 (Cf x y)),.eq (I6 (Cf x y))]:=⟨_,O⟩;refine Ga [5,6,7,8,9,10,11,12,13,14,15,16,4] [[],[0],[],[2],[1,3],[],[5],[],[7],[4,6,8],[4,9],[9,10],[0,1,2,3,4,5,6,7,8,9,10,11]] o a mixed qK qK ?_ ?_
 .intro wd i;refine DagSteps.cons (λb w' X U H=>dH ⟨?_,?_⟩) ?_
  .exact AE O
  .exact AP (AQ (U 2 O) eM O Al O) (Ah.refl _) O
  refine DagSteps.cons (λb w' X U H=>dH ⟨?_,?_⟩) ?_
  .exact AE O
  .have D:b 5=(P6 d 0):=H 0 O 5 (.eq (P6 d 0)) O (by rw[a];rfl);exact AP (AJ D Ag (((i.trans X).keep e).cell O)) (Ah.refl _) O
  refine DagSteps.cons (λb w' X U H=>dH ⟨?_,?_⟩) ?_
  .exact AE O
  .exact AP (AQ (U 3 O) eM O Al O) (Ah.refl _) O
  refine DagSteps.cons (λb w' X U H=>dH ⟨?_,?_⟩) ?_
  .exact AE O
  .have F:b 7=(P6 f 0):=H 2 O 7 (.eq (P6 f 0)) O (by rw[a];rfl);exact AP (AJ F Ag (((i.trans X).keep h).cell O)) (Ah.refl _) O
  refine DagSteps.cons (λb w' X U H=>dH ⟨?_,?_⟩) ?_
  .exact AE O
  .have C:b 6=(I6 x.1):=H 1 O 6 (.eq (I6 x.1)) O (by rw[a];rfl);have G:b 8=(I6 y.1):=H 3 O 8 (.eq (I6 y.1)) O (by rw[a];rfl);exact A7 (AS lU kQ kQ (F_ C G)) (FE _ _ _)
  refine DagSteps.cons (λb w' X U H=>dH ⟨?_,?_⟩) ?_
  .exact AE O
  .exact AP (AQ (U 2 O) eM O Al O) (Ah.refl _) O
  refine DagSteps.cons (λb w' X U H=>dH ⟨?_,?_⟩) ?_
  .exact AE O
  .have r:b 10=(P6 d 1):=H 5 O 10 (.eq (P6 d 1)) O (by rw[a];rfl);exact AP (AJ r Ag (((i.trans X).keep e).cell O)) (Ah.refl _) O
  refine DagSteps.cons (λb w' X U H=>dH ⟨?_,?_⟩) ?_
  .exact AE O
  .exact AP (AQ (U 3 O) eM O Al O) (Ah.refl _) O
  refine DagSteps.cons (λb w' X U H=>dH ⟨?_,?_⟩) ?_
  .exact AE O
  .have q:b 12=(P6 f 1):=H 7 O 12 (.eq (P6 f 1)) O (by rw[a];rfl);exact AP (AJ q Ag (((i.trans X).keep h).cell O)) (Ah.refl _) O
  refine DagSteps.cons (λb w' X U H=>dH ⟨?_,?_⟩) ?_
  .exact AE O
  .have p:b 11=(I6 x.2):=H 6 O 11 (.eq (I6 x.2)) O (by rw[a];rfl);have j:b 13=(I6 y.2):=H 8 O 13 (.eq (I6 y.2)) O (by rw[a];rfl);exact A7 (AS lU kQ kQ (F_ p j)) (FE _ _ _)
  refine DagSteps.cons (λb w' X U H=>dH ⟨?_,?_⟩) ?_
  .exact AE O
  .have A:b 9=(I6 (Bd x.1 y.1)):=H 4 O 9 (.eq (I6 (Bd x.1 y.1))) O (by rw[a];rfl);have m:b 14=(I6 (Bd x.2 y.2)):=H 9 O 14 (.eq (I6 (Bd x.2 y.2))) O (by rw[a];rfl);exact Mk A m
  refine DagSteps.cons (λb w' X U H=>dH ⟨?_,?_⟩) ?_
  .exact AE O
  .obtain ⟨b15,g,k⟩:=H 10 O 15 (.gen (KI (Bd x.1 y.1) (Bd x.2 y.2)) (He _ _)) O (by rw[a];rfl);exact A7 (AS func138 kQ kQ (Ha g)) (Uz _ _ _ (g▸k))
  refine DagSteps.cons (λb w' X U H=>dH ⟨?_,?_⟩) ?_
  .exact AE O
  .have n:b 16=(I6 (Cf x y)):=H 11 O 16 (.eq (I6 (Cf x y))) O (by rw[a];rfl);exact AP (Dg n) (Ah.refl _) O
  exact DagSteps.nil
 .intro b w3 s U H;obtain ⟨j3,rfl⟩:=Ak.out (σ:=b) (l:=[(4,(I6 (Cf x y)))]) ⟨(show b 4=(I6 (Cf x y)) from H 12 4 (.eq (I6 (Cf x y))) O (by rw[a];rfl)),trivial⟩;clear U H;have e:=s.keep e;have h:=s.keep h;have E:=E.ext s;refine AC (AO (AY results111 (v:=(I6 (Cf x y))) O ?_));exact ⟨O,E⟩
theorem YX (w0:World) (v1 v2 fv:Value) (l1 l2:List (Int×Int)) (f:Int×Int→Int×Int→Int) (h1:BP w0 v1 l1) (h2:BP w0 v2 l2)
  (hf:∀(w:World) (x y:Int×Int),Ah w0 w→CG prog fv #[.agg #[I6 x.1,I6 x.2],.agg #[I6 y.1,I6 y.2]] w λr w'=>r=I6 (f x y)∧Ah w w') :
  Bj prog 196 #[v1,v2,fv] w0 λv w=>v=I6 (Cw f l1 l2)∧Ah w0 w:=by
 obtain ⟨a1,c1,rfl⟩:=BX.form h1;obtain ⟨a2,c2,rfl⟩:=BX.form h2;have ad:=BX.le h1;have ab:=BX.le h2;simp only[dW] at h1 h2 ad ab⊢;refine qR func196 rfl ntmps196 rfl (λE=>(AA (qA _ rfl (AB (AH (AA (qM _ rfl (qV (AT dS rfl) (qM _ rfl (AB (AW (Ax (λnn_ σ W1=>∃(k:Nat),(∃jj_,σ=BW jj_ [(0,(.slice a1 l1.length c1)),(1,(.slice a2 l2.length c2)),(2,fv),(11,(.slice a1 l1.length c1)),(12,(I6 (l1.length:Int))),(13,(I6 (k:Int)))])∧Chg Aj w0 W1∧(k≤l1.length)∧(k≤l2.length)∧(Cw f l1 l2=Cw f (l1.drop k) (l2.drop k))∧nn_=l1.length - k) (n:=l1.length - 0) ?_ ?_))))))))))))
 ·exact ⟨0,oH,E,dR _,dR _,rfl,rfl⟩
 ·clear E;rintro _ _ W1 ⟨k,⟨j1,rfl⟩,E,hk,hk2,aa,rfl⟩;refine AA (qV (A6 rfl rfl) (AB (AH (qC rfl (λae=>?_) (λae=>?_)))))
  ·obtain ⟨p,hp⟩:=AU (l:=l1) (i:=k) qO;obtain ⟨b1,o1,rfl,ag⟩:=BR h1 qO;rw[Bi hp] at aa;refine AM (AC (AH (AW (AA (qM _ rfl (qV (AL (b:=b1) (o:=o1) (len:=l1.length) (cap:=c1) (i:=k) (o':=o1+k*2) rfl rfl rfl dS BL qO qO) (qV (AI rfl Dw BL rfl ((ag k p hp).ext E)) (BK (c:=#[(I6 0),(I6 0)]) qD Df rfl ?_))))))));intro bp wp Np;have Fp:=Np.ge E;have E:=E.ext Np.ext;have Bp:=Np.blk;refine qA _ rfl (Aa (b:=bp) (o:=0) (c':=#[(I6 p.1),(I6 p.2)]) rfl rfl qS BL rfl Bp qL rfl ?_);intro w3 S3;have E:=S3.step E (by first|exact dH qO|assumption|exact dG rfl|exact dG (by assumption)|exact dG qP|exact dG qO|exact dG (by dsimp only;omega));have Bp:=S3.blk;refine AB (AH (AA (qM _ rfl (qM _ rfl (qV (AT dS rfl) (qV (El rfl rfl) (AB (qC rfl (λah=>?_) (λah=>?_)))))))))
   ·refine AA (qA _ rfl (AB (AO (AK (Ac (AK (AK (Ac (AK (AY nD (v:=(I6 1)) rfl ?_))))))))));exact ⟨BI (by rw[aa,fR (show l2.length≤k by omega)];rfl),E⟩
   ·obtain ⟨q,hq⟩:=AU (l:=l2) (i:=k) qO;obtain ⟨b2,o2,rfl,af⟩:=BR h2 qO;rw[Bi hq] at aa;refine AM (AC (AA (qM _ rfl (qM _ rfl (qV (AL (b:=b2) (o:=o2) (len:=l2.length) (cap:=c2) (i:=k) (o':=o2+k*2) rfl rfl rfl dS BL qO qO) (qV (AI rfl Dw BL rfl ((af k q hq).ext E)) (As (v:=(.agg #[(I6 q.1),(I6 q.2)])) (c:=#[(I6 q.1),(I6 q.2)]) (n:=2) qD Df rfl BL rfl rfl rfl qS ?_)))))));intro bq wq Nq;have Fq:=Nq.ge E;have Oq_bp:=Nq.lt Bp;have Bp:=Nq.keep Bp;have E:=E.ext Nq.ext;have Bq:=Nq.blk;refine AB (AA (qM _ rfl (qV (AI (vs:=[(I6 p.1),(I6 p.2)]) rfl Dw BL rfl (Bp.cells rfl)) (qV (AI (vs:=[(I6 q.1),(I6 q.2)]) rfl Dw BL rfl (Bq.cells rfl)) (DK qD rfl rfl (hf _ p q E) ?_)))));rintro _ w9 ⟨rfl,X9⟩;have Bp:=X9.keep Bp;have Bq:=X9.keep Bq;have E:=E.ext X9;refine qA _ rfl (AB (AA (qM _ rfl (qV (Bb rfl rfl) (AB (qC rfl (λac=>?_) (λac=>?_)))))))
    ·refine AA (qM _ rfl (qA _ rfl (AB (AO (Ac (AK (AK (Ac (AK (AY nD (v:=(I6 (f p q))) rfl ?_))))))))));exact ⟨BI (by rw[aa,Cw,ES,if_pos ac]),E⟩
    ·refine AM (AV (AC (AN (qV (A0 rfl rfl (A8 qO)) (qM _ rfl (AB (AC ?_)))))));exact ⟨l1.length - (k+1),qO,k+1,oH,E,qO,qO,(by rw[aa,Cw,ES,if_neg ac]),rfl⟩
  ·have ai:k=l1.length:=qO
   rw[ai,gR] at aa;refine Av (AZ (AZ (Ao (AC (AH (AA (qM _ rfl (qV (AT dS rfl) (qM _ rfl (qV (AT dS rfl) (qV (A6 rfl rfl) (AB (qC rfl (λhl=>?_) (λhl=>?_))))))))))))))
   ·obtain ⟨q,hq⟩:=AU (l:=l2) (i:=l1.length) qO;refine AA (qA _ rfl (AB (AO (AK (AY nD (v:=(I6 (-1))) rfl ?_)))));exact ⟨BI (by rw[aa,Bi hq];rfl),E⟩
   ·refine AM (AC (AA (qA _ rfl (AB (AO (AY nD (v:=(I6 0)) rfl ?_))))));exact ⟨BI (by rw[aa,fR qO];rfl),E⟩
theorem XN (a:World) (d e:Value) (b c:List (Int×Int)) (f:BP a d b) (g:BP a e c) :
 Bj prog 180 #[d,e] a λv w=>v=I6 (Cw Cf b c)∧Ah a w:=by
 refine qR func180 O ntmps180 O (λE=>(AA (qA _ O (AB (AA (qM _ O (qM _ O (qE O (AS func196 kQ kQ O) (YX _ d e _ b c Cf f g (λw x y _=>CG.mk (first:=#[]) (cap:=#[]) func111 kQ kQ O (YW w x y))) ?_))))))));rintro _ w9 ⟨rfl,h⟩;have E:=E.ext h;refine qA _ O (AB (AO (AY results180 (v:=(I6 (Cw Cf b c))) O ?_)));exact ⟨O,E⟩
theorem Pw:∀a b:List Re,CK a b=Cw CS a b
 | [],[]=>rfl
 | [],_::_=>rfl
 | _::_,[]=>rfl
 | t::ts,u::us=>by simp only[CK,Cw,Pw ts us]
theorem YY (w0:World) (v1 v2 fv:Value) (l1 l2:List Re) (h1:Hn w0 v1 l1) (h2:Hn w0 v2 l2)
  (hf:∀(w:World) (x u:Re) (vs us:n_),Ah w0 w→x∈l1→A3 w x vs→A3 w u us→CG prog fv #[.agg vs.toArray,.agg us.toArray] w λr w'=>r=I6 (CS x u)∧Ah w w') :
  Bj prog 181 #[v1,v2,fv] w0 λv w=>v=I6 (CK l1 l2)∧Ah w0 w:=by
 have g1:=h1;have g2:=h2;obtain ⟨a1,c1,rfl,hb1,_⟩:=h1;obtain ⟨a2,c2,rfl,hb2,_⟩:=h2;rw[Pw];refine qR func181 rfl ntmps181 rfl (λE=>(AA (qA _ rfl (AB (AH (AA (qM _ rfl (qV (AT dJ rfl) (qM _ rfl (AB (AW (Ax (λnn_ σ W1=>∃(k:Nat),(∃jj_,σ=BW jj_ [(0,(.slice a1 l1.length c1)),(1,(.slice a2 l2.length c2)),(2,fv),(11,(.slice a1 l1.length c1)),(12,(I6 (l1.length:Int))),(13,(I6 (k:Int)))])∧Chg Aj w0 W1∧(k≤l1.length)∧(k≤l2.length)∧(Cw CS l1 l2=Cw CS (l1.drop k) (l2.drop k))∧nn_=l1.length - k) (n:=l1.length - 0) ?_ ?_))))))))))))
 ·exact ⟨0,oH,E,dR _,dR _,rfl,rfl⟩
 ·clear E;rintro _ _ W1 ⟨k,⟨j1,rfl⟩,E,hk,hk2,ab,rfl⟩;refine AA (qV (A6 rfl rfl) (AB (AH (qC rfl (λao=>?_) (λao=>?_)))))
  ·obtain ⟨p,hp⟩:=AU (l:=l1) (i:=k) qO;obtain ⟨b1,o1,rfl,au⟩:=g1.cells qO;obtain ⟨vs,ap,al⟩:=au k p hp;have aj:=al;obtain ⟨sa,sc,aa,ac,rfl,_,_,_⟩:=al.form;rw[Bi hp] at ab;refine AM (AC (AH (AW (AA (qM _ rfl (qV (AL (b:=b1) (o:=o1) (len:=l1.length) (cap:=c1) (i:=k) (o':=o1+k*6) rfl rfl rfl dJ AG qO qO) (qV (AI rfl Ad AG rfl (ap.ext E)) (BK (c:=#[(I6 0),(.slice none 0 0),(.slice none 0 0),(I6 0),(I6 0),(.bool false)]) qD A1 rfl ?_))))))));intro bp wp Np;have Fp:=Np.ge E;have E:=E.ext Np.ext;have Bp:=Np.blk;refine qA _ rfl (Aa (b:=bp) (o:=0) (c':=(R6 p sa sc aa ac)) rfl rfl qS AG rfl Bp qL rfl ?_);intro w3 S3;have E:=S3.step E (by first|exact dH qO|assumption|exact dG rfl|exact dG (by assumption)|exact dG qP|exact dG qO|exact dG (by dsimp only;omega));have Bp:=S3.blk;refine AB (AH (AA (qM _ rfl (qM _ rfl (qV (AT dJ rfl) (qV (El rfl rfl) (AB (qC rfl (λam=>?_) (λam=>?_)))))))))
   ·refine AA (qA _ rfl (AB (AO (AK (Ac (AK (AK (Ac (AK (AY nE (v:=(I6 1)) rfl ?_))))))))));exact ⟨BI (by rw[ab,fR (show l2.length≤k by omega)];rfl),E⟩
   ·obtain ⟨q,hq⟩:=AU (l:=l2) (i:=k) qO;obtain ⟨b2,o2,rfl,ar⟩:=g2.cells qO;obtain ⟨us,aq,ak⟩:=ar k q hq;have ah:=ak;obtain ⟨ai,ag,ad,af,rfl,_,_,_⟩:=ak.form;rw[Bi hq] at ab;refine AM (AC (AA (qM _ rfl (qM _ rfl (qV (AL (b:=b2) (o:=o2) (len:=l2.length) (cap:=c2) (i:=k) (o':=o2+k*6) rfl rfl rfl dJ AG qO qO) (qV (AI rfl Ad AG rfl (aq.ext E)) (As (v:=(.agg (R6 q ai ag ad af))) (c:=(R6 q ai ag ad af)) (n:=6) qD A1 rfl AG rfl rfl rfl qS ?_)))))));intro bq wq Nq;have Fq:=Nq.ge E;have Oq_bp:=Nq.lt Bp;have Bp:=Nq.keep Bp;have E:=E.ext Nq.ext;have Bq:=Nq.blk;refine AB (AA (qM _ rfl (qV (AI (vs:=(oJ p sa sc aa ac)) rfl Ad AG rfl (Bp.cells rfl)) (qV (AI (vs:=(oJ q ai ag ad af)) rfl Ad AG rfl (Bq.cells rfl)) (DK qD rfl rfl (hf _ p q _ _ E (dK hp) (A3.ext E p aj) (A3.ext E q ah)) ?_)))));rintro _ w9 ⟨rfl,X9⟩;have Bp:=X9.keep Bp;have Bq:=X9.keep Bq;have E:=E.ext X9;refine qA _ rfl (AB (AA (qM _ rfl (qV (Bb rfl rfl) (AB (qC rfl (λae=>?_) (λae=>?_)))))))
    ·refine AA (qM _ rfl (qA _ rfl (AB (AO (Ac (AK (AK (Ac (AK (AY nE (v:=(I6 (CS p q))) rfl ?_))))))))));exact ⟨BI (by rw[ab,Cw,ES,if_pos ae]),E⟩
    ·refine AM (AV (AC (AN (qV (A0 rfl rfl (A8 qO)) (qM _ rfl (AB (AC ?_)))))));exact ⟨l1.length - (k+1),qO,k+1,oH,E,qO,qO,(by rw[ab,Cw,ES,if_neg ae]),rfl⟩
  ·have an:k=l1.length:=qO
   rw[an,gR] at ab;refine Av (AZ (AZ (Ao (AC (AH (AA (qM _ rfl (qV (AT dJ rfl) (qM _ rfl (qV (AT dJ rfl) (qV (A6 rfl rfl) (AB (qC rfl (λhl=>?_) (λhl=>?_))))))))))))))
   ·obtain ⟨q,hq⟩:=AU (l:=l2) (i:=l1.length) qO;refine AA (qA _ rfl (AB (AO (AK (AY nE (v:=(I6 (-1))) rfl ?_)))));exact ⟨BI (by rw[ab,Bi hq];rfl),E⟩
   ·refine AM (AC (AA (qA _ rfl (AB (AO (AY nE (v:=(I6 0)) rfl ?_))))));exact ⟨BI (by rw[ab,fR qO];rfl),E⟩
def Ov (a b c d e:Int):G0:=λv w=>∃bb,v=.slice (oI bb 0) 5 5∧Bw w v [a,b,c,d,e]
theorem MB (a b c d e:Int):FK (Ov a b c d e):=by
 rintro v w w' x ⟨h,f,g⟩;exact ⟨h,f,g.ext x⟩
theorem SL {N:Nat} {σ:CZ} {w:World} {dst:Option Tmp} {ty:TypeId} {pos:String} {af:Array Edge} {g:Option (Nat×Bool)} {j f i k h:Operand} {a b c d e:Int} (o:ev σ j=I6 a) (m:ev σ f=I6 b) (l:ev σ i=I6 c) (p:ev σ k=I6 d) (n:ev σ h=I6 e) :
 Ka prog N ⟨dst,.buildSlice 46 5 #[(0,j),(1,f),(2,i),(3,k),(4,h)],ty,pos,af,g⟩ (Ov a b c d e) σ w:=by
 have hn:=New.mk' w #[I6 a,I6 b,I6 c,I6 d,I6 e] 3;refine AP (DB (parts:=[(0,j),(1,f),(2,i),(3,k),(4,h)]) (ps:=[(0,I6 a),(1,I6 b),(2,I6 c),(3,I6 d),(4,I6 e)]) (by simp only[List.map,o,m,l,p,n]) eA Al Ex qD qD qK) hn.ext ?_;exact ⟨_,O,FX [a,b,c,d,e] hn.blk qP qP⟩
theorem Xq (t u:Re):CS t u=K_ [Bd t.kind u.kind,Cw Cf t.set u.set,Bd t.mn u.mn,Bd t.mx u.mx,CK t.args u.args]:=by cases t;cases u;rfl
theorem Xp:∀(n:Nat) (t u:Re) (p:World) (vs A:n_),t.size<=n->A3 p t vs->A3 p u A->
 Bj prog 171 #[.agg vs.toArray,.agg A.toArray] p λv w=>v=I6 (CS t u)∧Ah p w:=by
 intro n
 induction n with
 | zero=>intro t u p vs A h;have:=t.size_pos;omega
 | succ n ih=>
 intro t u p vs A hn ht hu;have W:=ht;have K:=hu;obtain ⟨sa,sc,aa,ac,rfl,z,hlen,hargs⟩:=ht.form;obtain ⟨m,k,g,j,rfl,r,hlen2,hargs2⟩:=hu.form;have ad:Hn p (.slice aa t.args.length ac) t.args:=A3.rs W;have B:Hn p (.slice g u.args.length j) u.args:=A3.rs K;rw[Xq];refine qR func171 O ntmps171 O (λE=>(AA (BC (v:=(.agg (R6 t sa sc aa ac))) (c:=(R6 t sa sc aa ac)) qD O O ?_)));intro d w1 N1;have E:=E.ext N1.ext;have o:=N1.blk;refine BC (v:=(.agg (R6 u m k g j))) (c:=(R6 u m k g j)) qD O O ?_;intro e w2 R;have o:=R.keep o;have E:=E.ext R.ext;have q:=R.blk;refine qA _ O (AB (AH ?_));obtain ⟨M,a⟩:∃Fs:List Fact,Fs=[.eq (P6 d 0),.eq (I6 t.kind),.eq (P6 e 0),.eq (I6 u.kind),.eq (I6 (Bd t.kind u.kind)),.eq (P6 d 1),.eq (.slice sa t.set.length sc),.eq (P6 e 1),.eq (.slice m u.set.length k),.eq (I6 (Cw Cf t.set u.set)),.eq (P6 d 3),.eq (I6 t.mn),.eq (P6 e 3),.eq (I6 u.mn),.eq (I6 (Bd t.mn u.mn)),.eq (P6 d 4),.eq (I6 t.mx),.eq (P6 e 4),.eq (I6 u.mx),.eq (I6 (Bd t.mx u.mx)),.eq (P6 d 2),.eq (.slice aa t.args.length ac),.eq (P6 e 2),.eq (.slice g u.args.length j),.eq (I6 (CK t.args u.args)),.gen (Ov (Bd t.kind u.kind) (Cw Cf t.set u.set) (Bd t.mn u.mn) (Bd t.mx u.mx) (CK t.args u.args)) (MB _ _ _ _ _),.eq (I6 (K_ [Bd t.kind u.kind,Cw Cf t.set u.set,Bd t.mn u.mn,Bd t.mx u.mx,CK t.args u.args])),.eq (I6 (K_ [Bd t.kind u.kind,Cw Cf t.set u.set,Bd t.mn u.mn,Bd t.mx u.mx,CK t.args u.args]))]:=⟨_,O⟩;refine Ga [5,6,7,8,9,10,11,12,13,14,15,16,17,18,19,20,21,22,23,24,25,26,27,28,29,30,31,4] [[],[0],[],[2],[1,3],[],[5],[],[7],[4,6,8],[],[10],[],[12],[9,11,13],[],[15],[],[17],[14,16,18],[],[20],[],[22],[19,21,23],[4,9,14,19,24],[24,25],[0,1,2,3,4,5,6,7,8,9,10,11,12,13,14,15,16,17,18,19,20,21,22,23,24,25,26]] M a mixed qK qK ?_ ?_
 .intro wd f;refine DagSteps.cons (λb w' X U H=>dH ⟨?_,?_⟩) ?_
  .exact AE O
  .exact AP (AQ (U 2 O) dI O Al O) (Ah.refl _) O
  refine DagSteps.cons (λb w' X U H=>dH ⟨?_,?_⟩) ?_
  .exact AE O
  .have e5:b 5=(P6 d 0):=H 0 O 5 (.eq (P6 d 0)) O (by rw[a];rfl);exact AP (AJ e5 Ag (((f.trans X).keep o).cell O)) (Ah.refl _) O
  refine DagSteps.cons (λb w' X U H=>dH ⟨?_,?_⟩) ?_
  .exact AE O
  .exact AP (AQ (U 3 O) dI O Al O) (Ah.refl _) O
  refine DagSteps.cons (λb w' X U H=>dH ⟨?_,?_⟩) ?_
  .exact AE O
  .have e7:b 7=(P6 e 0):=H 2 O 7 (.eq (P6 e 0)) O (by rw[a];rfl);exact AP (AJ e7 Ag (((f.trans X).keep q).cell O)) (Ah.refl _) O
  refine DagSteps.cons (λb w' X U H=>dH ⟨?_,?_⟩) ?_
  .exact AE O
  .have e6:b 6=(I6 t.kind):=H 1 O 6 (.eq (I6 t.kind)) O (by rw[a];rfl);have e8:b 8=(I6 u.kind):=H 3 O 8 (.eq (I6 u.kind)) O (by rw[a];rfl);exact A7 (AS lU kQ kQ (F_ e6 e8)) (FE _ _ _)
  refine DagSteps.cons (λb w' X U H=>dH ⟨?_,?_⟩) ?_
  .exact AE O
  .exact AP (AQ (U 2 O) dI O Bc O) (Ah.refl _) O
  refine DagSteps.cons (λb w' X U H=>dH ⟨?_,?_⟩) ?_
  .exact AE O
  .have ak:b 10=(P6 d 1):=H 5 O 10 (.eq (P6 d 1)) O (by rw[a];rfl);exact AP (AJ ak Bf (((f.trans X).keep o).cell O)) (Ah.refl _) O
  refine DagSteps.cons (λb w' X U H=>dH ⟨?_,?_⟩) ?_
  .exact AE O
  .exact AP (AQ (U 3 O) dI O Bc O) (Ah.refl _) O
  refine DagSteps.cons (λb w' X U H=>dH ⟨?_,?_⟩) ?_
  .exact AE O
  .have ah:b 12=(P6 e 1):=H 7 O 12 (.eq (P6 e 1)) O (by rw[a];rfl);exact AP (AJ ah Bf (((f.trans X).keep q).cell O)) (Ah.refl _) O
  refine DagSteps.cons (λb w' X U H=>dH ⟨?_,?_⟩) ?_
  .exact AE O
  .have ag:b 11=(.slice sa t.set.length sc):=H 6 O 11 (.eq (.slice sa t.set.length sc)) O (by rw[a];rfl);have T:b 13=(.slice m u.set.length k):=H 8 O 13 (.eq (.slice m u.set.length k)) O (by rw[a];rfl);exact A7 (AS func180 kQ kQ (F_ ag T)) (XN _ _ _ _ _ (z.ext (Ah.trans E (f.trans X))) (r.ext (Ah.trans E (f.trans X))))
  refine DagSteps.cons (λb w' X U H=>dH ⟨?_,?_⟩) ?_
  .exact AE O
  .exact AP (AQ (U 2 O) dI O Al O) (Ah.refl _) O
  refine DagSteps.cons (λb w' X U H=>dH ⟨?_,?_⟩) ?_
  .exact AE O
  .have S:b 15=(P6 d 3):=H 10 O 15 (.eq (P6 d 3)) O (by rw[a];rfl);exact AP (AJ S Ag (((f.trans X).keep o).cell O)) (Ah.refl _) O
  refine DagSteps.cons (λb w' X U H=>dH ⟨?_,?_⟩) ?_
  .exact AE O
  .exact AP (AQ (U 3 O) dI O Al O) (Ah.refl _) O
  refine DagSteps.cons (λb w' X U H=>dH ⟨?_,?_⟩) ?_
  .exact AE O
  .have am:b 17=(P6 e 3):=H 12 O 17 (.eq (P6 e 3)) O (by rw[a];rfl);exact AP (AJ am Ag (((f.trans X).keep q).cell O)) (Ah.refl _) O
  refine DagSteps.cons (λb w' X U H=>dH ⟨?_,?_⟩) ?_
  .exact AE O
  .have L:b 16=(I6 t.mn):=H 11 O 16 (.eq (I6 t.mn)) O (by rw[a];rfl);have V:b 18=(I6 u.mn):=H 13 O 18 (.eq (I6 u.mn)) O (by rw[a];rfl);exact A7 (AS lU kQ kQ (F_ L V)) (FE _ _ _)
  refine DagSteps.cons (λb w' X U H=>dH ⟨?_,?_⟩) ?_
  .exact AE O
  .exact AP (AQ (U 2 O) dI O Al O) (Ah.refl _) O
  refine DagSteps.cons (λb w' X U H=>dH ⟨?_,?_⟩) ?_
  .exact AE O
  .have aj:b 20=(P6 d 4):=H 15 O 20 (.eq (P6 d 4)) O (by rw[a];rfl);exact AP (AJ aj Ag (((f.trans X).keep o).cell O)) (Ah.refl _) O
  refine DagSteps.cons (λb w' X U H=>dH ⟨?_,?_⟩) ?_
  .exact AE O
  .exact AP (AQ (U 3 O) dI O Al O) (Ah.refl _) O
  refine DagSteps.cons (λb w' X U H=>dH ⟨?_,?_⟩) ?_
  .exact AE O
  .have J:b 22=(P6 e 4):=H 17 O 22 (.eq (P6 e 4)) O (by rw[a];rfl);exact AP (AJ J Ag (((f.trans X).keep q).cell O)) (Ah.refl _) O
  refine DagSteps.cons (λb w' X U H=>dH ⟨?_,?_⟩) ?_
  .exact AE O
  .have Q:b 21=(I6 t.mx):=H 16 O 21 (.eq (I6 t.mx)) O (by rw[a];rfl);have G:b 23=(I6 u.mx):=H 18 O 23 (.eq (I6 u.mx)) O (by rw[a];rfl);exact A7 (AS lU kQ kQ (F_ Q G)) (FE _ _ _)
  refine DagSteps.cons (λb w' X U H=>dH ⟨?_,?_⟩) ?_
  .exact AE O
  .exact AP (AQ (U 2 O) dI O BF O) (Ah.refl _) O
  refine DagSteps.cons (λb w' X U H=>dH ⟨?_,?_⟩) ?_
  .exact AE O
  .have D:b 25=(P6 d 2):=H 20 O 25 (.eq (P6 d 2)) O (by rw[a];rfl);exact AP (AJ D A9 (((f.trans X).keep o).cell O)) (Ah.refl _) O
  refine DagSteps.cons (λb w' X U H=>dH ⟨?_,?_⟩) ?_
  .exact AE O
  .exact AP (AQ (U 3 O) dI O BF O) (Ah.refl _) O
  refine DagSteps.cons (λb w' X U H=>dH ⟨?_,?_⟩) ?_
  .exact AE O
  .have af:b 27=(P6 e 2):=H 22 O 27 (.eq (P6 e 2)) O (by rw[a];rfl);exact AP (AJ af A9 (((f.trans X).keep q).cell O)) (Ah.refl _) O
  refine DagSteps.cons (λb w' X U H=>dH ⟨?_,?_⟩) ?_
  .exact AE O
  .have al:b 26=(.slice aa t.args.length ac):=H 21 O 26 (.eq (.slice aa t.args.length ac)) O (by rw[a];rfl);have ae:b 28=(.slice g u.args.length j):=H 23 O 28 (.eq (.slice g u.args.length j)) O (by rw[a];rfl);exact A7 (AS func181 kQ kQ (aR al ae O)) (YY _ _ _ _ _ _ (ad.ext (Ah.trans E (f.trans X))) (B.ext (Ah.trans E (f.trans X))) (λw x y xs ys _ hx Z N=>CG.mk (first:=#[]) (cap:=#[]) func171 kQ kQ O (ih x y w xs ys (by obtain ⟨i,hi⟩:=eS.1 hx;have:=Re.size_arg hi;omega) Z N)))
  refine DagSteps.cons (λb w' X U H=>dH ⟨?_,?_⟩) ?_
  .exact AE O
  .have e9:b 9=(I6 (Bd t.kind u.kind)):=H 4 O 9 (.eq (I6 (Bd t.kind u.kind))) O (by rw[a];rfl);have I:b 14=(I6 (Cw Cf t.set u.set)):=H 9 O 14 (.eq (I6 (Cw Cf t.set u.set))) O (by rw[a];rfl);have F:b 19=(I6 (Bd t.mn u.mn)):=H 14 O 19 (.eq (I6 (Bd t.mn u.mn))) O (by rw[a];rfl);have P:b 24=(I6 (Bd t.mx u.mx)):=H 19 O 24 (.eq (I6 (Bd t.mx u.mx))) O (by rw[a];rfl);have ab:b 29=(I6 (CK t.args u.args)):=H 24 O 29 (.eq (I6 (CK t.args u.args))) O (by rw[a];rfl);exact SL e9 I F P ab
  refine DagSteps.cons (λb w' X U H=>dH ⟨?_,?_⟩) ?_
  .exact AE O
  .obtain ⟨b30,s,C⟩:=H 25 O 30 (.gen (Ov (Bd t.kind u.kind) (Cw Cf t.set u.set) (Bd t.mn u.mn) (Bd t.mx u.mx) (CK t.args u.args)) (MB _ _ _ _ _)) O (by rw[a];rfl);exact A7 (AS func138 kQ kQ (Ha s)) (Uz _ _ _ (s▸C))
  refine DagSteps.cons (λb w' X U H=>dH ⟨?_,?_⟩) ?_
  .exact AE O
  .have ai:b 31=(I6 (K_ [Bd t.kind u.kind,Cw Cf t.set u.set,Bd t.mn u.mn,Bd t.mx u.mx,CK t.args u.args])):=H 26 O 31 (.eq (I6 (K_ [Bd t.kind u.kind,Cw Cf t.set u.set,Bd t.mn u.mn,Bd t.mx u.mx,CK t.args u.args]))) O (by rw[a];rfl);exact AP (Dg ai) (Ah.refl _) O
  exact DagSteps.nil
 .intro b w3 X3 U H;obtain ⟨j3,rfl⟩:=Ak.out (σ:=b) (l:=[(4,(I6 (K_ [Bd t.kind u.kind,Cw Cf t.set u.set,Bd t.mn u.mn,Bd t.mx u.mx,CK t.args u.args])))]) ⟨(show b 4=(I6 (K_ [Bd t.kind u.kind,Cw Cf t.set u.set,Bd t.mn u.mn,Bd t.mx u.mx,CK t.args u.args])) from H 27 4 (.eq (I6 (K_ [Bd t.kind u.kind,Cw Cf t.set u.set,Bd t.mn u.mn,Bd t.mx u.mx,CK t.args u.args]))) O (by rw[a];rfl)),trivial⟩;clear U H;have o:=X3.keep o;have q:=X3.keep q;have E:=E.ext X3;refine AC (AO (AY results171 (v:=(I6 (K_ [Bd t.kind u.kind,Cw Cf t.set u.set,Bd t.mn u.mn,Bd t.mx u.mx,CK t.args u.args]))) O ?_));exact ⟨O,E⟩
abbrev Ul (k:Int):n_:=[I6 k,.slice none 0 0,.slice none 0 0,I6 0,I6 0,.bool false]
theorem Je (w0:World):Bj prog 144 #[] w0 λv w=>v=.agg (Ul 0).toArray∧Ah w0 w:=by
 refine qR nB rfl ntmps144 rfl (λE=>(AA (BK (c:=#[(I6 0),(.slice none 0 0),(.slice none 0 0),(I6 0),(I6 0),(.bool false)]) qD A1 rfl ?_)));intro b1 w1 N1;have F1:=N1.ge E;have E:=E.ext N1.ext;have B1:=N1.blk;refine AB (AA (qV (B0 (ps:=[(0,(I6 0))]) (v:=(.agg #[(I6 0),(.slice none 0 0),(.slice none 0 0),(I6 0),(I6 0),(.bool false)])) rfl qK) (Aa (b:=b1) (o:=0) (c':=#[(I6 0),(.slice none 0 0),(.slice none 0 0),(I6 0),(I6 0),(.bool false)]) rfl rfl qS AG rfl B1 qL rfl ?_)));intro w2 S2;have E:=S2.step E (by first|exact dH qO|assumption|exact dG rfl|exact dG (by assumption)|exact dG qP|exact dG qO|exact dG (by dsimp only;omega));have B1:=S2.blk;refine AB (AO (A2 results144 (vs:=[(I6 0),(.slice none 0 0),(.slice none 0 0),(I6 0),(I6 0),(.bool false)]) (b:=b1) rfl Ad AG rfl (B1.cells rfl) ?_));exact ⟨rfl,E⟩
theorem GW (w0:World):Bj prog 146 #[] w0 λv w=>v=.agg (Ul 1).toArray∧Ah w0 w:=by
 refine qR lV rfl ntmps146 rfl (λE=>(AA (BK (c:=#[(I6 0),(.slice none 0 0),(.slice none 0 0),(I6 0),(I6 0),(.bool false)]) qD A1 rfl ?_)));intro b1 w1 N1;have F1:=N1.ge E;have E:=E.ext N1.ext;have B1:=N1.blk;refine AB (AA (qV (B0 (ps:=[(0,(I6 1))]) (v:=(.agg #[(I6 1),(.slice none 0 0),(.slice none 0 0),(I6 0),(I6 0),(.bool false)])) rfl qK) (Aa (b:=b1) (o:=0) (c':=#[(I6 1),(.slice none 0 0),(.slice none 0 0),(I6 0),(I6 0),(.bool false)]) rfl rfl qS AG rfl B1 qL rfl ?_)));intro w2 S2;have E:=S2.step E (by first|exact dH qO|assumption|exact dG rfl|exact dG (by assumption)|exact dG qP|exact dG qO|exact dG (by dsimp only;omega));have B1:=S2.blk;refine AB (AO (A2 results146 (vs:=[(I6 1),(.slice none 0 0),(.slice none 0 0),(I6 0),(I6 0),(.bool false)]) (b:=b1) rfl Ad AG rfl (B1.cells rfl) ?_));exact ⟨rfl,E⟩
theorem KR (a:World) (t:Re) (vs:n_) (d:A3 a t vs):Bj prog 143 #[.agg vs.toArray] a λv w=>v=.bool (CC t)∧Ah a w:=by
 obtain ⟨sa,sc,aa,ac,rfl,_,_,_⟩:=d.form;refine qR func143 O ntmps143 O (λE=>(AA (BC (v:=(.agg (R6 t sa sc aa ac))) (c:=(R6 t sa sc aa ac)) qD O O ?_)));intro e w1 b;have E:=E.ext b.ext;have f:=b.blk;refine qA _ O (AB (AA (qF e 0 0 O dI O Al O (qV (AJ O Ag (f.cell O)) (qV (Ai O O) (qA _ O (AB (AO (AY results143 (v:=(.bool (decide ((t.kind:Int)=0)))) O ?_)))))))));exact ⟨O,E⟩
theorem UO (a:World) (t:Re) (vs:n_) (d:A3 a t vs):Bj prog 167 #[.agg vs.toArray] a λv w=>v=.bool (Cl t)∧Ah a w:=by
 obtain ⟨sa,sc,aa,ac,rfl,_,_,_⟩:=d.form;refine qR func167 O ntmps167 O (λE=>(AA (BC (v:=(.agg (R6 t sa sc aa ac))) (c:=(R6 t sa sc aa ac)) qD O O ?_)));intro e w1 b;have E:=E.ext b.ext;have f:=b.blk;refine qA _ O (AB (AA (qF e 0 0 O dI O Al O (qV (AJ O Ag (f.cell O)) (qV (Ai O O) (qA _ O (AB (AO (AY results167 (v:=(.bool (decide ((t.kind:Int)=1)))) O ?_)))))))));exact ⟨O,E⟩
theorem QX (j:World) (t:Re) (vs:n_) (y:A3 j t vs) (q:t.kind=8->t.args≠[]):Bj prog 142 #[.agg vs.toArray] j λv w=>v=.bool (DV t)∧Ah j w:=by
 obtain ⟨sa,sc,aa,ac,rfl,_,_,e⟩:=y.form;refine qR func142 O ntmps142 O (λE=>(AA (BC (v:=(.agg (R6 t sa sc aa ac))) (c:=(R6 t sa sc aa ac)) qD O O ?_)));intro p wr s;have E:=E.ext s.ext;have n:=s.blk;refine qA _ O (AB (AA (qF p 0 0 O dI O Al O (qV (AJ O Ag (n.cell O)) (qV (Ai O O) (qM _ O ?_))))));rcases dT (decide ((t.kind:Int)=8)) with a|a
 .have d:=a;have d:=of_decide_eq_true d;obtain ⟨x,m⟩:=AU (l:=t.args) (i:=0) (gT.2 (q d));obtain ⟨u,r,rfl,g⟩:=EV e (gT.2 (q d));have hpl:=AX m;obtain ⟨us,k,h⟩:=g.get m;obtain ⟨xsa,xsc,xaa,xac,rfl,_,_,_⟩:=h.form;refine AF O O qD (Ar a) (qF p 0 2 O dI O BF O (AF O O qD (Ar a) (qV (AJ O A9 (n.cell O)) (AF O O qD (Ar a) (qV (AL (b:=u) (o:=r) (len:=t.args.length) (cap:=ac) (i:=0) (o':=r+0*6) O O O dJ AG qO qO) (AF O O qD (Ar a) (qF _ _ _ O dI O Al O (AF O O qD (Ar a) (qV (AJ O Ag (E.cell (λf=>f) (k 0 _ O))) (AF O O qD (Ar a) (qV (Ai O O) (qV (Af (v:=(.bool (decide ((x.kind:Int)=0)))) O (by rw[a];rfl)) (qA _ O (AB (AO ?_)))))))))))))));refine AY results142 (v:=(.bool (decide ((x.kind:Int)=0)))) O ?_;exact ⟨A' (by unfold DV;rw[DJ m,d];rfl),E⟩
 .have d:=a;have d:=of_decide_eq_false d;refine AD O O qD (v:=.bool false) (Ar a) (dH O) (AD O O qD (v:=.bool false) (Ar a) (dH O) (AD O O qD (v:=.bool false) (Ar a) (dH O) (AD O O qD (v:=.bool false) (Ar a) (dH O) (AD O O qD (v:=.bool false) (Ar a) (dH O) (AD O O qD (v:=.bool false) (Ar a) (dH O) (qV (Af (v:=(.bool false)) O (by rw[a];rfl)) (qA _ O (AB (AO (AY results142 (v:=(.bool false)) O ?_))))))))));exact ⟨A' (by unfold DV;simp[a]),E⟩
theorem MQ (t:Re):BN t=if t.kind=1∨t.kind=5 then true else if t.kind=3∨t.kind=7∨t.kind=9 then C6 t.args else if t.kind=4 then FO t.args else if t.kind=6 then (decide (t.mn=0) || C6 t.args) else if t.kind=8 then !C6 t.args else if t.kind=10 then (C6 t.args != t.neg) else false:=by
 cases t with
 | mk k s a m x g=>simp only[BN];rfl
theorem WL:∀(n:Nat) (t:Re) (F:World) (vs:n_),t.size<=n->n<=2000000->A3 F t vs->
 Bj prog 93 #[.agg vs.toArray] F λv w=>v=.bool (BN t)∧Ah F w:=by
 intro n
 induction n with
 | zero=>intro t F vs h;have:=t.size_pos;omega
 | succ n ih=>
 intro t F vs hn hnb ht;have ht0:=ht;obtain ⟨sa,sc,aa,ac,rfl,hset,hlen,B⟩:=ht.form;have hal:=Ch t;rw[MQ];refine qR func93 O ntmps93 O (λE=>(AA (BC (v:=(.agg (R6 t sa sc aa ac))) (c:=(R6 t sa sc aa ac)) qD O O ?_)));intro C w1 N1;have E:=E.ext N1.ext;have e:=N1.blk;refine qA _ O (AB (AA (qA _ O (qA _ O (AB (AH (AA (qF C 0 2 O dI O BF O (qV (AJ O A9 (e.cell O)) (qV (AT dJ O) (qM _ O (AB (AW (Ax (λnn_ σ Q=>∃(k:Nat) (a s:Bool),(∃jj_,σ=BW jj_ [(1,(P6 C 0)),(9,(.slice aa t.args.length ac)),(10,(I6 (t.args.length:Int))),(11,(I6 (k:Int))),(3,(.bool a)),(4,(.bool s))])∧Chg Aj F Q∧BV Q C (R6 t sa sc aa ac) 25∧(k<=t.args.length)∧(C6 t.args=(a && C6 (t.args.drop k)))∧(FO t.args=(s || FO (t.args.drop k)))∧nn_=t.args.length - k) (n:=t.args.length - 0) ?_ ?_))))))))))))))
 .exact ⟨0,true,false,oH,E,e,dR _,qP,qP,O⟩
 .clear E e;rintro _ _ Q ⟨k,a,s,⟨j2,rfl⟩,E,e,hk,m,hs,rfl⟩;refine AA (qV (A6 O O) (AB (AH (qC O (λT=>?_) (λT=>?_)))))
  .obtain ⟨x,S⟩:=AU (l:=t.args) (i:=k) qO;obtain ⟨ab,ao,rfl,K⟩:=EV B qO;obtain ⟨us,V,G⟩:=K.get S;obtain ⟨z,r,q,A,rfl,_,_,_⟩:=G.form;rw[Bi S] at m hs;simp only[C6,FO] at m hs;refine AM (AC (AH (AW (AA (qV (AL (b:=ab) (o:=ao) (len:=t.args.length) (cap:=ac) (i:=k) (o':=ao+k*6) O O O dJ AG qO qO) (qV (AI O Ad AG O (V.ext E)) (As (v:=(.agg (R6 x z r q A))) (c:=(R6 x z r q A)) (n:=6) qD A1 O AG O O O qS ?_)))))));intro b4 w4 R;have E:=E.ext R.ext;have W:=R.blk;refine AB (AA (qV (AI (vs:=(oJ x z r q A)) O Ad AG O (W.cells O)) (qE O (AS func93 kQ kQ O) (ih x _ _ (by have:=Re.size_arg S;omega) qO (A3.ext E x G)) ?_)));rintro _ w9 ⟨rfl,X9⟩;have e:=X9.keep (R.keep e);have W:=X9.keep W;have E:=E.ext X9;refine qA _ O (AB (AN (qM _ O (qM _ O ?_))));rcases dT (a) with f|f
   .have Z:=f;refine AF O O qD (Ar f) (qM _ O (qV (Af (v:=(.bool (BN x))) O (by rw[f];rfl)) (qM _ O (qM _ O ?_))));rcases dT (s) with d|d
    .have y:=d;refine AD O O qD (v:=.bool true) (Ar d) (dH O) (qV (Af (v:=(.bool true)) O (by rw[d];rfl)) (qA _ O (qA _ O (AB (AV (AC (AN (qV (A0 O O (A8 qO)) (qM _ O (AB (AC ?_)))))))))));exact ⟨t.args.length - (k+1),qO,k+1,BN x,true,oH,E,e,qO,(by rw[m,f];rfl),(by rw[hs,d];rfl),O⟩
    .have y:=d;refine AF O O qD (Ar d) (qM _ O (qV (Af (v:=(.bool (BN x))) O (by rw[d];rfl)) (qA _ O (qA _ O (AB (AV (AC (AN (qV (A0 O O (A8 qO)) (qM _ O (AB (AC ?_))))))))))));exact ⟨t.args.length - (k+1),qO,k+1,BN x,BN x,oH,E,e,qO,(by rw[m,f];rfl),(by rw[hs,d];rfl),O⟩
   .have Z:=f;refine AD O O qD (v:=.bool false) (Ar f) (dH O) (qV (Af (v:=(.bool false)) O (by rw[f];rfl)) (qM _ O (qM _ O ?_)));rcases dT (s) with d|d
    .have y:=d;refine AD O O qD (v:=.bool true) (Ar d) (dH O) (qV (Af (v:=(.bool true)) O (by rw[d];rfl)) (qA _ O (qA _ O (AB (AV (AC (AN (qV (A0 O O (A8 qO)) (qM _ O (AB (AC ?_)))))))))));exact ⟨t.args.length - (k+1),qO,k+1,false,true,oH,E,e,qO,(by rw[m,f];rfl),(by rw[hs,d];rfl),O⟩
    .have y:=d;refine AF O O qD (Ar d) (qM _ O (qV (Af (v:=(.bool (BN x))) O (by rw[d];rfl)) (qA _ O (qA _ O (AB (AV (AC (AN (qV (A0 O O (A8 qO)) (qM _ O (AB (AC ?_))))))))))));exact ⟨t.args.length - (k+1),qO,k+1,false,BN x,oH,E,e,qO,(by rw[m,f];rfl),(by rw[hs,d];rfl),O⟩
  .have U:t.args.drop k=[]:=fR qO;rw[U] at m hs;have X:C6 t.args=a:=by rw[m];simp[C6]
   have ad:FO t.args=s:=by rw[hs];simp[FO]
   rw[X,ad];refine Av (AZ (AZ (Ao (AC (AH (AA (qF C 0 0 O dI O Al O (qV (AJ O Ag (e.cell O)) (AB (AW (AH (AA (qV (Ai O O) (qA _ O (AB (qC O (λM=>?_) (λM=>?_)))))))))))))))))
   .have I:=decide_eq_true M;refine AM (AC (Aq (Ar I) (AA (qA _ O (AB (AO (Ac (AK (AY jC (v:=(.bool true)) O ?_)))))))));exact ⟨A' (by rw[if_pos (.inl M)]),E⟩
   .have I:=decide_eq_false M;refine AN (qV (Ai O O) (qA _ O (AB (AC (qC O (λh5=>?_) (λh5=>?_))))))
    .refine AA (qA _ O (AB (AO (Ac (AK (AY jC (v:=(.bool true)) O ?_))))));exact ⟨A' (by rw[if_pos (.inr h5)]),E⟩
    .rw[if_neg (show ¬(t.kind=1∨t.kind=5) by omega)];refine AH (AA (qV (Ai O O) (qA _ O (AB (qC O (λN=>?_) (λN=>?_))))))
     .have H:=decide_eq_true N;refine AM (AC (Aq (Ar H) (AA (qM _ O (qA _ O (AB (AO (Ac (AK (AY jC (v:=(.bool a)) O ?_))))))))));exact ⟨A' (by rw[if_pos (.inl N)]),E⟩
     .have H:=decide_eq_false N;refine AA (qV (Ai O O) (qA _ O (AB (qC O (λL=>?_) (λL=>?_)))))
      .have J:=decide_eq_true L;refine AM (AC (Aq (Ar J) (AA (qM _ O (qA _ O (AB (AO (Ac (AK (AY jC (v:=(.bool a)) O ?_))))))))));exact ⟨A' (by rw[if_pos (.inr (.inl L))]),E⟩
      .have J:=decide_eq_false L;refine AN (qV (Ai O O) (qA _ O (AB (AC (qC O (λh9=>?_) (λh9=>?_))))))
       .refine AA (qM _ O (qA _ O (AB (AO (Ac (AK (AY jC (v:=(.bool a)) O ?_)))))));exact ⟨A' (by rw[if_pos (.inr (.inr h9))]),E⟩
       .rw[if_neg (show ¬(t.kind=3∨t.kind=7∨t.kind=9) by omega)];refine AA (qV (Ai O O) (qA _ O (AB (qC O (λu=>?_) (λu=>?_)))))
        .refine AA (qM _ O (qA _ O (AB (AO (Ac (AK (AY jC (v:=(.bool s)) O ?_)))))));exact ⟨A' (by rw[if_pos u]),E⟩
        .refine AA (qV (Ai O O) (qA _ O (AB (qC O (λD=>?_) (λD=>?_)))))
         .refine AA (qF C 0 3 O dI O Al O (qV (AJ O Ag (e.cell O)) (qV (Ai O O) (qM _ O ?_))));rcases dT (decide ((t.mn:Int)=0)) with j|j
          .have g:=j;have g:=of_decide_eq_true g;refine AD O O qD (v:=.bool true) (Ar j) (dH O) (qV (Af (v:=(.bool true)) O (by rw[j];rfl)) (qA _ O (AB (AO (Ac (AK (AY jC (v:=(.bool true)) O ?_)))))));exact ⟨A' (by rw[if_neg u,if_pos D];simp[j]),E⟩
          .have g:=j;have g:=of_decide_eq_false g;refine AF O O qD (Ar j) (qM _ O (qV (Af (v:=(.bool a)) O (by rw[j];rfl)) (qA _ O (AB (AO (Ac (AK (AY jC (v:=(.bool a)) O ?_))))))));exact ⟨A' (by rw[if_neg u,if_pos D];simp[j]),E⟩
         .refine AA (qV (Ai O O) (qA _ O (AB (qC O (λP=>?_) (λP=>?_)))))
          .refine AA (qM _ O (qV (C1 O) (qA _ O (AB (AO (Ac (AK (AY jC (v:=(.bool (!a))) O ?_))))))));exact ⟨A' (by rw[if_neg u,if_neg D,if_pos P]),E⟩
          .refine AA (qV (Ai O O) (qA _ O (AB (qC O (λp=>?_) (λp=>?_)))))
           .refine AA (qM _ O (qF C 0 5 O dI O G8 O (qV (AJ O HG (e.cell O)) (qV (J7 hU O O) (qA _ O (AB (AO (Ac (AK (AY jC (v:=(.bool (a != t.neg))) O ?_))))))))));exact ⟨A' (by rw[if_neg u,if_neg D,if_neg P,if_pos p]),E⟩
           .refine AM (AV (AC (AA (qA _ O (AB (AO (AY jC (v:=(.bool false)) O ?_)))))));exact ⟨A' (by rw[if_neg u,if_neg D,if_neg P,if_neg p]),E⟩
theorem Sg {S:oD} {w:World} {v:Value} {ts:List Re} (h:CE S w v ts):Hn w v ts:=by
 obtain ⟨aa,ac,a,d,c⟩:=h;refine ⟨aa,ac,a,d,?_⟩;rcases c with h|⟨b,o,_,f,e⟩
 .exact .inl h
 .exact .inr ⟨b,o,f,BM.at ts e⟩
theorem HS (k:Int) (z:Re) (l:List Re):(l.length=0->CT k z l=z)∧(∀x,l.length=1->l[0]?=some x->CT k z l=x)∧(2<=l.length->CT k z l=.mk k [] l 0 0 false):=by
 refine ⟨λh=>by rw[eD h];rfl,λx h a=>?_,Ob⟩;rw[QF h a];rfl
theorem MS (w0:World) (S:Nat→Prop) (v:Value) (ts:List Re) (h:CE S w0 v ts) (hS:∀x,S x→x<w0.heap.size) (hne:∀x∈ts,x.kind=3→x.args≠[]) (hsz:Re.sizes ts≤1000000) :
  Bj prog 140 #[v] w0 λr w=>(∃vs,r=.agg vs.toArray∧AR (λb=>S b∨w0.heap.size≤b) w (De ts) vs)∧Ah w0 w:=by
 have h0:=h;obtain ⟨aa0,ac0,rfl,a4,_⟩:=h;have hls:=EC ts;have ap:=LE 3 ts ts.length;rw[eE] at ap;obtain ⟨D,hD⟩:∃D,D=ET Cl (BS 3 ts):=⟨_,rfl⟩;have hDl:D.length≤(BS 3 ts).length:=by rw[hD];exact jQ _ _
 have aw:De ts=if (D.any CC)=true then BO else CT 3 BT D:=by rw[hD];rfl
 rw[aw];obtain ⟨bf,a6,a2⟩:=HS 3 BT D;refine qR nC rfl ntmps140 rfl (λE=>(AA (BK (c:=#[(I6 0),(.slice none 0 0),(.slice none 0 0),(I6 0),(I6 0),(.bool false)]) qD A1 rfl ?_)));intro bo wo No;have Fo:=No.ge E;have E:=E.ext No.ext;have Bo:=No.blk;refine AB (AA (qM _ rfl ?_));obtain ⟨ab,ae⟩:∃ab,ab=wo.heap.size:=⟨_,rfl⟩;have hob:bo<ab:=by rw[ae];exact Bo.lt
 have hwb:w0.heap.size≤ab:=qO
 have E2:Chg Aj wo wo:=Chg.refl _ _;refine qE rfl (AS func166 kQ kQ rfl) (WE _ S 3 _ ts (h0.ext E) hne hsz) ?_;rintro _ wf ⟨la,lc,ar,rfl,al,be,Xf⟩;have Bo:=Xf.keep Bo;have E:=E.ext Xf;rw[←ae] at al;have E2:Chg Aj wo wf:=Xf;have hbs:ab≤wf.heap.size:=by rw[ae];exact Xf.size
 refine qE rfl (AS func165 kQ kQ rfl) ((Y1 wo _ ab S _ _ (BS 3 ts) ar Cl E2 al be (λx hx=>by have:=hS x hx;omega) qO (λw x vs _ hx=>CG.mk (first:=#[]) (cap:=#[]) func167 kQ kQ rfl (UO w x vs hx))).mono (R':=λr w=>∃la lc rows',r=.slice la D.length lc∧w.ownsRow ab FR 6 r D.length rows'.flatten∧Ap S wo D rows'∧Chg (λx=>ab≤x) wf w) (λr w h9=>by rw[hD];exact h9)) ?_;rintro _ wd ⟨ah,af,ay,rfl,ad,ai,Cd⟩;have Bo:=Cd.keep qO Bo;have E:=E.step Cd (by intro x hx hm;omega);have E2:=E2.step Cd (by intro x hx hm;omega);have ak:Hn wd (.slice ah D.length af) D:=VV ad (ai.ext E2) rfl;refine qA _ rfl (AB (AH (AA (qM _ rfl (qE rfl (AS func168 kQ kQ rfl) (Tp _ _ _ D CC ak (λw x vs _ _ hx=>CG.mk (first:=#[]) (cap:=#[]) func143 kQ kQ rfl (KR w x vs hx))) ?_)))));rintro _ an ⟨rfl,ao⟩;have Bo:=ao.keep Bo;have E:=E.ext ao;have E2:=E2.ext ao;have ad:=Az ad ao;obtain ⟨bd,am⟩:=Eo ad (ai.ext E2) rfl;refine AB (A4 rfl (λhn=>?_) (λhn=>?_))
 ·have ba:=hn;refine AA (qE rfl (AS nB kQ kQ rfl) (Je _) ?_);rintro _ bc ⟨rfl,aj⟩;have Bo:=aj.keep Bo;have E:=E.ext aj;refine Aa (b:=bo) (o:=0) (c':=#[(I6 0),(.slice none 0 0),(.slice none 0 0),(I6 0),(I6 0),(.bool false)]) rfl rfl qS AG rfl Bo qL rfl ?_;intro w2 S2;have E:=S2.step E (by first|exact dH qO|assumption|exact dG rfl|exact dG (by assumption)|exact dG qP|exact dG qO|exact dG (by dsimp only;omega));have Bo:=S2.blk;refine AB (AO (AK (A2 nF (vs:=[(I6 0),(.slice none 0 0),(.slice none 0 0),(I6 0),(I6 0),(.bool false)]) (b:=bo) rfl Ad AG rfl (Bo.cells rfl) ?_)));exact ⟨⟨_,rfl,by rw[if_pos hn];exact CF _ _ _⟩,E⟩
 ·have ba:=hn;rw[if_neg (by rw[hn];decide)];refine AM (AC (AH (AA (qM _ rfl (qV (AT dJ rfl) (AB (AW (AA (qV (Ai rfl rfl) (qA _ rfl (AB (qC rfl (λbb=>?_) (λbb=>?_)))))))))))))
  ·refine AA (qE rfl (AS lV kQ kQ rfl) (GW _) ?_);rintro _ bc ⟨rfl,aj⟩;have Bo:=aj.keep Bo;have E:=E.ext aj;refine Aa (b:=bo) (o:=0) (c':=#[(I6 1),(.slice none 0 0),(.slice none 0 0),(I6 0),(I6 0),(.bool false)]) rfl rfl qS AG rfl Bo qL rfl ?_;intro w4 S4;have E:=S4.step E (by first|exact dH qO|assumption|exact dG rfl|exact dG (by assumption)|exact dG qP|exact dG qO|exact dG (by dsimp only;omega));have Bo:=S4.blk;refine AB (AO (Ac (AK (A2 nF (vs:=[(I6 1),(.slice none 0 0),(.slice none 0 0),(I6 0),(I6 0),(.bool false)]) (b:=bo) rfl Ad AG rfl (Bo.cells rfl) ?_))));exact ⟨⟨_,rfl,by rw[bf qO];exact CF _ _ _⟩,E⟩
  ·refine AA (qV (Ai rfl rfl) (qA _ rfl (AB (qC rfl (λa3=>?_) (λa3=>?_)))))
   ·obtain ⟨x,hx⟩:=AU (l:=D) (i:=0) qO;obtain ⟨lb,a8,a5,aq,a1⟩:=am.resolve_left (λh=>by rw[h] at hx;simp at hx);subst aq;obtain ⟨xs,a7,az⟩:=a1 0 x hx;have au:=az;obtain ⟨sa,sc,aa,ac,rfl,_,_,_⟩:=az.form;have ag:Chg (λy=>y=bo) (an) (an):=Chg.refl _ _;refine AA (qM _ rfl (qV (AL (b:=lb) (o:=0) (len:=D.length) (cap:=af) (i:=0) (o':=0) rfl rfl rfl dJ AG qO qO) (qV (AI rfl Ad AG rfl (a7)) (Aa (b:=bo) (o:=0) (c':=(R6 x sa sc aa ac)) rfl rfl qS AG rfl Bo qL rfl ?_))));intro w6 S6;have ag:=S6.chg;have E:=S6.step E (by first|exact dH qO|assumption|exact dG rfl|exact dG (by assumption)|exact dG qP|exact dG qO|exact dG (by dsimp only;omega));have Bo:=S6.blk;refine AB (AO (Ac (AK (A2 nF (vs:=(oJ x sa sc aa ac)) (b:=bo) rfl Ad AG rfl (Bo.cells rfl) ?_))));exact ⟨⟨_,rfl,by rw[a6 x qO hx];exact AR.mono (λy hy=>.inl hy) x (AR.chg ag (λy hy h=>by have h1:=hS y hy;have h2:y=bo:=h;omega) x au)⟩,E⟩
   ·have ag:Chg (λy=>y=bo) (an) (an):=Chg.refl _ _;refine AM (AV (AC (AA (qM _ rfl (qV (B0 (ps:=[(0,(I6 3)),(2,(.slice ah D.length af))]) (v:=(.agg #[(I6 3),(.slice none 0 0),(.slice ah D.length af),(I6 0),(I6 0),(.bool false)])) rfl qK) (Aa (b:=bo) (o:=0) (c':=#[(I6 3),(.slice none 0 0),(.slice ah D.length af),(I6 0),(I6 0),(.bool false)]) rfl rfl qS AG rfl Bo qL rfl ?_))))));intro w7 S7;have ag:=S7.chg;have E:=S7.step E (by first|exact dH qO|assumption|exact dG rfl|exact dG (by assumption)|exact dG qP|exact dG qO|exact dG (by dsimp only;omega));have Bo:=S7.blk;refine AB (AO (A2 nF (vs:=[(I6 3),(.slice none 0 0),(.slice ah D.length af),(I6 0),(I6 0),(.bool false)]) (b:=bo) rfl Ad AG rfl (Bo.cells rfl) (⟨⟨_,rfl,?_⟩,E⟩)));rw[a2 qO];refine AR.of (set:=[]) (B_.nil _ _ _ _ _) bd ?_;rcases am with h|⟨ob,a0,a9,ax,av⟩
    ·exact .inl h
    ·refine .inr ⟨ob,0,.inr qO,ax,D5 λi t ht=>?_⟩;obtain ⟨vs,h6,h7⟩:=av i t ht;exact ⟨vs,h6.chg ag (λh=>by have h':ob=bo:=h;omega),AR.mono (λy hy=>.inl hy) t (AR.chg ag (λy hy h=>by have h1:=hS y hy;have h2:y=bo:=h;omega) t h7)⟩
theorem MK {α:Type} [Inhabited α] (enc:α->List Value) (k:Nat) (i:0<k) (b:∀x,(enc x).length=k) (d:List α):(flatK enc k d.toArray).toList=(d.map enc).flatten:=by
 have hrl:(d.map enc).flatten.length=d.length*k:=by
  have:=Ck (k:=k) (rows:=d.map enc) (λr c=>by obtain ⟨x,_,rfl⟩:=eU.1 c;exact b x)
  rwa [dW] at this
 apply fW;intro t;by_cases a:t<d.length*k
 .have hi:t / k<d.length:=Nat.div_lt_of_lt_mul (by rw[nT];exact a);have h:t % k<k:=Nat.mod_lt _ i;have j:(d.map enc)[t / k]?=some (enc d[t / k]):=by rw[eN,dM hi];rfl
  have l:(enc d[t / k])[t % k]?=some ((enc d[t / k])[t % k]'(by rw[b];exact h)):=dM _;have g:=Lj (k:=k) (rows:=d.map enc) (rest:=[]) (λr c=>by obtain ⟨x,_,rfl⟩:=eU.1 c;exact b x) j _ _ l;rw[gD,Nat.div_add_mod'] at g;rw[g];have f:=get_flatK enc k d.toArray t (by simpa using a);have e:t<(flatK enc k d.toArray).size:=by rw[size_flatK];simpa using a
  rw[getElem!_pos _ t e] at f;rw[gC,dV e,f];have m:d.toArray[t / k]! = d[t / k]:=by rw[getElem!_pos d.toArray _ (by simpa using hi)];simp
  rw[m,getElem!_pos _ _ (by rw[b];exact h)]
 .rw[eR (by rw[h_,size_flatK];simpa using a),eR qO]
theorem RL {α:Type} [Inhabited α] (enc:α->List Value) (k:Nat) (o:0<k) (q:∀x,(enc x).length=k) {w:World} {base e g n c:Nat} {d:List α} (h:w.ownsRow base e k (.slice (oI g 0) n c) n (d.map enc).flatten) (hn:d.length=n):HoldsK enc k w g 0 d.toArray:=by
 intro j l;rw[size_flatK] at l;have i:=MK enc k o q d;have a:j<(flatK enc k d.toArray).size:=by rw[size_flatK];exact l
 rw[getElem!_pos _ j a];have p:(d.map enc).flatten[j]?=some (flatK enc k d.toArray)[j]:=by rw[<-i,gC,dV a]
 have f:=h.cells (g:=g) O j _ p;rw[Addr.add_lit] at f;refine ⟨f,?_⟩;rcases h.2 with ⟨f,_⟩|⟨g',cap,cur,b,_,m,_⟩
 .simp at f
 .simp only[Value.slice.injEq] at b;obtain ⟨b,_⟩:=b;simp only[fI,Addr.mk.injEq,and_true] at b;subst b;simp[World.frozen?,m]
theorem RK {α:Type} [Inhabited α] (enc:α->List Value) (k:Nat) (A:0<k) (v:∀x,(enc x).length=k) {w:World} {base e g n c m:Nat} {os:Array Obj} {d:List α} {xs:n_} (h:w.ownsRow base e k (.slice (oI g 0) n c) n xs) (hn:d.length=n):(sortWorldK enc k w g 0 m d.toArray os).ownsRow base e k (.slice (oI g 0) n c) n (d.map enc).flatten:=by
 have a:(d.map enc).flatten.length=d.length*k:=by
  have:=Ck (k:=k) (rows:=d.map enc) (λr y=>by obtain ⟨x,_,rfl⟩:=eU.1 y;exact v x)
  rwa [dW] at this
 rcases h.2 with ⟨z,_⟩|⟨g',cap,i,j,l,s,f,q,b,htake⟩
 .simp at z
 .simp only[Value.slice.injEq,true_and] at j;obtain ⟨j,rfl⟩:=j;simp only[fI,Addr.mk.injEq,and_true] at j;subst j;have p:g<w.heap.size:=(fT.1 s).1;refine ⟨by rw[a,hn],.inr ⟨g,c,putCells id 0 (flatK enc k d.toArray) i,O,l,?_,f,q,by simp[putCells,b],?_⟩⟩
  .unfold sortWorldK grow putRowK putRow mapBlock Sort.ahead;dsimp only;rw[iW (by simpa using p),iV,if_pos O,s];rfl
  .have hle:n*k<=c*k:=iC k f;apply fW;intro t;by_cases u:t<n*k
   .rw[lZ,if_pos u,gC];have o:t<(flatK enc k d.toArray).size:=by rw[size_flatK];simpa[hn] using u
    rw[<-MK enc k A v d,gC,dV o];simp only[putCells,Array.getElem?_mapIdx];rw[dV (show t<i.size by rw[b];omega)];simp only[iF,dR,true_and,eO,Nat.sub_zero,id];rw[if_pos o,getElem!_pos _ t o]
   .rw[eR (by rw[gE];omega),eR (by rw[a,hn];omega)]
theorem LW {α:Type} [Inhabited α] (enc:α->List Value) (k:Nat) (w:World) (g c m:Nat) (d:Array α) (os:Array Obj):Chg (λx=>x=g) w (sortWorldK enc k w g c m d os):=by
 refine ⟨O,O,O,lB _ _,?_,λb hb a=>?_⟩
 .simp[sortWorldK,grow,putRowK,putRow,mapBlock,ahead]
 .simp only[sortWorldK,grow,putRowK,putRow,mapBlock,ahead];rw[iW (by simpa using hb),iV,if_neg (λh=>a h.symm)];rfl
theorem MO {P : Program} {f : FuncId} {a : Func} (b : P.funcs[f]? = some a) (hn : (a.name == "runtime.NumGoroutine") = false) (hb : a.body.isNone = false) : ∀ args w, (callFunc f args).run P w = .ok (.enter f args) w := λargs w => IJ (vs := args) (w := w) b hn hb
structure RRow (S:oD) (w:World) where
 t:Re
 vs:List Value
 h:AR S w t vs
instance {S:oD} {w:World}:Inhabited (RRow S w):=⟨⟨_,_,CF S w 0⟩⟩
def Jd {S:oD} {w:World} (r:RRow S w):n_:=r.vs
def bJ {S:oD} {w:World} (x y:RRow S w):Int:=CS x.t y.t
theorem R4 {S:oD} {w:World} (x y:RRow S w):bJ x y<0↔CS x.t y.t<0:=Iff.rfl
theorem bQ {S:oD} {w:World}:SWO (ltOf (bJ (S:=S) (w:=w))):=by
 refine ⟨λx=>?_,λx y z=>?_,λx y z=>?_⟩
 .have:=CP x.t x.t;simp only[ltOf,decide_eq_false_iff_not,R4];omega
 .have a:=CP x.t y.t;have b:=CP y.t z.t;have c:=CP x.t z.t;have a':=CP y.t x.t;have b':=CP z.t y.t;have c':=CP z.t x.t;have e:=LQ x.t y.t z.t;have d:=LQ z.t y.t x.t;unfold Jr at e d;simp only[ltOf,decide_eq_true_eq,decide_eq_false_iff_not,R4];omega
 .have a:=CP x.t y.t;have b:=CP y.t z.t;have c:=CP x.t z.t;have a':=CP y.t x.t;have b':=CP z.t y.t;have c':=CP z.t x.t;have e:=LQ x.t y.t z.t;have d:=LQ z.t y.t x.t;unfold Jr at e d;simp only[ltOf,decide_eq_true_eq,decide_eq_false_iff_not,R4];omega
theorem SA (a:World) (_:170=170:=rfl):Bj prog 107 #[.int .u64 0] a λv w=>v=I6 (Lib.bitLen 0:Nat)∧Ah a w:=
 (Any.bits_Len (SlLaysF0.n15.bits (P:=prog) (ρ:=Tryz.sortRe_ren) {Tryz.sortRe with}) 0 a qO qO).mono λ_ _ ⟨b,c⟩=>⟨_,b,O,by rw[c];exact Ah.refl _⟩
theorem YH (b:World) (a:oE) (c:Nat) (fv:Value):Bj prog 188 #[.slice a 0 c,I6 0,I6 0,fv] b λv w=>v=.tuple #[]∧Ah b w:=by
 refine qR func188 O ntmps188 O (λE=>(AA (qM _ O (qV (A0 (c:=1) O O qD) (qA _ O (AB (AW (Ax (λnn_ σ d=>(∃jj_,σ=BW jj_ [(0,(.slice a 0 c)),(1,(I6 0)),(2,(I6 0)),(3,fv),(8,(I6 1))])∧Chg Aj b d∧nn_=(0:Nat)) (n:=(0:Nat)) ?_ ?_))))))))
 .exact ⟨oH,E,O⟩
 .clear E;rintro _ _ d ⟨⟨j1,rfl⟩,E,rfl⟩;refine AH (AA (qM _ O (qM _ O (qV (A6 O O) (AB (Ae O (Av (AZ (AZ (Ao (GU results188 ?_)))))))))));exact ⟨O,E⟩
theorem Xm (b:World) (a:oE) (c:Nat) (n:Int) (fv:Value):Bj prog 179 #[.slice a 0 c,I6 0,I6 0,I6 n,fv] b λv w=>v=.tuple #[]∧Ah b w:=by
 refine qR func179 O ntmps179 O (λE=>(AA (qA _ O (AB (AA (qA _ O (AB (AW (Ax (λnn_ σ d=>(∃jj_,σ=BW jj_ [(0,(.slice a 0 c)),(1,(I6 0)),(2,(I6 0)),(4,fv)])∧Chg Aj b d∧nn_=(0:Nat)) (n:=(0:Nat)) ?_ ?_)))))))))
 .exact ⟨oH,E,O⟩
 .clear E;rintro _ _ d ⟨⟨j1,rfl⟩,E,rfl⟩;refine AW (AA (qM _ O (qM _ O (qV (DZ (c:=0) O O qD) (qA _ O (AB (AH (AA (qM _ O (qV (ER O O) (AB (Aq O (AA (qM _ O (qM _ O (qM _ O (qM _ O ?_)))))))))))))))));refine qE O (AS func188 kQ kQ O) (YH _ a c fv) ?_;rintro _ w9 ⟨rfl,e⟩;have E:=E.ext e;refine AB (AO (AK (Ac (AK (Ac (IW results179 ?_))))));exact ⟨O,E⟩
theorem Uy (b:World) (a:oE) (c:Nat) (fv:Value):Bj prog 170 #[.slice a 0 c,fv] b λv w=>v=.tuple #[]∧Ah b w:=by
 refine qR func170 O ntmps170 O (λE=>(AA (qM _ O (qV (AT dJ O) (qA _ O (AB (AN (qM _ O (qM _ O (qM _ O (qV (NS (c:=0) ⟨_,fY⟩ jZ O (aB qO)) (qE O (AS func107 kQ kQ O) (SA _) ?_))))))))))));rintro _ w8 ⟨rfl,e⟩;refine qM _ O (qE O (AS func179 kQ kQ O) (Xm _ a c _ fv) ?_);rintro _ w9 ⟨rfl,d⟩;have E:=(E.ext e).ext d;refine AB (GU results170 ?_);exact ⟨O,E⟩
theorem XP (C c:World) (S:oD) (base:Nat) (v:Value) (ts:List Re) (rows:List n_) (X:Ah C c) (h:c.ownsRow base FR 6 v ts.length rows.flatten) (hr:Ap S C ts rows) (hS:∀x,S x->x<base) (hl:ts.length<=1000000) :
 Bj prog 170 #[v,.func (.func 171) #[] #[]] c λr w=>r=.tuple #[]∧(∃E Z,E.Perm ts∧E.Pairwise (λx y=>CS x y<=0)∧w.ownsRow base FR 6 v E.length Z.flatten∧Ap S C E Z)∧Chg (λx=>v.ownBlock=some x) c w:=by
 have eg:=MO func171 kQ kQ;rcases h.2 with ⟨rfl,h0⟩|⟨g,cap,cur,rfl,hbg,W,J,hcm,hcs,o⟩
 .have hd:ts=[]:=eD h0;subst hd;exact (Uy c none 0 (.func (.func 171) #[] #[])).mono λv w' ⟨hv,K⟩=>⟨hv,⟨[],[],List.Perm.refl _,List.Pairwise.nil,World.ownsRow_nil _ _ _ _,O⟩,Ah.chg K⟩
 .obtain ⟨d,z,H⟩:∃d:List (RRow S C),d.map (·.t)=ts∧d.map Jd=rows:=by
   clear h W o J hl
   induction ts generalizing rows with
   | nil=>
    have I:rows=[]:=hr;exact ⟨[],O,I.symm⟩
   | cons t ts ih=>
    obtain ⟨r,rs,rfl,h1,h2⟩:=hr;obtain ⟨d,p,F⟩:=ih rs h2;exact ⟨⟨t,r,h1⟩::d,by simp[p],by simp[F,Jd]⟩
  have k:d.length=ts.length:=by rw[<-z,dW]
  have R:∀x:RRow S C,(Jd x).length=6:=λx=>AR.len x.h;have ht:∀w,(isAgg (Tryz.sortRe_ren.t 24)).run prog w=.ok true w:=λw=>Jo.run Ad w;have hs:∀w,(Go.sizeOf (Tryz.sortRe_ren.t 24)).run prog w=.ok 6 w:=λw=>AG.run w;have hH:=RL Jd 6 qD R (d:=d) (by rw[H];exact h) k;have B:g<c.heap.size:=(fT.1 W).1;have hc:CmpLays prog 171 #[] Jd 6 bJ g 0 d.toArray.size c:=λm os G _ x y=>by
   have D:=LW Jd 6 c g 0 m G os;have s:A3 (sortWorldK Jd 6 c g 0 m G os) x.t x.vs:=AR.at x.t (AR.chg D (λb hb P=>by have:=hS b hb;have M:b=g:=P;omega) x.t (AR.ext X x.t x.h));have hy:A3 (sortWorldK Jd 6 c g 0 m G os) y.t y.vs:=AR.at y.t (AR.chg D (λb hb P=>by have:=hS b hb;have M:b=g:=P;omega) y.t (AR.ext X y.t y.h));refine Calls.mono (Xp _ x.t y.t _ _ _ (dU _) s hy) ?_;rintro e w' ⟨v,rfl,rfl,s⟩;obtain ⟨q,L,K⟩:=Ah.grown s;exact ⟨O,q,L,K⟩
  have A:=AnyQ.slices_SortFunc Tryz.sortRe 6 ht hs Jd R (λx u hu=>A3.one (AR.at x.t x.h) u hu) bJ bQ 171 #[] g 0 cap d.toArray c eg hc hH B (by simp;omega);have V:ts.length=d.toArray.size:=by simp[k]
  rw[V];refine Calls.mono A ?_;rintro e w' ⟨rfl,a,n,os,hp,N,rfl⟩;have f:a.size=d.length:=by have:=hp.1;simpa using this
  have l:a.toList.Perm d:=by
   have p:=hp.2.2;simp only[fQ] at p;rw[show d.length=a.size from f.symm,Array.extract_size] at p;rw[f] at p;simpa using p
  refine ⟨_,O,O,⟨a.toList.map (·.t),a.toList.map Jd,by rw[<-z];exact l.map _,?_,?_,?_⟩,(LW Jd 6 c g 0 n a os).mono λx _ s=>by subst s;rfl⟩
  .rw[List.pairwise_map,fB];intro i j hi T Q;have F:=N i j (dR _) Q (by simp at T⊢;omega);simp only[h_] at hi T;rw[getElem!_pos a i hi,getElem!_pos a j T] at F;have h5:¬CS a[j].t a[i].t<0:=of_decide_eq_false F;have h6:=CP a[i].t a[j].t;simp only[Array.getElem_toList];omega
  .have U:=RK Jd 6 qD R (m:=n) (os:=os) (d:=a.toList) h (by rw[h_,f,k]);rw[Array.toArray_toList] at U;rw[dW,h_,f,k,<-V];exact U
  .generalize a.toList=q
   induction q with
   | nil=>rfl
   | cons x q ih=>exact ⟨Jd x,q.map Jd,O,x.h,ih⟩
def Mx:Option Re->List Re->List Re
  | _,[]=>[]
  | none,x::l=>x::Mx (some x) l
  | some y,x::l=>if BU x y=true then Mx (some x) l else x::Mx (some x) l
theorem Tm (x y:Re):BU x y=BU y x:=by
 rw[fZ,BY,BY];exact eq_comm
theorem Rw:∀(x:Re) (l:List Re),Ey (x::l)=x::Mx (some x) l
 | x,[]=>rfl
 | x,y::l=>by
  simp only[Ey,Mx,Tm y x];split
  .rename_i h
   rw[Rw y l,(BY x y).1 h]
  .rw[Rw y l]
theorem YR (l:List Re):Ey l=Mx none l:=by
 cases l with
 | nil=>rfl
 | cons x l=>exact Rw x l
theorem Sz:∀(l:List Re) (p:Option Re) (x:Re),Mx p (l++[x])=Mx p l++(match l.getLast?.or p with|some y=>if BU x y=true then [] else [x]|none=>[x])
 | [],none,x=>rfl
 | [],some y,x=>by
  simp only[fO,Mx,List.getLast?_nil,Option.none_or]
 | z::l,p,x=>by
  have ih:=Sz l (some z) x;have a:(z::l).getLast?.or p=l.getLast?.or (some z):=by cases l<;>simp[List.getLast?_cons]
  rw[a];cases p with
  | none=>simp only[fH,Mx,ih]
  | some y=>
   simp only[fH,Mx];split
   .exact ih
   .rw[ih];rfl
theorem Sx {l:List Re} {j:Nat} {x y:Re} (h0:0<j) (a:l[j]?=some x) (b:l[j - 1]?=some y):Mx none (l.take (j+1))=Mx none (l.take j)++(if BU x y=true then [] else [x]):=by
 rw[eK,a,fL,Sz];have hl:=AX a;have:(l.take j).getLast?=some y:=by rw[List.getLast?_take,if_neg qO,b];rfl
 rw[this];rfl
theorem RX:∀(l:List Re) (p:Option Re),(Mx p l).length<=l.length
 | [],_=>by simp[Mx]
 | x::l,none=>by simp only[Mx,d_];have:=RX l (some x);omega
 | x::l,some y=>by
  simp only[Mx];have:=RX l (some x);split<;>simp only[d_]<;>omega
theorem VW {w w':World} {base g n c:Nat} {rows:List n_} {rest:n_} (h:w.ownsRow base FR 6 (.slice (oI g 0) n c) n rows.flatten) (j:BV w' g (rows.flatten++rest).toArray FR) (hn:n<=c) (e:c<=maxLen) (f:(rows.flatten++rest).length=c*6):w'.ownsRow base FR 6 (.slice (oI g 0) n c) n rows.flatten:=by
 have i:=h.1;rcases h.2 with ⟨d,_⟩|⟨g',cap,cur,b,a,hg,hnc,hcm,hcs,htake⟩
 .simp at d
 .simp only[Value.slice.injEq,fI,Addr.mk.injEq,and_true,true_and] at b;obtain ⟨rfl,_⟩:=b;exact ⟨i,.inr ⟨g,c,_,O,a,j,hn,e,by rw[fQ,f],by rw[List.toList_toArray,gS qO,fK qO]⟩⟩
theorem YZ (wb w0:World) (base:Nat) (S:oD) (v fv:Value) (ts:List Re) (rows:List n_) (hE:Ah wb w0) (aj:w0.ownsRow base FR 6 v ts.length rows.flatten) (N:Ap S wb ts rows) (hS:∀x,S x->x<base) (hlen:ts.length<=1000000)
 (hf:∀(w:World) (x y:Re) (xs ys:n_),A3 w x xs->A3 w y ys->CG prog fv #[.agg xs.toArray,.agg ys.toArray] w λr w'=>r=.bool (BU x y)∧Ah w w') :
 Bj prog 172 #[v,fv] w0 λr w=>∃la lc V,r=.slice la (Ey ts).length lc∧w.ownsRow base FR 6 r (Ey ts).length V.flatten∧Ap S wb (Ey ts) V∧Chg (λx=>base<=x) w0 w:=by
 have L:=aj;obtain ⟨a,c,rfl⟩:=BB aj;rw[YR];refine Ew func172 O ntmps172 (RV O) ?_;have E:Chg (λx=>base<=x) w0 w0:=Chg.refl _ _;refine AA (qA _ O (AB (AH (AA (qM _ O (qV (AT dJ O) (qV (A6 O O) (AB (qC O (λh2=>?_) (λh2=>?_))))))))))
 .have u:Mx none ts=ts:=by match ts,h2 with|[],_=>rfl|[x],_=>rfl|x::y::l,h=>simp at h;omega
  refine AA (qM _ O (qA _ O (AB (AO (AK (AY results172 (v:=(.slice a ts.length c)) O ?_))))));rw[u];exact ⟨a,c,rows,O,L,N,E⟩
 .rcases L.2 with ⟨_,hbad⟩|⟨g,cap,ay,az,bh,bd,ak,R,ao,T⟩
  .omega
  simp only[Value.slice.injEq] at az;obtain ⟨rfl,_,rfl⟩:=az;obtain ⟨rest,Z⟩:∃rest,rest=ay.toList.drop (ts.length*6):=⟨_,O⟩;have d:BV w0 g (rows.flatten++rest).toArray FR:=by rw[Z,<-T,fF];exact bd
  have ai:(rows.flatten++rest).length=c*6:=by rw[Z,<-T,fF];simpa using ao
  have aw:=N.len;have ag:=N.six;have hrestl:rest.length=c*6 - ts.length*6:=by rw[dN,Ck ag,aw] at ai;omega
  refine AM (AC (AH (AA (qA _ O (AB (AW (Ax (λnn_ σ W2=>∃(k:Nat),(∃jj_,σ=BW jj_ [(0,(.slice (oI g 0) ts.length c)),(1,fv),(5,(I6 (k:Int)))])∧Chg (λx=>base<=x) w0 W2∧BV W2 g ((rows.flatten++rest).toArray) FR∧(1<=k∧k<=ts.length)∧(Mx none (ts.take k)=ts.take k)∧nn_=ts.length - k) (n:=ts.length - 1) ?_ ?_)))))))
  .exact ⟨1,oH,E,d,⟨qO,qO⟩,(by match ts,h2 with|[],h=>simp at h|x::l,_=>rfl),O⟩
  .clear E d;rintro _ _ W2 ⟨k,⟨j2,rfl⟩,E,d,hk,W,rfl⟩;refine AH (AA (qM _ O (qM _ O (qV (AT dJ O) (qV (A6 O O) (AB (qC O (λbk=>?_) (λbk=>?_))))))))
   .obtain ⟨x,hx⟩:=AU (l:=ts) (i:=k) qO;obtain ⟨y,M⟩:=AU (l:=ts) (i:=k - 1) qO;obtain ⟨r,an,ad⟩:=N.get hx;obtain ⟨s,ar,al⟩:=N.get M;have D:=Sx qO hx M;have C:A3 (W2) x r:=AR.at x (AR.chg E (λy M hb=>by have:=hS y M;have am:base<=y:=hb;omega) x (AR.ext hE x ad));have F:A3 (W2) y s:=AR.at y (AR.chg E (λy M hb=>by have:=hS y M;have am:base<=y:=hb;omega) y (AR.ext hE y al));have P:=HY d ag an;have ap:=HY d ag ar;obtain ⟨sa,sc,aa,ac,rfl,_,_,_⟩:=C.form;obtain ⟨J,G,K,I,rfl,_,_,_⟩:=F.form;refine AM (AC (AH (AW (AH ?_))));obtain ⟨b1,t⟩:∃Fs:List Fact,Fs=[.eq fv,.eq (.slice (oI g 0) ts.length c),.eq (I6 (k:Int)),.eq (.pointer (some ⟨g,0+k*6,none⟩)),.eq (.agg (R6 x sa sc aa ac)),.eq (.slice (oI g 0) ts.length c),.eq (I6 (k:Int)),.eq (I6 ((k:Int) - 1)),.eq (.pointer (some ⟨g,0+(k - 1)*6,none⟩)),.eq (.agg (R6 y J G K I)),.eq (.bool (BU x y))]:=⟨_,O⟩;refine Ga [18,19,20,21,22,23,24,25,26,27,28] [[],[],[],[1,2],[3],[],[],[6],[5,7],[8],[0,4,9]] b1 t mixed qK qK ?_ ?_
    .intro wd X0;refine DagSteps.cons (λe w' X U H=>dH ⟨?_,?_⟩) ?_
     .exact AE O
     .exact AP (Am (U 1 O)) (Ah.refl _) O
     refine DagSteps.cons (λe w' X U H=>dH ⟨?_,?_⟩) ?_
     .exact AE O
     .exact AP (Am (U 0 O)) (Ah.refl _) O
     refine DagSteps.cons (λe w' X U H=>dH ⟨?_,?_⟩) ?_
     .exact AE O
     .exact AP (Am (U 5 O)) (Ah.refl _) O
     refine DagSteps.cons (λe w' X U H=>dH ⟨?_,?_⟩) ?_
     .exact AE O
     .have bc:e 19=(.slice (oI g 0) ts.length c):=H 1 O 19 (.eq (.slice (oI g 0) ts.length c)) O (by rw[t];rfl);have bo:e 20=(I6 ((k:Nat):Int)):=H 2 O 20 (.eq (I6 ((k:Nat):Int))) O (by rw[t];rfl);exact AP (AL (i:=k) bc bo O dJ AG qO qO) (Ah.refl _) O
     refine DagSteps.cons (λe w' X U H=>dH ⟨?_,?_⟩) ?_
     .exact AE O
     .have bz:e 21=(.pointer (some ⟨g,0+k*6,none⟩)):=H 3 O 21 (.eq (.pointer (some ⟨g,0+k*6,none⟩))) O (by rw[t];rfl);exact AP (AI bz Ad AG O (by rw[eO];exact P.ext (X0.trans X))) (Ah.refl _) O
     refine DagSteps.cons (λe w' X U H=>dH ⟨?_,?_⟩) ?_
     .exact AE O
     .exact AP (Am (U 0 O)) (Ah.refl _) O
     refine DagSteps.cons (λe w' X U H=>dH ⟨?_,?_⟩) ?_
     .exact AE O
     .exact AP (Am (U 5 O)) (Ah.refl _) O
     refine DagSteps.cons (λe w' X U H=>dH ⟨?_,?_⟩) ?_
     .exact AE O
     .have bj:e 24=(I6 ((k:Nat):Int)):=H 6 O 24 (.eq (I6 ((k:Nat):Int))) O (by rw[t];rfl);exact AP (DZ bj O (A8 qO)) (Ah.refl _) O
     refine DagSteps.cons (λe w' X U H=>dH ⟨?_,?_⟩) ?_
     .exact AE O
     .have bu:e 23=(.slice (oI g 0) ts.length c):=H 5 O 23 (.eq (.slice (oI g 0) ts.length c)) O (by rw[t];rfl);have bs:e 25=(I6 (((k:Nat):Int) - 1)):=H 7 O 25 (.eq (I6 (((k:Nat):Int) - 1))) O (by rw[t];rfl);exact AP (AL (i:=k - 1) bu bs qO dJ AG qO qO) (Ah.refl _) O
     refine DagSteps.cons (λe w' X U H=>dH ⟨?_,?_⟩) ?_
     .exact AE O
     .have b7:e 26=(.pointer (some ⟨g,0+(k - 1)*6,none⟩)):=H 8 O 26 (.eq (.pointer (some ⟨g,0+(k - 1)*6,none⟩))) O (by rw[t];rfl);exact AP (AI (vs:=(oJ y J G K I)) b7 Ad AG O (by rw[eO];exact ap.ext (X0.trans X))) (Ah.refl _) O
     refine DagSteps.cons (λe w' X U H=>dH ⟨?_,?_⟩) ?_
     .exact AE O
     .have bv:e 22=(.agg (R6 x sa sc aa ac)):=H 4 O 22 (.eq (.agg (R6 x sa sc aa ac))) O (by rw[t];rfl);have b2:e 27=(.agg (R6 y J G K I)):=H 9 O 27 (.eq (.agg (R6 y J G K I))) O (by rw[t];rfl);have bm:e 18=fv:=H 0 O 18 (.eq fv) O (by rw[t];rfl);exact Ml bm (F_ bv b2) (hf _ x y _ _ (A3.ext (X0.trans X) x C) (A3.ext (X0.trans X) y F))
     exact DagSteps.nil
    .intro e w4 X4 U H;obtain ⟨j4,rfl⟩:=Ak.out (σ:=e) (l:=[(0,(.slice (oI g 0) ts.length c)),(1,fv),(5,(I6 ((k:Nat):Int))),(28,(.bool (BU x y)))]) ⟨U 0 O,U 1 O,U 5 O,(show e 28=(.bool (BU x y)) from H 10 28 (.eq (.bool (BU x y))) O (by rw[t];rfl)),trivial⟩;clear U H;have d:=X4.keep d;have E:=E.ext X4;refine AC (A4 (b:=BU x y) O (λu=>?_) (λu=>?_))
     .have av:=u;refine AA (qM (.slice (oI g 0) ts.length c) O (qM (I6 (k:Int)) O ?_));obtain ⟨sl,a0⟩:∃a':oE,(if c=k then (oI g 0) else Option.map (λq:Addr=>q.add (k*6)) (oI g 0))=a':=⟨_,O⟩;refine qV (E' (a:=(oI g 0)) (len:=ts.length) (cap:=c) (lo:=k) (l:=(k:Int)) (n':=(ts.length - k)) (c':=(c - k)) dJ AG O O qO qO a0 qO qO) ?_;have a2:sl=some ⟨g,k*6,none⟩:=by rw[<-a0,if_neg qO];simp[Addr.add];omega
      subst a2;refine qA _ O (AB (AH (AA (qA _ O (AB (AW (Ax (λnn_ σ W6=>∃(m:Nat) (i:Nat) (f:List n_),(∃jj_,σ=BW jj_ [(0,(.slice (oI g 0) ts.length c)),(1,fv),(6,(.slice (some ⟨g,k*6,none⟩) (ts.length - k) (c - k))),(7,(I6 (m:Int))),(5,(I6 (i:Int)))])∧Chg (λx=>base<=x) w0 W6∧BV W6 g ((f.flatten++rest).toArray) FR∧(1<=m∧m<=ts.length - k)∧(i<k+m)∧(f.length=ts.length)∧(∀r∈f,r.length=6)∧(f.drop (k+m - 1)=rows.drop (k+m - 1))∧(Ap S wb (Mx none (ts.take (k+m))) (f.take i))∧(i=(Mx none (ts.take (k+m))).length)∧nn_=ts.length - k - m) (n:=ts.length - k - 1) ?_ ?_)))))))
      .exact ⟨1,k,rows,oH,E,d,⟨qO,qO⟩,qO,aw,ag,O,(by rw[D,u,W];simpa using N.take k),(by rw[D,u,W];simp;omega),O⟩
      .clear E d;rintro _ _ W6 ⟨m,i,f,⟨j6,rfl⟩,E,d,hm,bp,ab,B,af,Q,z,rfl⟩;refine AH (AA (qM _ O (qM _ O (qV (AT dJ O) (qV (A6 O O) (AB (qC O (λa5=>?_) (λa5=>?_))))))))
       .obtain ⟨j,hj⟩:∃j,j=k+m:=⟨_,O⟩;obtain ⟨x,hx⟩:=AU (l:=ts) (i:=j) qO;obtain ⟨y,M⟩:=AU (l:=ts) (i:=j - 1) qO;obtain ⟨r,an,ad⟩:=N.get hx;obtain ⟨s,ar,al⟩:=N.get M;have D:=Sx qO hx M;rw[<-hj] at af Q z bp;have b0:f[j]?=some r:=by rw[MR af qO];exact an
        have ba:f[j - 1]?=some s:=by rw[MR af (dU _)];exact ar
        have ah:f.drop j=rows.drop j:=by have:=congrArg (List.drop 1) af;rw[lS,lS,show j - 1+1=j by omega] at this;exact this
        have C:A3 (W6) x r:=AR.at x (AR.chg E (λy M hb=>by have:=hS y M;have am:base<=y:=hb;omega) x (AR.ext hE x ad));have F:A3 (W6) y s:=AR.at y (AR.chg E (λy M hb=>by have:=hS y M;have am:base<=y:=hb;omega) y (AR.ext hE y al));have P:=HY d B b0;have ap:=HY d B ba;obtain ⟨sa,sc,aa,ac,rfl,_,_,_⟩:=C.form;obtain ⟨J,G,K,I,rfl,_,_,_⟩:=F.form;refine AM (AC (AH (AW (AH ?_))));obtain ⟨bw,p⟩:∃Fs:List Fact,Fs=[.eq fv,.eq (.slice (some ⟨g,k*6,none⟩) (ts.length - k) (c - k)),.eq (I6 (m:Int)),.eq (.pointer (some ⟨g,k*6+m*6,none⟩)),.eq (.agg (R6 x sa sc aa ac)),.eq (.slice (some ⟨g,k*6,none⟩) (ts.length - k) (c - k)),.eq (I6 (m:Int)),.eq (I6 ((m:Int) - 1)),.eq (.pointer (some ⟨g,k*6+(m - 1)*6,none⟩)),.eq (.agg (R6 y J G K I)),.eq (.bool (BU x y)),.eq (.bool (!(BU x y)))]:=⟨_,O⟩;refine Ga [38,39,40,41,42,43,44,45,46,47,48,49] [[],[],[],[1,2],[3],[],[],[6],[5,7],[8],[0,4,9],[10]] bw p mixed qK qK ?_ ?_
        .intro wd X0;refine DagSteps.cons (λe w' X U H=>dH ⟨?_,?_⟩) ?_
         .exact AE O
         .exact AP (Am (U 1 O)) (Ah.refl _) O
         refine DagSteps.cons (λe w' X U H=>dH ⟨?_,?_⟩) ?_
         .exact AE O
         .exact AP (Am (U 6 O)) (Ah.refl _) O
         refine DagSteps.cons (λe w' X U H=>dH ⟨?_,?_⟩) ?_
         .exact AE O
         .exact AP (Am (U 7 O)) (Ah.refl _) O
         refine DagSteps.cons (λe w' X U H=>dH ⟨?_,?_⟩) ?_
         .exact AE O
         .have b5:e 39=(.slice (some ⟨g,k*6,none⟩) (ts.length - k) (c - k)):=H 1 O 39 (.eq (.slice (some ⟨g,k*6,none⟩) (ts.length - k) (c - k))) O (by rw[p];rfl);have a9:e 40=(I6 ((m:Nat):Int)):=H 2 O 40 (.eq (I6 ((m:Nat):Int))) O (by rw[p];rfl);exact AP (AL (i:=m) b5 a9 O dJ AG qO qO) (Ah.refl _) O
         refine DagSteps.cons (λe w' X U H=>dH ⟨?_,?_⟩) ?_
         .exact AE O
         .have bb:e 41=(.pointer (some ⟨g,k*6+m*6,none⟩)):=H 3 O 41 (.eq (.pointer (some ⟨g,k*6+m*6,none⟩))) O (by rw[p];rfl);exact AP (AI bb Ad AG O (by rw[show k*6+m*6=j*6 by omega];exact P.ext (X0.trans X))) (Ah.refl _) O
         refine DagSteps.cons (λe w' X U H=>dH ⟨?_,?_⟩) ?_
         .exact AE O
         .exact AP (Am (U 6 O)) (Ah.refl _) O
         refine DagSteps.cons (λe w' X U H=>dH ⟨?_,?_⟩) ?_
         .exact AE O
         .exact AP (Am (U 7 O)) (Ah.refl _) O
         refine DagSteps.cons (λe w' X U H=>dH ⟨?_,?_⟩) ?_
         .exact AE O
         .have be:e 44=(I6 ((m:Nat):Int)):=H 6 O 44 (.eq (I6 ((m:Nat):Int))) O (by rw[p];rfl);exact AP (DZ be O (A8 qO)) (Ah.refl _) O
         refine DagSteps.cons (λe w' X U H=>dH ⟨?_,?_⟩) ?_
         .exact AE O
         .have b4:e 43=(.slice (some ⟨g,k*6,none⟩) (ts.length - k) (c - k)):=H 5 O 43 (.eq (.slice (some ⟨g,k*6,none⟩) (ts.length - k) (c - k))) O (by rw[p];rfl);have bq:e 45=(I6 (((m:Nat):Int) - 1)):=H 7 O 45 (.eq (I6 (((m:Nat):Int) - 1))) O (by rw[p];rfl);exact AP (AL (i:=m - 1) b4 bq qO dJ AG qO qO) (Ah.refl _) O
         refine DagSteps.cons (λe w' X U H=>dH ⟨?_,?_⟩) ?_
         .exact AE O
         .have bn:e 46=(.pointer (some ⟨g,k*6+(m - 1)*6,none⟩)):=H 8 O 46 (.eq (.pointer (some ⟨g,k*6+(m - 1)*6,none⟩))) O (by rw[p];rfl);exact AP (AI bn Ad AG O (by rw[show k*6+(m - 1)*6=(j - 1)*6 by omega];exact ap.ext (X0.trans X))) (Ah.refl _) O
         refine DagSteps.cons (λe w' X U H=>dH ⟨?_,?_⟩) ?_
         .exact AE O
         .have b6:e 42=(.agg (R6 x sa sc aa ac)):=H 4 O 42 (.eq (.agg (R6 x sa sc aa ac))) O (by rw[p];rfl);have bt:e 47=(.agg (R6 y J G K I)):=H 9 O 47 (.eq (.agg (R6 y J G K I))) O (by rw[p];rfl);have bi:e 38=fv:=H 0 O 38 (.eq fv) O (by rw[p];rfl);exact Ml bi (F_ b6 bt) (hf _ x y _ _ (A3.ext (X0.trans X) x C) (A3.ext (X0.trans X) y F))
         refine DagSteps.cons (λe w' X U H=>dH ⟨?_,?_⟩) ?_
         .exact AE O
         .have bf:e 48=(.bool (BU x y)):=H 10 O 48 (.eq (.bool (BU x y))) O (by rw[p];rfl);exact AP (C1 bf) (Ah.refl _) O
         exact DagSteps.nil
        .intro e w8 X8 U H;obtain ⟨j8,rfl⟩:=Ak.out (σ:=e) (l:=[(0,(.slice (oI g 0) ts.length c)),(1,fv),(5,(I6 ((i:Nat):Int))),(6,(.slice (some ⟨g,k*6,none⟩) (ts.length - k) (c - k))),(7,(I6 ((m:Nat):Int))),(49,(.bool (!(BU x y))))]) ⟨U 0 O,U 1 O,U 5 O,U 6 O,U 7 O,(show e 49=(.bool (!(BU x y))) from H 11 49 (.eq (.bool (!(BU x y)))) O (by rw[p];rfl)),trivial⟩;clear U H;have d:=X8.keep d;have P:=P.ext X8;have E:=E.ext X8;refine AC (A4 O (λA=>?_) (λA=>?_))
         .have a3:=A;have A:=by simpa using A
          have ae:BU x y=false:=by simpa using A
          refine AA (qM _ O (qM _ O (qM _ O (qM _ O (qV (AL (b:=g) (o:=k*6) (len:=ts.length - k) (cap:=c - k) (i:=m) (o':=k*6+m*6) O O O dJ AG qO qO) (qV (AI O Ad AG O (by rw[show k*6+m*6=j*6 by omega];exact P)) (qV (AL (b:=g) (o:=0) (len:=ts.length) (cap:=c) (i:=i) (o':=0+i*6) O O O dJ AG qO qO) (Aa (b:=g) (o:=0+i*6) (n:=6) (c':=((f.set i (oJ x sa sc aa ac)).flatten++rest).toArray) (vs:=(R6 x sa sc aa ac)) O O qS AG (O) d (by have:=Ck B;simp only[fQ,dN];omega) (by rw[eO];exact congrArg List.toArray (Lh (k:=6) (v:=(oJ x sa sc aa ac)) (rows:=f) (i:=i) (rest:=rest) O B qO)) ?_))))))));intro w10 a1;have E:=a1.step E (by first|exact dH qO|assumption|exact dG rfl|exact dG (by assumption)|exact dG qP|exact dG qO|exact dG (by dsimp only;omega));have d:=a1.blk;refine AB (AN (qM _ O (qV (A0 O O (A8 qO)) (qA _ O (AB (AV (AC (AN (qM _ O (qV (A0 O O (A8 qO)) (qA _ O (AB (AC ?_)))))))))))));exact ⟨ts.length - k - (m+1),qO,m+1,i+1,f.set i (oJ x sa sc aa ac),oH,E,d,⟨qO,qO⟩,qO,(by simpa using ab),(λr N=>by rcases mG N with h|h;exact B r h;rw[h];rfl),(by rw[show k+(m+1) - 1=j by omega,nN qO];exact ah),(by rw[show k+(m+1)=j+1 by omega,D,ae,eK,nO (dU _),mY qO];exact Ap.append (Ap.single ad) Q),(by rw[show k+(m+1)=j+1 by omega,D,ae,dN,<-z];rfl),O⟩
         .have a3:=A;have A:=by simpa using A
          have au:BU x y=true:=by simpa using A
          refine AM (AV (AC (AN (qM _ O (qV (A0 (k:=.i64) (a:=(m:Int)) (b:=1) (c:=(m:Int)+1) O O (A8 qO)) (qA (I6 ((m:Int)+1)) O (AB (AC ?_))))))));exact ⟨ts.length - k - (m+1),qO,m+1,i,f,oH,E,d,⟨qO,qO⟩,qO,ab,B,(by rw[show k+(m+1) - 1=j by omega];exact ah),(by rw[show k+(m+1)=j+1 by omega,D,au];simpa using Q),(by rw[show k+(m+1)=j+1 by omega,D,au];simpa using z),O⟩
       .have b3:k+m=ts.length:=qO
        rw[b3,eE] at Q z;have hil2:i<=ts.length:=by rw[z];exact RX _ _
        refine Av (AZ (AZ (Ao (AC (AA (qM (.slice (oI g 0) ts.length c) O (qM (I6 (i:Int)) O ?_)))))));obtain ⟨sk,a8⟩:∃a':oE,(if c=i then (oI g 0) else Option.map (λq:Addr=>q.add (i*6)) (oI g 0))=a':=⟨_,O⟩;refine qV (E' (a:=(oI g 0)) (len:=ts.length) (cap:=c) (lo:=i) (l:=(i:Int)) (n':=(ts.length - i)) (c':=(c - i)) dJ AG O O qO qO a8 qO qO) ?_;have a6:sk=some ⟨g,i*6,none⟩:=by rw[<-a8,if_neg qO];simp[Addr.add];omega
        subst a6;obtain ⟨cz,aq⟩:∃cz,cz=((f.flatten++rest).toArray.toList.take (i*6)++(Builtin.zeroCells (Value.cells (.agg #[(I6 0),(.slice none 0 0),(.slice none 0 0),(I6 0),(I6 0),(.bool false)])) (ts.length - i)).toList++(f.flatten++rest).toArray.toList.drop (i*6+(ts.length - i)*6)).toArray:=⟨_,O⟩;refine Sd (b:=g) (o:=i*6) (m:=(ts.length - i)) (cc:=(c - i)) (c':=cz) dJ A1 O qO d PG (by show i*6+(ts.length - i)*6<=_;simp only[fQ,dN,Ck B,ab];omega) (aq.symm) ?_;intro w11 a4;have E:=a4.step E (by first|exact dH qO|assumption|exact dG rfl|exact dG (by assumption)|exact dG qP|exact dG qO|exact dG (by dsimp only;omega));have d:=a4.blk;refine AB (AA (qM _ O (qM _ O ?_)));obtain ⟨sm,u⟩:∃a':oE,(if c=0 then (oI g 0) else Option.map (λq:Addr=>q.add (0*6)) (oI g 0))=a':=⟨_,O⟩;refine qV (J6 (hi:=i) dJ AG O O qO qO u) (qA _ O (AB (AO (Ac (AK (AK (Ac (AK (AY results172 (v:=(.slice sm i c)) O ?_)))))))));have ax:sm=oI g 0:=by rw[<-u];split<;>simp[Addr.add]
        subst ax;have bg:(f.take i).flatten.length=i*6:=by rw[Ck (λr N=>B r (gP N))];simp;omega
        have br:(f.flatten++rest).take (i*6)=(f.take i).flatten:=by
         have:f.flatten=(f.take i).flatten++(f.drop i).flatten:=by rw[<-fX,fF]
         rw[this,eW,gS qO,fK qO]
        have hz:(Builtin.zeroCells (Value.cells (.agg #[(I6 0),(.slice none 0 0),(.slice none 0 0),(I6 0),(I6 0),(.bool false)])) (ts.length - i)).toList.length=(ts.length - i)*6:=by simp[Builtin.zeroCells,Value.cells]
        have a7:(f.flatten++rest).length=c*6:=by rw[dN,Ck B,ab];omega
        refine ⟨oI g 0,c,f.take i,by rw[<-z],⟨by rw[bg,<-z],.inr ⟨g,c,cz,by rw[<-z],bh,d,qO,R,?_,?_⟩⟩,Q,E⟩
        .rw[aq];simp only[fQ,dN,gE,iP,hz];simp only[dN] at a7;omega
        .rw[aq,<-z];show List.take (i*6) (List.take (i*6) (f.flatten++rest)++_++_)=_;rw[br,eW,gS qO,fK qO]
     .have av:=u;have ae:BU x y=false:=by simpa using u
      refine AM (AV (AC (AN (qM _ O (qV (A0 O O (A8 qO)) (qA _ O (AB (AC ?_))))))));exact ⟨ts.length - (k+1),qO,k+1,oH,E,d,⟨qO,qO⟩,(by rw[D,ae,W,eK,hx];rfl),O⟩
   .have bx:k=ts.length:=qO
    rw[bx,eE] at W;refine Av (AZ (AZ (Ao (AC (AA (qM _ O (qA _ O (AB (AO (AY results172 (v:=(.slice (oI g 0) ts.length c)) O ?_))))))))));rw[W];exact ⟨_,c,rows,O,VW L d ak R ai,N,E⟩
theorem Tf {c D:List Re} (e:c.Perm D) (hs:c.Pairwise λx y=>CS x y<=0) (hn:∀x∈D,Ep x=true):c=EO D:=by
 have d:c.Perm (EO D):=e.trans (kA D X_).symm;refine List.Perm.eq_of_pairwise (le:=λx y=>CS x y<=0) (λa b f hb h1 h2=>?_) hs (Hu D) d;have h3:=CP a b;have h4:=CP b a;exact (JR (hn a (e.mem_iff.1 f)) (hn b (G5.1 hb))).1 qO
theorem WJ {p:Re->Bool} {l:List Re}:(0<=Hg p l->∃i x,Hg p l=((i:Nat):Int)∧l[i]?=some x∧l.find? p=some x)∧(¬0<=Hg p l->l.find? p=none):=by
 unfold Hg;cases h:l.findIdx? p with
 | none=>
  refine ⟨λa=>by simp at a,λ_=>?_⟩;rw[kG];intro x b;have:=(iL.1 h) x b;simp[this]
 | some i=>
  refine ⟨λ_=>?_,λa=>by simp at a⟩;obtain ⟨hi,a,c⟩:=gH.1 h;refine ⟨i,l[i],O,dM hi,?_⟩;rw[lL];exact ⟨a,i,hi,O,λj d=>by simpa using c j d⟩
theorem Qe (w0:World) (S:Nat→Prop) (k:Int) (v sf gf:Value) (ts:List Re) (strong weak:Re→Bool) (zt:Re) (zv:n_) (h:CE S w0 v ts) (hz:AR S w0 zt zv) (hS:∀x,S x→x<w0.heap.size) (hne:∀x∈ts,x.kind=k→x.args≠[]) (hsz:Re.sizes ts≤1000000) (hnn:∀x∈BS k ts,Ep x=true)
  (hs:∀(w:World) (x:Re) (vs:n_),x∈ts→A3 w x vs→CG prog sf #[.agg vs.toArray] w λr w'=>r=.bool (strong x)∧Ah w w')
  (hw:∀(w:World) (x:Re) (vs:n_),x∈BS k ts→A3 w x vs→CG prog gf #[.agg vs.toArray] w λr w'=>r=.bool (weak x)∧Ah w w') :
  Bj prog 141 #[I6 k,v,sf,gf,.agg zv.toArray] w0 λr w=>(∃vs,r=.agg vs.toArray∧AR (λb=>S b∨w0.heap.size≤b) w (Gw k ts strong weak zt) vs)∧Ah w0 w:=by
 have h0:=h;have bn:=hz;obtain ⟨au,an,ao,ap,rfl,_,_,_⟩:=hz.form;obtain ⟨bh,bg,rfl,b1,_⟩:=h;have hls:=EC ts;have a2:=LE k ts ts.length;rw[eE] at a2;have aq:=h0;obtain ⟨al,am⟩:=WJ (p:=strong) (l:=ts);obtain ⟨q,hq⟩:∃q:Int,q=Hg strong ts:=⟨_,rfl⟩;rw[←hq] at al am;obtain ⟨D,hD⟩:∃D,D=ET weak (BS k ts):=⟨_,rfl⟩;have hDl:D.length≤(BS k ts).length:=by rw[hD];exact jQ _ _
 have bx:∀x∈D,Ep x=true:=λx hx=>hnn x (Hk.1 (by rw[←hD];exact hx)).1;obtain ⟨G,hG⟩:∃G,G=Ey (EO D):=⟨_,rfl⟩;have a0:Gw k ts strong weak zt=match ts.find? strong with|some x=>x|none=>CT k zt G:=by rw[hG,hD];rfl
 rw[a0];obtain ⟨b4,bi,bs⟩:=HS k zt G;refine qR func141 rfl ntmps141 rfl (λE=>(AA (BC (v:=(.agg (R6 zt au an ao ap))) (c:=(R6 zt au an ao ap)) qD rfl rfl ?_)));intro bz wz Nz;have Fz:=Nz.ge E;have E:=E.ext Nz.ext;have Bz:=Nz.blk;refine BK (c:=#[(I6 0),(.slice none 0 0),(.slice none 0 0),(I6 0),(I6 0),(.bool false)]) qD A1 rfl ?_;intro bo wo No;have Fo:=No.ge E;have Oo_bz:=No.lt Bz;have Bz:=No.keep Bz;have E:=E.ext No.ext;have Bo:=No.blk;refine AB (AH (AA (qM _ rfl (qM _ rfl ?_))));obtain ⟨ae,ag⟩:∃ae,ae=wo.heap.size:=⟨_,rfl⟩;have hob:bo<ae∧bz<ae:=⟨by rw[ag];exact Bo.lt,by rw[ag];exact Bz.lt⟩;have hwb:w0.heap.size≤ae:=qO
 have E2:Chg Aj wo wo:=Chg.refl _ _;refine qE rfl (AS func169 kQ kQ rfl) ((J3 _ _ sf ts strong (Sg (h0.ext E)) (λw x vs _ hm hx=>hs w x vs hm hx)).mono (R':=λr w=>r=I6 q∧Ah wo w) (λr w h9=>⟨by rw[h9.1,hq],h9.2⟩)) ?_;rintro _ w9 ⟨rfl,X9⟩;have Bz:=X9.keep Bz;have Bo:=X9.keep Bo;have E:=E.ext X9;refine qA _ rfl (AB (AA (qM _ rfl (qV (El rfl rfl) (AB (qC rfl (λa8=>?_) (λa8=>?_)))))))
 ·obtain ⟨i,x,hi,hx,hf⟩:=al a8;have bk:=AX hx;have bv:CE S (w9) (.slice bh ts.length bg) ts:=aq.ext E;obtain ⟨lb,lo,rfl,a4⟩:=bv.cells qO;obtain ⟨xs,a1,ar⟩:=a4 i x hx;have ai:=ar;obtain ⟨sa,sc,aa,ac,rfl,_,_,_⟩:=ar.form;refine AA (qM _ rfl (qM _ rfl (qV (AL (b:=lb) (o:=lo) (len:=ts.length) (cap:=bg) (i:=i) (o':=lo+i*6) rfl rfl qO dJ AG qO qO) ?_)));have ad:Chg (λy=>y=bo) (w9) (w9):=Chg.refl _ _;refine qV (AI rfl Ad AG rfl (a1)) (Aa (b:=bo) (o:=0) (c':=(R6 x sa sc aa ac)) rfl rfl qS AG rfl Bo qL rfl ?_);intro w2 S2;have ad:=S2.chg;have Bz:=S2.keep qO Bz;have E:=S2.step E (by first|exact dH qO|assumption|exact dG rfl|exact dG (by assumption)|exact dG qP|exact dG qO|exact dG (by dsimp only;omega));have Bo:=S2.blk;refine AB (AO (AK (A2 nG (vs:=(oJ x sa sc aa ac)) (b:=bo) rfl Ad AG rfl (Bo.cells rfl) ?_)));exact ⟨⟨_,rfl,by rw[hf];exact AR.mono (λy hy=>.inl hy) x (AR.chg ad (λy hy h=>by have h1:=hS y hy;have h2:y=bo:=h;omega) x ai)⟩,E⟩
 ·rw[am a8];obtain ⟨ab,aj⟩:∃ab,ab=w9.heap.size:=⟨_,rfl⟩;have a6:bo<ab∧bz<ab∧w0.heap.size≤ab:=by have:=X9.size;omega
  refine AM (AC (AA (qM _ rfl (qM _ rfl (qE rfl (AS func166 kQ kQ rfl) (WE _ S k _ ts (aq.ext E) hne hsz) ?_)))));rintro _ wf ⟨la,lc,bb,rfl,ax,b2,Xf⟩;have Bz:=Xf.keep Bz;have Bo:=Xf.keep Bo;have E:=E.ext Xf;rw[←aj] at ax;have E3:Ah w9 wf:=Xf;have bc:∀x,S x→x<ab:=λx hx=>by have:=hS x hx;omega
  refine qM _ rfl (qE rfl (AS func165 kQ kQ rfl) ((Y1 w9 _ ab S _ _ (BS k ts) bb weak E3 ax b2 bc qO hw).mono (R':=λr w=>∃la lc rows',r=.slice la D.length lc∧w.ownsRow ab FR 6 r D.length rows'.flatten∧Ap S w9 D rows'∧Chg (λx=>ab≤x) wf w) (λr w h9=>by rw[hD];exact h9)) ?_);rintro _ wd ⟨br,bm,aw,rfl,ah,a9,Cd⟩;have Bz:=Cd.keep qO Bz;have Bo:=Cd.keep qO Bo;have E:=E.step Cd (by intro x hx hm;omega);have E3:=E3.step Cd (by intro x hx hm;omega);refine qA _ rfl (AB (AA (qM _ rfl (qE rfl (AS func170 kQ kQ rfl) ((XP w9 _ S ab _ D aw E3 ah a9 bc qO).mono (R':=λr w=>r=.tuple #[]∧(∃qs,w.ownsRow ab FR 6 (.slice br D.length bm) (EO D).length qs.flatten∧Ap S w9 (EO D) qs)∧Chg (λx=>ab≤x) wd w) (λr w h9=>by obtain ⟨h1,⟨us,qs,hp,bp,h3,h4⟩,h5⟩:=h9;have h6:=Tf hp bp bx;subst h6;exact ⟨h1,⟨qs,h3,h4⟩,h5.mono λx _ hx=>(ah.lt x hx).1⟩)) ?_))));rintro _ ws ⟨rfl,⟨qs,af,a7⟩,Cs⟩;have Bz:=Cs.keep qO Bz;have Bo:=Cs.keep qO Bo;have E:=E.step Cs (by intro x hx hm;omega);have E3:=E3.step Cs (by intro x hx hm;omega);have be:(EO D).length=D.length:=List.length_mergeSort D;rw[←be] at af;rw[←be];refine AB (AA (qM _ rfl (qE rfl (AS func172 kQ kQ rfl) ((YZ w9 _ ab S _ _ (EO D) qs E3 af a7 bc qO (λw x y xs ys hx hy=>CG.mk (first:=#[]) (cap:=#[]) func173 kQ kQ rfl (VG _ x y w xs ys (dU _) hx hy))).mono (R':=λr w=>∃la lc rows',r=.slice la G.length lc∧w.ownsRow ab FR 6 r G.length rows'.flatten∧Ap S w9 G rows'∧Chg (λx=>ab≤x) ws w) (λr w h9=>by rw[hG];exact h9)) ?_)));rintro _ wc ⟨az,ak,bf,rfl,av,ba,Cc⟩;have Bz:=Cc.keep qO Bz;have Bo:=Cc.keep qO Bo;have E:=E.step Cc (by intro x hx hm;omega);have E3:=E3.step Cc (by intro x hx hm;omega);obtain ⟨b0,ay⟩:=Eo av (ba.ext E3) rfl;refine qA _ rfl (AB (AH (AA (qM _ rfl (qV (AT dJ rfl) (AB (AW (AA (qV (Ai rfl rfl) (qA _ rfl (AB (qC rfl (λbu=>?_) (λbu=>?_)))))))))))))
  ·have ad:Chg (λy=>y=bo) (wc) (wc):=Chg.refl _ _;have bt:=AR.ext E zt bn;refine AA (qV (AI (vs:=(oJ zt au an ao ap)) rfl Ad AG rfl (Bz.cells rfl)) (Aa (b:=bo) (o:=0) (c':=(R6 zt au an ao ap)) rfl rfl qS AG rfl Bo qL rfl ?_));intro w4 S4;have ad:=S4.chg;have Bz:=S4.keep qO Bz;have E:=S4.step E (by first|exact dH qO|assumption|exact dG rfl|exact dG (by assumption)|exact dG qP|exact dG qO|exact dG (by dsimp only;omega));have Bo:=S4.blk;refine AB (AO (Ac (AK (A2 nG (vs:=(oJ zt au an ao ap)) (b:=bo) rfl Ad AG rfl (Bo.cells rfl) ?_))));exact ⟨⟨_,rfl,by show AR _ _ (CT k zt G) _;rw[b4 qO];exact AR.mono (λy hy=>.inl hy) zt (AR.chg ad (λy hy h=>by have h1:=hS y hy;have h2:y=bo:=h;omega) zt bt)⟩,E⟩
  ·refine AA (qV (Ai rfl rfl) (qA _ rfl (AB (qC rfl (λbw=>?_) (λbw=>?_)))))
   ·obtain ⟨x,hx⟩:=AU (l:=G) (i:=0) qO;obtain ⟨lb,bq,b3,a3,a4⟩:=ay.resolve_left (λh=>by rw[h] at hx;simp at hx);subst a3;obtain ⟨xs,a1,ar⟩:=a4 0 x hx;have ai:=ar;obtain ⟨sa,sc,aa,ac,rfl,_,_,_⟩:=ar.form;have ad:Chg (λy=>y=bo) (wc) (wc):=Chg.refl _ _;refine AA (qM _ rfl (qV (AL (b:=lb) (o:=0) (len:=G.length) (cap:=ak) (i:=0) (o':=0) rfl rfl rfl dJ AG qO qO) (qV (AI rfl Ad AG rfl (a1)) (Aa (b:=bo) (o:=0) (c':=(R6 x sa sc aa ac)) rfl rfl qS AG rfl Bo qL rfl ?_))));intro w6 S6;have ad:=S6.chg;have Bz:=S6.keep qO Bz;have E:=S6.step E (by first|exact dH qO|assumption|exact dG rfl|exact dG (by assumption)|exact dG qP|exact dG qO|exact dG (by dsimp only;omega));have Bo:=S6.blk;refine AB (AO (Ac (AK (A2 nG (vs:=(oJ x sa sc aa ac)) (b:=bo) rfl Ad AG rfl (Bo.cells rfl) ?_))));exact ⟨⟨_,rfl,by show AR _ _ (CT k zt G) _;rw[bi x qO hx];exact AR.mono (λy hy=>.inl hy) x (AR.chg ad (λy hy h=>by have h1:=hS y hy;have h2:y=bo:=h;omega) x ai)⟩,E⟩
   ·have ad:Chg (λy=>y=bo) (wc) (wc):=Chg.refl _ _;refine AM (AV (AC (AA (qM _ rfl (qM _ rfl (qV (B0 (ps:=[(0,(I6 k)),(2,(.slice az G.length ak))]) (v:=(.agg #[(I6 k),(.slice none 0 0),(.slice az G.length ak),(I6 0),(I6 0),(.bool false)])) rfl qK) (Aa (b:=bo) (o:=0) (c':=#[(I6 k),(.slice none 0 0),(.slice az G.length ak),(I6 0),(I6 0),(.bool false)]) rfl rfl qS AG rfl Bo qL rfl ?_)))))));intro w7 S7;have ad:=S7.chg;have Bz:=S7.keep qO Bz;have E:=S7.step E (by first|exact dH qO|assumption|exact dG rfl|exact dG (by assumption)|exact dG qP|exact dG qO|exact dG (by dsimp only;omega));have Bo:=S7.blk;refine AB (AO (A2 nG (vs:=[(I6 k),(.slice none 0 0),(.slice az G.length ak),(I6 0),(I6 0),(.bool false)]) (b:=bo) rfl Ad AG rfl (Bo.cells rfl) (⟨⟨_,rfl,?_⟩,E⟩)));show AR _ _ (CT k zt G) _;rw[bs qO];refine AR.of (set:=[]) (B_.nil _ _ _ _ _) b0 ?_;rcases ay with h|⟨ob,bj,a6,bd,a5⟩
    ·exact .inl h
    ·refine .inr ⟨ob,0,.inr qO,bd,D5 λi t ht=>?_⟩;obtain ⟨vs,h6,h7⟩:=a5 i t ht;exact ⟨vs,h6.chg ad (λh=>by have h':ob=bo:=h;omega),AR.mono (λy hy=>.inl hy) t (AR.chg ad (λy hy h=>by have h1:=hS y hy;have h2:y=bo:=h;omega) t h7)⟩
end Go.Proofs
