/- Contracts and plain lemmas, part 5. -/
import Derived.Test.YtdbomjjhpidajaaGreatDoorZb4
open Go.Proofs.Tryz
set_option maxHeartbeats 16000000
namespace Go.Proofs
open Go Go.Eng
set_option maxRecDepth 100000
theorem zWn (w0:World) (v:Value) (l:List (Int×Int)) (h:zBc w0 v l) (hl:l.length≤2000000) :
  Ret prog 66 #[v] w0 fun r w=>∃a c,r=.slice a l.length c∧zDk (fun b=>w0.heap.size≤b∧b<w.heap.size) w 2 r (l.map zBw)∧Ext w0 w:=by
 obtain ⟨a,c,rfl⟩:=zCQ.form h;simp only[List.length_map] at h⊢;obtain ⟨base,af⟩:∃base,base=w0.heap.size:=⟨_,rfl⟩;refine qR func66 rfl ntmps66 rfl (fun E=>(zAA (qA _ rfl (zAB (zAH (zAA (qM _ rfl (zBo (v:=(.bool a.isNone)) rfl rfl qD (zKM underlying23 rfl rfl) (zAB (zAx rfl (fun hn=>?_) (fun hn=>?_)))))))))))
 ·have ak:=hn;have ae:l.length=0:=by rcases Nat.eq_zero_or_pos l.length with h0|h0;exact h0;obtain ⟨b,o,rfl,_⟩:=zBu h h0;simp at hn
  have ad:l=[]:=List.eq_nil_of_length_eq_zero ae;refine zAA (qA _ rfl (zAB (zAW (zAX (zAZ results66 (v:=(.slice none 0 0)) rfl ?_)))));exact ⟨none,0,by rw[ae],by subst ad;exact zDk.nil _ _ _ _ _,E⟩
 ·have ak:=hn;rcases Bool.eq_false_or_eq_true (decide (l.length=0)) with hz|hz
  ·have aa:=hz;replace aa:=of_decide_eq_true aa;refine zAO (zAC (zAA (zGM qD underlying23 zCK ?_)));intro bq wq Nq;have Fq:=Nq.ge E;replace E:=E.ext Nq.ext;have Bq:=Nq.blk;refine qM _ rfl (qV (zLR underlying23 zCK (a':=a) (c':=c) rfl (Nat.le_refl _) (by show Value.slice a l.length c=_;rw[aa])) (qA _ rfl (zAB (zAW (zAZ results66 (v:=(.slice (some ⟨bq,0,none⟩) 0 0)) rfl ?_)))));have ad:l=[]:=List.eq_nil_of_length_eq_zero aa;exact ⟨some ⟨bq,0,none⟩,0,by rw[aa],by subst ad;exact zDk.nil _ _ _ _ _,E⟩
  ·have aa:=hz;replace aa:=of_decide_eq_false aa;obtain ⟨b,o,rfl,ah⟩:=zBu h qO;refine zAO (zAC (zAA (zGM qD underlying23 zCK ?_)));intro bq wq Nq;have Fq:=Nq.ge E;replace E:=E.ext Nq.ext;have Bq:=Nq.blk;refine qM _ rfl ?_;have ab:=zGT (base:=base) (size:=2) Bq qO;have aj:base≤wq.heap.size:=by have:=Nq.ext.size;omega
   refine zBt (base:=base) (n:=0) (m:=l.length) (xs:=[]) (news:=(l.map zBw).flatten) (size:=2) (bytes:=16) (v:=(.slice (some ⟨bq,0,none⟩) 0 0)) qD underlying23 zCK zSD zGF rfl qD rfl ab rfl (zEa l) ((zJS ah).ext Nq.ext) (zLF l) (by unfold maxLen;omega) qO (aj) ?_;intro v9 w29 ac ag Dv9;replace E:=E.step ag (fun x hx h=>absurd (ab.lt x h).1 qO);obtain ⟨la,lc,rfl⟩:=zBR ac;refine qA _ rfl (zAB (zAW (zAZ results66 (v:=(.slice la (0+l.length) lc)) rfl ?_)));simp only[Nat.zero_add,List.nil_append] at ac;have ai:=zCz ac (by intro r hr;simp only[List.mem_map] at hr;obtain ⟨p,_,rfl⟩:=hr;rfl) qP qD;obtain ⟨gq,rfl,hgq,_⟩:=zBS ac qO;simp only[Nat.zero_add];exact ⟨some ⟨gq,0,none⟩,lc,rfl,zDk.mk ai ⟨qO,(ac.lt gq rfl).2⟩,E⟩
mutual
def zGL:Re→Prop
  | .mk _ set args _ _ _=>set.length≤2000000∧zGp args
def zGp:List Re→Prop
  | []=>True
  | t::ts=>zGL t∧zGp ts
end
theorem zOp {t:Re} (h:zGL t):t.set.length≤2000000:=by cases t;simp only[zGL] at h;exact h.1
theorem zOq {t:Re} (h:zGL t) {i:Nat} {x:Re} (hx:t.args[i]?=some x):zGL x:=by
  cases t with
  | mk k set args mn mx ng=>
  simp only[zGL] at h;replace h:=h.2;simp only[Re.args] at hx
  induction args generalizing i with
  | nil=>simp at hx
  | cons u us ih=>
    simp only[zGp] at h;cases i with
    | zero=>simp at hx;subst hx;exact h.1
    | succ i=>simp at hx;exact ih hx h.2
def zHE (n0:Nat) (t:Re):Fct:=fun v w=>∃vs Z L,v=.agg vs.toArray∧zFF Z w t vs L∧(∀x,Z x→¬L x)∧(∀x,Z x∨L x→n0≤x∧x<w.heap.size)
theorem zFS (n0:Nat) (t:Re):∀v w w',Chg zAe w w'→zHE n0 t v w→zHE n0 t v w':=by
 rintro v w w' e ⟨vs,Z,L,h1,h2,h3,h4⟩;exact ⟨vs,Z,L,h1,zFF.ext e t h2,h3,fun x hx=>⟨(h4 x hx).1,Nat.lt_of_lt_of_le (h4 x hx).2 e.size⟩⟩
def zPV (n0:Nat) (t:Re):Fct:=fun v w=>∃b vs Z L,v=.slice (some ⟨b,0,none⟩) 1 1∧Blk w b vs.toArray TRe∧zFF Z w t vs L∧(∀x,Z x→¬L x)∧(∀x,Z x∨L x→n0≤x∧x<w.heap.size)
theorem zIk (n0:Nat) (t:Re):∀v w w',Chg zAe w w'→zPV n0 t v w→zPV n0 t v w':=by
 rintro v w w' e ⟨b,vs,Z,L,h0,h1,h2,h3,h4⟩;exact ⟨b,vs,Z,L,h0,Ext.keep e h1,zFF.ext e t h2,h3,fun x hx=>⟨(h4 x hx).1,Nat.lt_of_lt_of_le (h4 x hx).2 e.size⟩⟩
theorem zSQ {N n0:Nat} {σ:Env} {w:World} {dst:Option Tmp} {ty:TypeId} {pos:String} {af:Array Edge} {g:Option (Nat×Bool)} {x:Operand} {t:Re} {vs:List Value} {Z L:Nat→Prop} (hx:ev σ x=.agg vs.toArray) (h2:zFF Z w t vs L) (h3:∀x,Z x→¬L x) (h4:∀x,Z x∨L x→n0≤x∧x<w.heap.size) :
  zCg zAe prog N ⟨dst,.buildSlice 24 1 #[(0,x)],ty,pos,af,g⟩ (zPV n0 t) σ w:=by
 have ab:=h2;obtain ⟨sa,sc,aa,ac,rfl,_⟩:=h2.form;have hn:=New.mk' w #[.int .i64 t.kind,.slice sa t.set.length sc,.slice aa t.args.length ac,.int .i64 t.mn,.int .i64 t.mx,.bool t.neg] TRe;refine zAQ (zDW (parts:=[(0,x)]) (ps:=[(0,.agg #[.int .i64 t.kind,.slice sa t.set.length sc,.slice aa t.args.length ac,.int .i64 t.mn,.int .i64 t.mx,.bool t.neg])]) (by simp only[List.map,hx]) underlying24 zAp zDg qD qD qK) hn.ext ?_;exact ⟨_,_,Z,L,rfl,hn.blk,zFF.ext hn.ext t ab,h3,fun x hx=>⟨(h4 x hx).1,Nat.lt_of_lt_of_le (h4 x hx).2 hn.ext.size⟩⟩
theorem zRp {w1 w2 w3:World} {base n1 b3:Nat} {v v':Value} {x:Re} {vs:List Value} {ts:List Re} {rows:List (List Value)} {Z L Z1 L1:Nat→Prop}
  (hTs:zBg Z w1 ts rows L) (hT:zFF Z1 w1 x vs L1) (hd1:∀y,Z y→¬L y) (hd2:∀y,Z y∨L y→base≤y∧y<n1) (hd3:∀q,v.ownBlock=some q→(¬Z q∧¬L q)∧(base≤q∧q<n1)) (he1:∀y,Z1 y→¬L1 y) (he2:∀y,Z1 y∨L1 y→n1≤y∧y<w1.heap.size)
  (C:Chg (fun y=>v.ownBlock=some y) w1 w2) (hD:∀q,v'.ownBlock=some q→v.ownBlock=some q∨w1.heap.size≤q) (C3:Chg (fun y=>y=b3) w2 w3) (hb3:b3<base) (hbn:base≤n1) (hnw:n1≤w1.heap.size) :
  zBg (fun y=>Z y∨Z1 y) w3 (ts++[x]) (rows++[vs]) (fun y=>L y∨L1 y)∧(∀y,(Z y∨Z1 y)→¬(L y∨L1 y))∧(∀y,(Z y∨Z1 y)∨(L y∨L1 y)→base≤y∧y<w3.heap.size)∧(∀q,v'.ownBlock=some q→¬(Z q∨Z1 q)∧¬(L q∨L1 q)):=by
 have hs2:=C.size;have hs3:=C3.size;have kz:∀y,Z y→¬v.ownBlock=some y:=fun y hy h=>(hd3 y h).1.1 hy;have kl:∀y,L y→¬v.ownBlock=some y:=fun y hy h=>(hd3 y h).1.2 hy;have aa:∀y,Z1 y→¬v.ownBlock=some y:=fun y hy h=>by have:=(hd3 y h).2;have:=he2 y (.inl hy);omega
 have kl1:∀y,L1 y→¬v.ownBlock=some y:=fun y hy h=>by have:=(hd3 y h).2;have:=he2 y (.inr hy);omega
 have mz:∀y,Z y→¬y=b3:=fun y hy h=>by have:=hd2 y (.inl hy);omega
 have ml:∀y,L y→¬y=b3:=fun y hy h=>by have:=hd2 y (.inr hy);omega
 have ac:∀y,Z1 y→¬y=b3:=fun y hy h=>by have:=he2 y (.inl hy);omega
 have ab:∀y,L1 y→¬y=b3:=fun y hy h=>by have:=he2 y (.inr hy);omega
 have h1:=zBg.chg C3 mz ts ml (zBg.chg C kz ts kl hTs);have h2:=zFF.chg C3 ac x ab (zFF.chg C aa x kl1 hT);refine ⟨zBg.snoc (zFF.mono (fun _ h=>.inr h) x (fun _ h=>h) h2) (zBg.mono (fun _ h=>.inl h) ts (fun _ h=>h) h1) (fun y a b=>by have:=hd2 y (.inr a);have:=he2 y (.inr b);omega),?_,?_,?_⟩
 ·rintro y (a|a) (b|b)
  ·exact hd1 y a b
  ·have:=hd2 y (.inl a);have:=he2 y (.inr b);omega
  ·have:=hd2 y (.inr b);have:=he2 y (.inl a);omega
  ·exact he1 y a b
 ·rintro y ((a|a)|(a|a))
  ·have:=hd2 y (.inl a);omega
  ·have:=he2 y (.inl a);omega
  ·have:=hd2 y (.inr a);omega
  ·have:=he2 y (.inr a);omega
 ·intro q hq;rcases hD q hq with h|h
  ·refine ⟨?_,?_⟩
   ·rintro (a|a);exact kz q a h;exact aa q a h
   ·rintro (a|a);exact kl q a h;exact kl1 q a h
  ·refine ⟨?_,?_⟩
   ·rintro (a|a);have:=hd2 q (.inl a);omega;have:=he2 q (.inl a);omega
   ·rintro (a|a);have:=hd2 q (.inr a);omega;have:=he2 q (.inr a);omega
theorem zRq {w:World} {base n0 sc lc:Nat} {t:Re} {sa la:Option Addr} {rows:List (List Value)} {Z L Z0:Nat→Prop} (hown:w.ownsRow base TRe 6 (.slice la t.args.length lc) t.args.length rows.flatten) (hTs:zBg Z w t.args rows L)
    (hset:zDk Z0 w 2 (.slice sa t.set.length sc) (t.set.map zBw)) (hd1:∀x,Z x→¬L x) (hd2:∀x,Z x∨L x→base≤x∧x<w.heap.size) (hd3:∀q,(Value.slice la t.args.length lc).ownBlock=some q→¬Z q∧¬L q) (hz0:∀x,Z0 x→n0≤x∧x<base) (hn0:n0≤base) (hbs:base≤w.heap.size) :
    zHE n0 t (.agg #[.int .i64 t.kind,.slice sa t.set.length sc,.slice la t.args.length lc,.int .i64 t.mn,.int .i64 t.mx,.bool t.neg]) w:=by
  refine ⟨[.int .i64 t.kind,.slice sa t.set.length sc,.slice la t.args.length lc,.int .i64 t.mn,.int .i64 t.mx,.bool t.neg],fun x=>Z x∨Z0 x,fun x=>L x∨(Value.slice la t.args.length lc).ownBlock=some x,rfl,?_,?_,?_⟩
  · have hlt:=hown.lt;cases t with
    | mk k set args mn mx ng=>
    simp only[Re.kind,Re.set,Re.args,Re.mn,Re.mx,Re.neg] at *;simp only[zFF];refine ⟨sa,sc,la,lc,rfl,hset.mono fun _ h=>.inr h,?_,?_⟩
    · rcases hown.2 with ⟨h1,h2⟩|⟨q,ab,aa,h1,h2,h3,h4,h5,h6,h7⟩
      · simp at h1;omega
      · simp only[Value.slice.injEq] at h1;obtain ⟨_,_,rfl⟩:=h1;simp only[maxLen] at h5;exact ⟨h4,qO⟩
    · rcases hown.2 with ⟨h1,h2⟩|⟨q,ab,aa,h1,h2,h3,h4,h5,h6,h7⟩
      · exact .inl (List.eq_nil_of_length_eq_zero h2)
      · simp only[Value.slice.injEq] at h1;obtain ⟨rfl,_,rfl⟩:=h1;refine .inr ⟨q,rows,aa.toList.drop (args.length*6),L,.inr rfl,rfl,?_,zBg.six hTs,zBg.mono (fun _ h=>.inl h) args (fun _ h=>h) hTs,fun x hx=>⟨.inl hx,fun h=>?_⟩⟩
        · have:(rows.flatten++aa.toList.drop (args.length*6)).toArray=aa:=by rw[←h7,List.take_append_drop]
          rw[this];exact h3
        · subst h;exact (hd3 x rfl).2 hx
  · rintro x (a|a) (b|b)
    · exact hd1 x a b
    · exact (hd3 x b).1 a
    · have:=hz0 x a;have:=hd2 x (.inr b);omega
    · have:=hz0 x a;have:=hown.lt x b;omega
  · rintro x ((a|a)|(a|a))
    · have:=hd2 x (.inl a);omega
    · have:=hz0 x a;omega
    · have:=hd2 x (.inr a);omega
    · have:=hown.lt x a;omega
theorem zOX {n0 n1:Nat} (h:n1≤n0) {t:Re} {v:Value} {w:World} (hc:zHE n0 t v w):zHE n1 t v w:=by
 obtain ⟨vs,Z,L,h1,h2,h3,h4⟩:=hc;exact ⟨vs,Z,L,h1,h2,h3,fun x hx=>⟨Nat.le_trans h (h4 x hx).1,(h4 x hx).2⟩⟩
theorem zRr {n0 b:Nat} {t:Re} {v:Value} {w w':World} (c:Chg (fun y=>y=b) w w') (hb:b<n0) (hc:zHE n0 t v w):zHE n0 t v w':=by
 obtain ⟨vs,Z,L,h1,h2,h3,h4⟩:=hc;exact ⟨vs,Z,L,h1,zFF.chg c (fun x hx h=>by have:=h4 x (.inl hx);omega) t (fun x hx h=>by have:=h4 x (.inr hx);omega) h2,h3,fun x hx=>⟨(h4 x hx).1,Nat.lt_of_lt_of_le (h4 x hx).2 c.size⟩⟩
theorem zYQ:∀(n:Nat) (t:Re) (w0:World) (vs:List Value),t.size≤n→t.size≤1000000→zGL t→zBm w0 t vs→
    Ret prog 33 #[.agg vs.toArray] w0 fun v w=>zHE w0.heap.size t v w∧Ext w0 w:=by
  intro n
  induction n with
  | zero=>intro t w0 vs hn;have:=t.size_pos;omega
  | succ n ih=>
  intro t w0 vs hn hM ba ht;have b9:=ht;obtain ⟨sa,sc,aa,ac,rfl,b6,hac,_⟩:=ht.form;have hal:t.args.length≤t.size:=by
    have h1:=t.size_eq;have:∀ts:List Re,ts.length≤Re.sizes ts:=by
      intro ts
      induction ts with
      | nil=>simp
      | cons x xs ih=>have:=x.size_pos;simp only[List.length_cons,Re.sizes];omega
    have:=this t.args;omega
  refine qR func33 rfl ntmps33 rfl (fun E=>(zAA (zBY (v:=(.agg (R6 t sa sc aa ac))) (c:=(R6 t sa sc aa ac)) qD rfl rfl ?_)));intro br wr Nr;have Fr:=Nr.ge E;replace E:=E.ext Nr.ext;have Br:=Nr.blk;refine zBB (c:=#[(I6 0),(.slice none 0 0),(.slice none 0 0),(I6 0),(I6 0),(.bool false)]) qD zDg rfl ?_;intro bp wp Np;have Fp:=Np.ge E;have Op_br:=Np.lt Br;replace Br:=Np.keep Br;replace E:=E.ext Np.ext;have Bp:=Np.blk;refine zAB (zAA (qV (zAP (vs:=[(I6 t.kind),(.slice sa t.set.length sc),(.slice aa t.args.length ac),(I6 t.mn),(I6 t.mx),(.bool t.neg)]) rfl zBZ zAp rfl (Br.cells rfl)) (zAd (v:=(.agg (R6 t sa sc aa ac))) (c:=(R6 t sa sc aa ac)) (n:=6) qD zDg rfl zAp rfl rfl rfl qS ?_)));intro bq wq Nq;have Fq:=Nq.ge E;have Oq_br:=Nq.lt Br;have Oq_bp:=Nq.lt Bp;replace Br:=Nq.keep Br;replace Bp:=Nq.keep Bp;replace E:=E.ext Nq.ext;have Bq:=Nq.blk;refine zAB (zAA (qF br 0 1 rfl underlying26 rfl zCi rfl (qV (zAG rfl zCs (Br.cell rfl)) ?_)));obtain ⟨n3,b0⟩:∃n3,n3=wq.heap.size:=⟨_,rfl⟩;have hq3:=Bq.lt;refine qE rfl (zAU func66 kQ kQ rfl) (zWn _ _ t.set (zCQ.ext b6 E) (zOp ba)) ?_;rintro _ w9 ⟨ak,al,rfl,ab,X9⟩;replace Br:=X9.keep Br;replace Bp:=X9.keep Bp;replace Bq:=X9.keep Bq;replace E:=E.ext X9;obtain ⟨base,ap⟩:∃base,base=w9.heap.size:=⟨_,rfl⟩;have hs9:=X9.size;rw[←ap,←b0] at ab;have af:base≤w9.heap.size:=qO
  refine qF bq 0 1 rfl underlying26 rfl zCi rfl (zAt (b:=bq) (o:=1) (c':=(R6 t ak al aa ac)) (v:=(.slice ak t.set.length al)) rfl rfl rfl zCi Bq qP rfl ?_);intro w1 S1;replace af:=Nat.le_trans af S1.chg.size;replace ab:=zDk.chg ab S1.chg (fun x hx hm=>by have bd:=hx;have aw:x=bq:=hm;omega);replace Br:=S1.keep qO Br;replace Bp:=S1.keep qO Bp;replace E:=S1.step E qQ;replace Bq:=S1.blk;refine qF bq 0 2 rfl underlying26 rfl zDn rfl (zAt (b:=bq) (o:=2) (c':=#[(I6 t.kind),(.slice ak t.set.length al),(.slice none 0 0),(I6 t.mn),(I6 t.mx),(.bool t.neg)]) (v:=(.slice none 0 0)) rfl rfl rfl zDn Bq qP rfl ?_);intro w2 S2;replace af:=Nat.le_trans af S2.chg.size;replace ab:=zDk.chg ab S2.chg (fun x hx hm=>by have bd:=hx;have aw:x=bq:=hm;omega);replace Br:=S2.keep qO Br;replace Bp:=S2.keep qO Bp;replace E:=S2.step E qQ;replace Bq:=S2.blk;refine zAB (zAH (zAA (qF br 0 2 rfl underlying26 rfl zDn rfl (qV (zAG rfl zCr (Br.cell rfl)) (qV (zAK underlying24 rfl) (qM _ rfl (zAB (zAT (zAo (fun nn_ σ W3=>∃(k:Nat) (la:Option Addr) (lc:Nat) (aj:List (List Value)) (Z:Nat→Prop) (L:Nat→Prop),(∃jj_,σ=zCT jj_ [(2,(P6 bp 0)),(3,(P6 bq 0)),(13,(.slice aa t.args.length ac)),(14,(I6 (t.args.length:Int))),(15,(I6 (k:Int)))])∧Chg zAe w0 W3∧Blk W3 br (R6 t sa sc aa ac) 26∧Blk W3 bp #[(I6 0),(.slice none 0 0),(.slice none 0 0),(I6 0),(I6 0),(.bool false)] 26∧Blk W3 bq (#[(I6 t.kind),(.slice ak t.set.length al),(.slice la k lc),(I6 t.mn),(I6 t.mx),(.bool t.neg)]) 26∧(k≤t.args.length)∧(W3.ownsRow base TRe 6 (.slice la k lc) k aj.flatten)∧(zBg Z W3 (t.args.take k) aj L)∧(∀x,Z x→¬L x)∧(∀x,Z x∨L x→base≤x∧x<W3.heap.size)∧(∀x,(Value.slice la k lc).ownBlock=some x→¬Z x∧¬L x)∧(base≤W3.heap.size)∧(zDk (fun b=>n3≤b∧b<base) W3 2 (.slice ak t.set.length al) (t.set.map zBw))∧nn_=t.args.length - k) (n:=t.args.length - 0) ?_ ?_)))))))))
  · exact ⟨0,none,0,[],(fun _=>False),(fun _=>False),zAs.out ⟨rfl,rfl,rfl,rfl,rfl,trivial⟩,E,Br,Bp,Bq,Nat.zero_le _,World.ownsRow_nil _ _ _ _,(by simp only[List.take_zero,zBg]),(fun _ f _=>f),(by rintro x (f|f)<;>exact f.elim),(by simp[Value.ownBlock]),af,ab,rfl⟩
  · clear E Br Bp Bq;rintro _ _ W3 ⟨k,la,lc,aj,Z,L,⟨j3,rfl⟩,E,Br,Bp,Bq,hk,ad,am,bf,a3,a7,af,ab,rfl⟩;refine zAA (qV (zBA rfl rfl) (zAB (zAH (qC rfl (fun b4=>?_) (fun b4=>?_)))))
    · obtain ⟨x,hx⟩:=zAJ (l:=t.args) (i:=k) qO;obtain ⟨b,o,rfl,bw⟩:=(zBm.rs b9).cells qO;obtain ⟨xs,bj,a6⟩:=bw k x hx;have a4:=a6;obtain ⟨au,ao,aq,ar,rfl,_,_,_⟩:=a6.form;obtain ⟨nk,bi⟩:∃nk,nk=(W3).heap.size:=⟨_,rfl⟩;have ae:nk≤(W3).heap.size:=qO
      have av:=ad.lt;rw[←bi] at a3 av;refine zAO (zAC (zAH (zAT (zAA (qV (zAD (b:=b) (o:=o) (len:=t.args.length) (cap:=ac) (i:=k) (o':=o+k*6) rfl rfl rfl underlying24 zAp qO qO) (qV (zAP rfl zBZ zAp rfl (bj.ext E)) (zAd (v:=(.agg (R6 x au ao aq ar))) (c:=(R6 x au ao aq ar)) (n:=6) qD zDg rfl zAp rfl rfl rfl qS ?_)))))));intro bs ws Ns;have Fs:=Ns.ge E;have Os_br:=Ns.lt Br;have Os_bp:=Ns.lt Bp;have Os_bq:=Ns.lt Bq;replace Br:=Ns.keep Br;replace Bp:=Ns.keep Bp;replace Bq:=Ns.keep Bq;replace ab:=zDk.chg ab Ns.ext (fun _ _ f=>f);replace af:=Nat.le_trans af Ns.ext.size;replace ae:=Nat.le_trans ae Ns.ext.size;replace ad:=zAg ad Ns.ext;replace am:=zBg.ext Ns.ext _ am;replace E:=E.ext Ns.ext;have Bs:=Ns.blk;refine zAB ?_;obtain ⟨n1,bh⟩:∃n1,n1=ws.heap.size:=⟨_,rfl⟩;have b5:nk≤n1:=by rw[bh];exact ae
      have ag:n1≤ws.heap.size:=qO
      have ax:base≤n1:=by rw[bh];exact af
      obtain ⟨bz,ah⟩:∃Fs:List (FactT (zAe)),Fs=[.eq (P6 bq 2),.eq (.slice la k lc),.eq (.agg (R6 x au ao aq ar)),.gen (zHE n1 x) (zFS n1 x),.gen (zPV n1 x) (zIk n1 x)]:=⟨_,rfl⟩;refine zFW (zAe) 5 3 [19,20,21,22,23] [[],[0],[],[2],[3]] bz ah rfl mixed qK qK qK ?_ ?_
      · intro wd X0;refine DagStepsT.cons (fun s' w' X U H=>?_) ?_
        · exact zAQ (zAY (U 3 rfl) underlying26 rfl zDn rfl) (Chg.refl _ _) rfl
        refine DagStepsT.cons (fun s' w' X U H=>?_) ?_
        · have bu:s' 19=(.pointer (some ⟨bq,2,none⟩)):=H 0 rfl 19 (.eq (.pointer (some ⟨bq,2,none⟩))) rfl (by rw[ah];rfl);exact zAQ (zAG bu zCr ((Chg.keep X (fun f=>f) (X0.keep Bq)).cell rfl)) (Chg.refl _ _) rfl
        refine DagStepsT.cons (fun s' w' X U H=>?_) ?_
        · exact zAQ (zAP (U 5 rfl) zBZ zAp rfl ((Chg.keep X (fun f=>f) (X0.keep Bs)).cells rfl)) (Chg.refl _ _) rfl
        refine DagStepsT.cons (fun s' w' X U H=>?_) ?_
        · have b7:s' 21=(.agg #[(.int .i64 x.kind),(.slice au x.set.length ao),(.slice aq x.args.length ar),(.int .i64 x.mn),(.int .i64 x.mx),(.bool x.neg)]):=H 2 rfl 21 (.eq (.agg #[(.int .i64 x.kind),(.slice au x.set.length ao),(.slice aq x.args.length ar),(.int .i64 x.mn),(.int .i64 x.mx),(.bool x.neg)])) rfl (by rw[ah];rfl);exact zCS (zAU func33 kQ kQ (zPI b7)) ((ih x _ _ (by have:=Re.size_arg hx;omega) (by have:=Re.size_arg hx;omega) (zOq ba hx) (zBm.ext ((Ext.trans E X0).trans X) x a4)).mono (fun v w2 h=>⟨zOX (by have:=X0.size;have:=X.size;omega) h.1,h.2⟩))
        refine DagStepsT.cons (fun s' w' X U H=>?_) ?_
        · obtain ⟨bo,b2,bm,bb,a9,a8,be⟩:=(show (.gen (zHE n1 x) (zFS n1 x):FactT (zAe)).In (s' 22) w' from H 3 rfl 22 (.gen (zHE n1 x) (zFS n1 x)) rfl (by rw[ah];rfl));exact (zSQ bb a9 a8 be)
        exact DagStepsT.nil
      · intro s' wd5 w5 X0 X5 U H;have b1:s' 20=(.slice la k lc):=H 1 20 (.eq (.slice la k lc)) rfl (by rw[ah];rfl);obtain ⟨bo,b2,bm,bb,a9,a8,be⟩:=(show (.gen (zHE n1 x) (zFS n1 x):FactT (zAe)).In (s' 22) w5 from H 3 22 (.gen (zHE n1 x) (zFS n1 x)) rfl (by rw[ah];rfl));obtain ⟨bx,bg,b8,bk,ca,bn,a1,bv,cb⟩:=(show (.gen (zPV n1 x) (zIk n1 x):FactT (zAe)).In (s' 23) w5 from H 4 23 (.gen (zPV n1 x) (zIk n1 x)) rfl (by rw[ah];rfl));obtain ⟨j5,rfl⟩:=zAs.out (σ:=s') (l:=[(2,(.pointer (some ⟨bp,0,none⟩))),(3,(.pointer (some ⟨bq,0,none⟩))),(13,(.slice (some ⟨b,o,none⟩) t.args.length ac)),(14,(.int .i64 ((t.args.length:Nat):Int))),(15,(.int .i64 ((k:Nat):Int))),(20,(.slice la k lc)),(23,(.slice (some ⟨bx,0,none⟩) 1 1))]) ⟨U 2 rfl,U 3 rfl,U 13 rfl,U 14 rfl,U 15 rfl,b1,ca,trivial⟩;clear U H;replace Br:=Chg.keep X5 (fun f=>f) (X0.keep Br);replace Bp:=Chg.keep X5 (fun f=>f) (X0.keep Bp);replace Bq:=Chg.keep X5 (fun f=>f) (X0.keep Bq);replace Bs:=Chg.keep X5 (fun f=>f) (X0.keep Bs);replace ab:=zDk.chg ab X0 (fun _ _ f=>f);replace ab:=zDk.chg ab X5 (fun _ _ f=>f);replace af:=Nat.le_trans af X0.size;replace af:=Nat.le_trans af X5.size;replace ae:=Nat.le_trans ae X0.size;replace ae:=Nat.le_trans ae X5.size;replace ad:=zAg ad X0;replace ad:=zAg ad X5;replace am:=zBg.ext X0 _ am;replace am:=zBg.ext X5 _ am;replace ag:=Nat.le_trans ag X0.size;replace ag:=Nat.le_trans ag X5.size;replace E:=(E.ext X0).step X5 (fun _ _ f=>f.elim);refine zBt (base:=base) (n:=k) (m:=1) (xs:=aj.flatten) (news:=bg) (size:=6) (bytes:=80) (v:=(.slice la k lc)) qD underlying24 zAp zZV zDg rfl qD rfl ad rfl (by rw[a1.len]) (bn.cells qP) (a1.one) (by unfold maxLen;omega) qO (af) ?_;intro v9 bc a2 an bt;replace Br:=an.keep (fun h=>by have:=(ad.lt _ h).1;omega) Br;replace Bp:=an.keep (fun h=>by have:=(ad.lt _ h).1;omega) Bp;replace Bq:=an.keep (fun h=>by have:=(ad.lt _ h).1;omega) Bq;replace E:=E.step an (fun x hx h=>absurd (ad.lt x h).1 qO);obtain ⟨ay,a5,rfl⟩:=zBR a2;have az:Chg (fun y=>y=bq) bc bc:=Chg.refl _ _;replace ab:=zDk.chg ab an (fun y hy hm=>by have:=(ad.lt y hm).1;have hy':=hy;omega);replace af:=Nat.le_trans af an.size;refine qF bq 0 2 rfl underlying26 rfl zDn rfl (zAt (b:=bq) (o:=2) (c':=#[(I6 t.kind),(.slice ak t.set.length al),(.slice ay (k+1) a5),(I6 t.mn),(I6 t.mx),(.bool t.neg)]) (v:=(.slice ay (k+1) a5)) rfl rfl rfl zDn Bq qP rfl ?_);intro w6 S6;replace af:=Nat.le_trans af S6.chg.size;replace ab:=zDk.chg ab S6.chg (fun x hx hm=>by have bd:=hx;have aw:x=bq:=hm;omega);replace az:=S6.chg;replace Br:=S6.keep qO Br;replace Bp:=S6.keep qO Bp;replace E:=S6.step E qQ;replace Bq:=S6.blk;refine zAB (zAS (zAC (zAF (qV (zAw rfl rfl (zBf qO)) (qM _ rfl (zAB (zAC ?_)))))));have ai:=zRp (base:=base) (n1:=n1) (b3:=bq) am a1 bf (fun y hy=>by have:=a3 y hy;omega) (fun q hq=>⟨a7 q hq,by have:=av q hq;omega⟩) bv cb an bt az qO ax ag;exact ⟨t.args.length - (k+1),qO,k+1,ay,a5,aj++[bg],(fun y=>Z y∨b8 y),(fun y=>L y∨bk y),zAs.out ⟨rfl,rfl,rfl,rfl,rfl,trivial⟩,E,Br,Bp,Bq,qO,(by have h:=zAn a2 az (fun q hq hm=>by have:=(a2.lt q hq).1;have aw:q=bq:=hm;omega);simpa using h),(by rw[List.take_add_one,hx];exact ai.1),ai.2.1,ai.2.2.1,ai.2.2.2,af,ab,rfl⟩
    · have cc:k=t.args.length:=qO
      subst cc;rw[List.take_length] at am;have a0:=zRq (n0:=n3) ad am ab bf a3 a7 (fun x h=>h) qO af;refine zAl (zAV (zAV (zAf (zAC (zAA (qV (zAP (vs:=[(I6 t.kind),(.slice ak t.set.length al),(.slice la t.args.length lc),(I6 t.mn),(I6 t.mx),(.bool t.neg)]) rfl zBZ zAp rfl (Bq.cells rfl)) (zAa (b:=bp) (o:=0) (c':=(R6 t ak al la lc)) rfl rfl qS zAp rfl Bp qL rfl ?_)))))));intro w7 S7;replace a0:=zRr S7.chg qO a0;replace Br:=S7.keep qO Br;replace Bq:=S7.keep qO Bq;replace E:=S7.step E qQ;replace Bp:=S7.blk;refine zAB (zAW (zBb results33 (vs:=[(.int .i64 t.kind),(.slice ak t.set.length al),(.slice la t.args.length lc),(.int .i64 t.mn),(.int .i64 t.mx),(.bool t.neg)]) (b:=bp) rfl zBZ zAp rfl (Bp.cells rfl) ?_));exact ⟨zOX qO a0,E⟩
end Go.Proofs
namespace Go.Proofs
open Go Go.Eng
set_option maxRecDepth 100000
def zBU (S:Nat→Prop) (w:World):List Re→List (List Value)→Prop
  | [],rows=>rows=[]
  | t::ts,rows=>∃r rs,rows=r::rs∧zBs S w t r∧zBU S w ts rs
theorem zBU.ext {S:Nat→Prop} {w w':World} (e:Ext w w'):∀{ts:List Re} {rows:List (List Value)},zBU S w ts rows→zBU S w' ts rows
  | [],_,h=>h
  | t::ts,rows,h=>by
    obtain ⟨r,rs,h1,h2,h3⟩:=h;exact ⟨r,rs,h1,zBs.ext e t h2,zBU.ext e h3⟩
theorem zBU.one {S:Nat→Prop} {w:World}:∀{ts:List Re} {rows:List (List Value)},zBU S w ts rows→∀u∈rows.flatten,u.oneCell'=true
  | [],_,h=>by simp only[zBU] at h;subst h;simp
  | t::ts,rows,h=>by
    obtain ⟨r,rs,rfl,h2,h3⟩:=h;intro u hu;rw[List.flatten_cons,List.mem_append] at hu;rcases hu with hu|hu
    · exact zBm.one (zBs.at t h2) u hu
    · exact zBU.one h3 u hu
theorem zBU.get {S:Nat→Prop} {w:World}:∀{ts:List Re} {rows:List (List Value)},zBU S w ts rows→∀{i:Nat} {t:Re},ts[i]?=some t→∃r,rows[i]?=some r∧zBs S w t r
  | [],_,_,i,t,hi=>by simp at hi
  | t::ts,rows,h,i,u,hi=>by
    obtain ⟨r,rs,rfl,h2,h3⟩:=h;cases i with
    | zero=>simp at hi;subst hi;exact ⟨r,rfl,h2⟩
    | succ i=>simp at hi;obtain ⟨q,h4,h5⟩:=zBU.get h3 hi;exact ⟨q,by simpa using h4,h5⟩
theorem zBU.append {S:Nat→Prop} {w:World} {us:List Re} {qs:List (List Value)} (hu:zBU S w us qs):∀{ts:List Re} {rows:List (List Value)},zBU S w ts rows→zBU S w (ts++us) (rows++qs)
  | [],_,h=>by simp only[zBU] at h;subst h;simpa using hu
  | t::ts,rows,h=>by
    obtain ⟨r,rs,rfl,h2,h3⟩:=h;exact ⟨r,rs++qs,rfl,h2,zBU.append hu h3⟩
theorem zBU.single {S:Nat→Prop} {w:World} {t:Re} {r:List Value} (h:zBs S w t r):zBU S w [t] [r]:=⟨r,[],rfl,h,rfl⟩
def zVK (S:Nat→Prop) (w:World) (v:Value) (ts:List Re):Prop:=∃aa ac,v=.slice aa ts.length ac∧(ts.length≤ac∧ac≤9223372036854775807)∧(ts=[]∨∃b o,S b∧aa=some ⟨b,o,none⟩∧zCO S w b o ts)
theorem zLf:∀ts:List Re,ts.length≤Re.sizes ts
  | []=>qP
  | x::xs=>by have:=x.size_pos;have:=zLf xs;simp only[List.length_cons,Re.sizes];omega
end Go.Proofs
namespace Go.Proofs
open Go Go.Eng Go.Sort
set_option maxRecDepth 100000
def dfV (d:Dfa) (ea:Option Addr) (ec:Nat) (na:Option Addr) (nc:Nat):List Value:=[.int .i64 d.start,.slice ea d.accept.length ec,.slice na d.next.length nc]
def zDe (T:Nat→Prop) (w:World) (ds:List Dfa) (rows:List (List Value)):Prop:=rows.length=ds.length∧(∀r∈rows,r.length=3)∧∀(i:Nat) (d:Dfa),ds[i]?=some d→∃ea ec na nc,rows[i]?=some (dfV d ea ec na nc)∧zBW T w d (dfV d ea ec na nc)
theorem zDe.nil {T:Nat→Prop} {w:World}:zDe T w [] []:=⟨rfl,(fun r h=>by cases h),(fun i d h=>by simp at h)⟩
theorem zEr {T A:Nat→Prop} {w w':World} (h:∀y,T y→A y∧y<w.heap.size) (x:Ext w w'):∀y,T y→A y∧y<w'.heap.size:=fun y hy=>⟨(h y hy).1,Nat.lt_of_lt_of_le (h y hy).2 x.size⟩
theorem zDe.chg {T M:Nat→Prop} {w w':World} {ds:List Dfa} {rows:List (List Value)} (h:zDe T w ds rows) (c:Chg M w w') (hM:∀b,T b→¬M b):zDe T w' ds rows:=⟨h.1,h.2.1,fun i d hd=>by
 obtain ⟨ea,ec,na,nc,h1,h2⟩:=h.2.2 i d hd;exact ⟨ea,ec,na,nc,h1,h2.put c hM⟩⟩
theorem zDe.ext {T:Nat→Prop} {w w':World} {ds:List Dfa} {rows:List (List Value)} (h:zDe T w ds rows) (c:Ext w w'):zDe T w' ds rows:=h.chg c fun _ _ f=>f
theorem zDe.mono {T T':Nat→Prop} {w:World} {ds:List Dfa} {rows:List (List Value)} (hs:∀b,T b→T' b) (h:zDe T w ds rows):zDe T' w ds rows:=⟨h.1,h.2.1,fun i d hd=>by
 obtain ⟨ea,ec,na,nc,h1,h2⟩:=h.2.2 i d hd;exact ⟨ea,ec,na,nc,h1,h2.mono hs⟩⟩
theorem zDe.snoc {T:Nat→Prop} {w:World} {ds:List Dfa} {rows:List (List Value)} {d:Dfa} {ea na:Option Addr} {ec nc:Nat} (h:zDe T w ds rows) (hd:zBW T w d (dfV d ea ec na nc)):zDe T w (ds++[d]) (rows++[dfV d ea ec na nc]):=by
 refine ⟨by simp[h.1],fun r hr=>?_,fun i e he=>?_⟩
 ·rcases List.mem_append.1 hr with hr|hr
  ·exact h.2.1 r hr
  ·rw[List.mem_singleton.1 hr];rfl
 ·rcases Nat.lt_trichotomy i ds.length with hi|hi|hi
  ·rw[List.getElem?_append_left hi] at he;obtain ⟨a1,a2,a3,a4,h1,h2⟩:=h.2.2 i e he;exact ⟨a1,a2,a3,a4,by rw[List.getElem?_append_left (by rw[h.1];exact hi)];exact h1,h2⟩
  ·subst hi;rw[List.getElem?_append_right (Nat.le_refl _),Nat.sub_self] at he;simp only[List.getElem?_cons_zero,Option.some.injEq] at he;subst he;exact ⟨ea,ec,na,nc,by rw[←h.1,List.getElem?_append_right (Nat.le_refl _),Nat.sub_self];rfl,hd⟩
  ·rw[List.getElem?_eq_none (by simp;omega)] at he;cases he
section
variable {c : Nat} {cs : List (List Sp)} {t : Re} {k : Int} {d D e : Dfa} {ds : List Dfa} {j : Nat}
theorem zPy (hk:t.kind=3∨t.kind=4∨t.kind=7) {ds:List Dfa} (h:trL c cs t.args=some (d::ds)):trN c cs t=foldK c t.kind d ds:=by
 rw[zGI,nodeO,if_neg qO,if_neg qO,if_pos hk,h];rfl
theorem zHT (hk:t.kind=3∨t.kind=4∨t.kind=7) (h:trL c cs t.args=none):trN c cs t=none:=by
 rw[zGI,nodeO,if_neg qO,if_neg qO,if_pos hk,h];rfl
theorem zWB (hk:k=3):opK c k D e=catO c D e:=if_pos hk
theorem zPB (hk:¬k=3):opK c k D e=prsO c (decide (k=7)) D e:=if_neg hk
theorem zFd (hj:ds[j]?=some e) (hf:foldK c k d (ds.take j)=some D):foldK c k d (ds.take (j+1))=opK c k D e:=by
 rw[List.take_add_one,hj,Option.toList_some,zJm,hf];rfl
theorem zGz (hj:ds[j]?=some e) (hf:foldK c k d (ds.take j)=some D) (ho:opK c k D e=none):foldK c k d ds=none:=by
 have h:=zFd (k:=k) (c:=c) hj hf;rw[ho] at h;have:=zJn (es:=ds.drop (j+1)) h
 rwa [List.take_append_drop] at this
end
theorem zVY (cs:List (List Sp)) (x:Re) (hc:1≤cs.length∧cs.length≤16) (hN:NodeI x) (hk:x.kind=3) (hla:x.args.length≤1000000) (hof:∀y∈x.args,zJK cs.length cs y):zIs cs.length cs x:=by
 intro w0 bt ca cc vs ad hC ht;have ht0:=ht;obtain ⟨sa,sc,aa,ac,rfl,cn,cm,ap⟩:=ht.form;have hcl:cs.length≤16:=hc.2;have h2:=hN.two qO;obtain ⟨y,hy⟩:=zAJ (l:=x.args) (i:=0) qO;obtain ⟨ab,ao,rfl,ar⟩:=zGB ap qO;obtain ⟨us,b9,b3⟩:=ar.get hy;have bh:=b3;obtain ⟨bs,b2,b5,bw,rfl,_,_,_⟩:=b3.form;have cd:x.args.take 1=[]++[y]:=by rw[List.take_add_one,hy];rfl
 have a5:x.kind=3∨x.kind=4∨x.kind=7:=qO
 refine zDj func105 rfl ntmps105 (leT rfl) ?_;have E:Chg zAe w0 w0:=Chg.refl _ _;refine zAA (zBY (v:=(.agg (R6 x sa sc (some ⟨ab,ao,none⟩) ac))) (c:=(R6 x sa sc (some ⟨ab,ao,none⟩) ac)) qD rfl rfl ?_);intro bb wb Nb;have Fb:=Nb.ge E;have Ob_bt:=Nb.lt ad;replace ad:=Nb.keep ad;replace E:=E.ext Nb.ext;have Bb:=Nb.blk;refine zBB (c:=#[(I6 0),(.slice none 0 0),(.slice none 0 0)]) qD zBn rfl ?_;intro br wr Nr;have Fr:=Nr.ge E;have Or_bt:=Nr.lt ad;have Or_bb:=Nr.lt Bb;replace ad:=Nr.keep ad;replace Bb:=Nr.keep Bb;replace E:=E.ext Nr.ext;have Br:=Nr.blk;refine zAB (zAA (qM _ rfl (qV (zBd rfl) (qF bt 0 0 rfl underlying108 rfl zHg rfl (qV (zAG rfl zES (ad.cell rfl)) (qV (zAK underlying35 rfl) (qA _ rfl (zAB (zAH (zAA (qF bb 0 0 rfl underlying26 rfl zAv rfl (qV (zAG rfl zAm (Bb.cell rfl)) (zAB (zAT (zAA (qV (zAq rfl rfl) (qA _ rfl (zAB ?_))))))))))))))))));have cj:(decide ((x.kind:Int)=1))=false:=decide_eq_false qO;refine zAN (cbk cj) (zAA (qV (zAq rfl rfl) (qA _ rfl (zAB ?_))));have cq:(decide ((x.kind:Int)=2))=false:=decide_eq_false qO;refine zAN (cbk cq) (zAH (zAA (qV (zAq rfl rfl) (qA _ rfl (zAB ?_)))));have bd:(decide ((x.kind:Int)=3))=true:=decide_eq_true hk;refine zAk (cbk bd) (zAO (zAC (zAk (cbk bd) (zAA (qM _ rfl (qF bb 0 2 rfl underlying26 rfl zDn rfl (qV (zAG rfl zCr (Bb.cell rfl)) (qV (zAD (b:=ab) (o:=ao) (len:=x.args.length) (cap:=ac) (i:=0) (o':=ao+0*6) rfl rfl rfl underlying24 zAp qO qO) (qV (zAP (vs:=[(I6 y.kind),(.slice bs y.set.length b2),(.slice b5 y.args.length bw),(I6 y.mn),(I6 y.mx),(.bool y.neg)]) rfl zBZ zAp rfl (b9.ext E)) ?_)))))))));obtain ⟨n9,bn⟩:∃n9,n9=(wr).heap.size:=⟨_,rfl⟩;have cp:br<n9∧w0.heap.size≤n9:=⟨by rw[bn];exact Br.lt,by rw[bn];exact E.size⟩;refine zBX rfl rfl qD (zAU (vs:=[(P6 bt 0),(.agg (R6 y bs b2 b5 bw))]) func70 kQ kQ rfl) (((hof y (List.mem_of_getElem? hy) _ bt ca cc _ ad (hC.ext E) (zBm.ext E y bh)).mono (R':=fun r w'=>(∃d,trO cs.length cs y=some d∧GoodD cs.length d∧d.next.length≤200∧zJz (fun b=>n9≤b) d r w')∧Ext _ w') (fun r w' h=>⟨by obtain ⟨d,h1,h2,h3,h4⟩:=h.1;exact ⟨d,h1,h2,h3,h4.mono fun b hb=>by rw[bn];exact hb.1⟩,h.2⟩) (fun _ h=>h))) (fun w' h=>And.intro rfl ⟨zHT a5 (zEn hy h.1),E.ext h.2⟩) ?_;rintro _ w9 ⟨⟨d,hd,gd,hd2,ea,ec,na,nc,rfl,hD⟩,X9⟩;replace ad:=X9.keep ad;replace Bb:=X9.keep Bb;replace Br:=X9.keep Br;replace E:=E.ext X9;have cv:∃m9,m9=w9.heap.size:=⟨_,rfl⟩;obtain ⟨m9,ce⟩:=cv;replace hD:=zBW.chg hD (Chg.refl zAe _) (fun _ _ _ f=>f);rw[←ce] at hD;refine zAd (v:=(.agg #[(I6 d.start),(.slice ea d.accept.length ec),(.slice na d.next.length nc)])) (c:=#[(I6 d.start),(.slice ea d.accept.length ec),(.slice na d.next.length nc)]) (n:=3) qD zBn rfl zAi rfl rfl rfl qS ?_;intro ba wa Na;have Fa:=Na.ge E;have Oa_bt:=Na.lt ad;have Oa_bb:=Na.lt Bb;have Oa_br:=Na.lt Br;replace ad:=Na.keep ad;replace Bb:=Na.keep Bb;replace Br:=Na.keep Br;replace hD:=hD.ext Na.ext;replace E:=E.ext Na.ext;have Ba:=Na.blk;refine zAB (zAA (qA (.slice none 0 0) rfl (zAB (zAH (zAA (qF bb 0 2 rfl underlying26 rfl zDn rfl (qV (zAG (v:=(.slice (some ⟨ab,ao,none⟩) x.args.length ac)) rfl zCr (Bb.cell rfl)) ?_)))))));obtain ⟨sl,a1⟩:∃a':Option Addr,(if ac=1 then (some ⟨ab,ao,none⟩) else Option.map (fun q:Addr=>q.add (1*6)) (some ⟨ab,ao,none⟩))=a':=⟨_,rfl⟩;refine qV (zFL (a:=(some ⟨ab,ao,none⟩)) (len:=x.args.length) (cap:=ac) (lo:=1) (l:=1) (n':=(x.args.length - 1)) (c':=(ac - 1)) underlying24 zAp rfl rfl qO qO a1 qO qO) ?_;rw[if_neg qO] at a1;simp only[Option.map_some,Addr.add_lit] at a1;subst a1;obtain ⟨n1,am⟩:∃n1,n1=(wa).heap.size:=⟨_,rfl⟩;have hob:br<n1∧ba<n1∧w0.heap.size≤n1∧br<n9∧m9≤ba∧w0.heap.size≤ba∧w0.heap.size≤br∧br<ba∧bb<n1∧bt<n1:=⟨by rw[am];exact Br.lt,by rw[am];exact Ba.lt,by rw[am];exact E.size,cp.1,by have:=Na.eq;omega,qO,qO,by have:=Na.eq;have:=X9.size;omega,by rw[am];exact Bb.lt,by rw[am];exact ad.lt⟩;have co:zBW (fun b=>w0.heap.size≤b∧b≠ba∧b≠br∧b<n1) (wa) d [.int .i64 d.start,.slice ea d.accept.length ec,.slice na d.next.length nc]:=hD.mono fun b hb=>⟨by have:=hb.1;omega,by have:=hb.2;omega,by have:=hb.1;omega,by have:=hb.2;omega⟩;refine qV (zAK underlying24 rfl) (qM _ rfl (zAB (zAT (zAo (fun nn_ σ W4=>∃(i:Nat) (la:Option Addr) (lc:Nat) (ae:List (List Value)) (ds:List Dfa) (T:Nat→Prop),(∃jj_,σ=zCT jj_ [(0,(P6 bt 0)),(3,(P6 bb 0)),(4,(P6 br 0)),(9,(P6 ba 0)),(84,(.slice (some ⟨ab,ao+1*6,none⟩) (x.args.length - 1) (ac - 1))),(85,(I6 ((x.args.length - 1:Nat):Int))),(86,(I6 (i:Int))),(10,(.slice la i lc))])∧Chg zAe w0 W4∧Blk W4 bt #[(.slice ca cs.length cc)] 108∧Blk W4 bb (R6 x sa sc (some ⟨ab,ao,none⟩) ac) 26∧Blk W4 br #[(I6 0),(.slice none 0 0),(.slice none 0 0)] 34∧Blk W4 ba #[(I6 d.start),(.slice ea d.accept.length ec),(.slice na d.next.length nc)] 34∧(i≤x.args.length - 1)∧(W4.ownsRow n1 34 3 (.slice la i lc) i ae.flatten)∧(zDe T W4 ds ae)∧(ds.length=i)∧(∀e∈ds,GoodD cs.length e)∧(trL cs.length cs (x.args.take (i+1))=some (d::ds))∧(zBW (fun b=>w0.heap.size≤b∧b≠ba∧b≠br∧b<n1) W4 d [.int .i64 d.start,.slice ea d.accept.length ec,.slice na d.next.length nc])∧(n1≤W4.heap.size)∧(∀y,T y→n1≤y∧y<W4.heap.size)∧(∀b,(Value.slice la i lc).ownBlock=some b→¬T b)∧nn_=x.args.length - 1 - i) (n:=x.args.length - 1 - 0) ?_ ?_))))
 ·exact ⟨0,none,0,[],[],(fun _=>False),zAs.out ⟨rfl,rfl,rfl,rfl,rfl,rfl,rfl,rfl,trivial⟩,E,ad,Bb,Br,Ba,Nat.zero_le _,World.ownsRow_nil _ _ _ _,zDe.nil,rfl,(fun e h=>by cases h),(by rw[cd];exact zEm (ts:=[]) (ds:=[]) hd (by simp[trL])),co,(by rw[am];exact Nat.le_refl _),(fun y h=>h.elim),(fun b _ h=>h),rfl⟩
 ·clear E ad Bb Br Ba;rintro _ _ W4 ⟨i,la,lc,ae,ds,T,⟨j4,rfl⟩,E,ad,Bb,Br,Ba,hi,hO,hR,bp,hG,a9,hD,ak,hT,bm,rfl⟩;refine zAA (qV (zBA rfl rfl) (zAB (zAH (qC rfl (fun be=>?_) (fun be=>?_)))))
  ·obtain ⟨z,hz⟩:=zAJ (l:=x.args) (i:=i+1) qO;obtain ⟨uz,ct,b1⟩:=ar.get hz;have bq:=b1;obtain ⟨a0,az,ax,ay,rfl,_,_,_⟩:=b1.form;refine zAO (zAC (zAH (zAT (zAA (qV (zAD (b:=ab) (o:=ao+1*6) (len:=x.args.length - 1) (cap:=ac - 1) (i:=i) (o':=ao+1*6+i*6) rfl rfl rfl underlying24 zAp qO qO) (qV (zAP (vs:=[(I6 z.kind),(.slice a0 z.set.length az),(.slice ax z.args.length ay),(I6 z.mn),(I6 z.mx),(.bool z.neg)]) rfl zBZ zAp rfl ((by have h9:=ct.ext E;rwa [show ao+(i+1)*6=ao+1*6+i*6 by omega] at h9))) (zAd (v:=(.agg (R6 z a0 az ax ay))) (c:=(R6 z a0 az ax ay)) (n:=6) qD zDg rfl zAp rfl rfl rfl qS ?_)))))));intro bu wu Nu;have Fu:=Nu.ge E;have Ou_bt:=Nu.lt ad;have Ou_bb:=Nu.lt Bb;have Ou_br:=Nu.lt Br;have Ou_ba:=Nu.lt Ba;replace ad:=Nu.keep ad;replace Bb:=Nu.keep Bb;replace Br:=Nu.keep Br;replace Ba:=Nu.keep Ba;replace hO:=zAg hO Nu.ext;replace hR:=hR.ext Nu.ext;replace ak:=Nat.le_trans ak Nu.ext.size;replace hD:=hD.ext Nu.ext;replace hT:=zEr hT Nu.ext;replace E:=E.ext Nu.ext;have Bu:=Nu.blk;refine zAB (zAF (qM _ rfl (qM _ rfl (qV (zAP (vs:=[(I6 z.kind),(.slice a0 z.set.length az),(.slice ax z.args.length ay),(I6 z.mn),(I6 z.mx),(.bool z.neg)]) rfl zBZ zAp rfl (Bu.cells rfl)) ?_))));obtain ⟨n2,a3⟩:∃n2,n2=(wu).heap.size:=⟨_,rfl⟩;have ch:n1≤n2:=by rw[a3];exact ak
   have bx:∀b,(Value.slice la i lc).ownBlock=some b→n1≤b∧b<n2:=fun b hb=>⟨(hO.lt b hb).1,by rw[a3];exact (hO.lt b hb).2⟩;refine zBX rfl rfl qD (zAU func70 kQ kQ rfl) (((hof z (List.mem_of_getElem? hz) _ bt ca cc _ ad (hC.ext E) (zBm.ext E z bq)).mono (R':=fun r w'=>(∃d,trO cs.length cs z=some d∧GoodD cs.length d∧d.next.length≤200∧zJz (fun b=>n2≤b) d r w')∧Ext _ w') (fun r w' h=>⟨by obtain ⟨d,h1,h2,h3,h4⟩:=h.1;exact ⟨d,h1,h2,h3,h4.mono fun b hb=>by rw[a3];exact hb.1⟩,h.2⟩) (fun _ h=>h))) (fun w' h=>And.intro rfl ⟨zHT a5 (zEn hz h.1),E.ext h.2⟩) ?_;rintro _ bc ⟨⟨e,he,ge,he2,fa,fc,ga,gc,rfl,aq⟩,af⟩;replace ad:=af.keep ad;replace Bb:=af.keep Bb;replace Br:=af.keep Br;replace Ba:=af.keep Ba;replace Bu:=af.keep Bu;replace hO:=zAg hO af;replace hR:=hR.ext af;replace ak:=Nat.le_trans ak af.size;replace hD:=hD.ext af;replace hT:=zEr hT af;replace E:=E.ext af;replace aq:=zBW.chg aq (Chg.refl zAe _) (fun _ _ _ f=>f);refine zAc (ps:=[(0,(.agg #[(I6 e.start),(.slice fa e.accept.length fc),(.slice ga e.next.length gc)]))]) (c:=#[(I6 e.start),(.slice fa e.accept.length fc),(.slice ga e.next.length gc)]) qD rfl underlying177 zAi zBn qD qD qK ?_;intro bz wz Nz;have Fz:=Nz.ge E;have Oz_bt:=Nz.lt ad;have Oz_bb:=Nz.lt Bb;have Oz_br:=Nz.lt Br;have Oz_ba:=Nz.lt Ba;have Oz_bu:=Nz.lt Bu;replace ad:=Nz.keep ad;replace Bb:=Nz.keep Bb;replace Br:=Nz.keep Br;replace Ba:=Nz.keep Ba;replace Bu:=Nz.keep Bu;replace hO:=zAg hO Nz.ext;replace hR:=hR.ext Nz.ext;replace ak:=Nat.le_trans ak Nz.ext.size;replace hD:=hD.ext Nz.ext;replace hT:=zEr hT Nz.ext;replace aq:=aq.ext Nz.ext;replace E:=E.ext Nz.ext;have Bz:=Nz.blk;have hQ9:True:=trivial;refine zBt (base:=n1) (n:=i) (m:=1) (xs:=ae.flatten) (news:=[(I6 e.start),(.slice fa e.accept.length fc),(.slice ga e.next.length gc)]) (size:=3) (bytes:=56) (v:=(.slice la i lc)) qD underlying177 zAi zWr zBn rfl qD rfl hO rfl (rfl) (Bz.cells rfl) qS (by unfold maxLen;omega) qO (ak) ?_;intro v9 bi b0 aj b8;replace ad:=aj.keep (fun h=>by have:=(hO.lt _ h).1;omega) ad;replace Bb:=aj.keep (fun h=>by have:=(hO.lt _ h).1;omega) Bb;replace Br:=aj.keep (fun h=>by have:=(hO.lt _ h).1;omega) Br;replace Ba:=aj.keep (fun h=>by have:=(hO.lt _ h).1;omega) Ba;replace E:=E.step aj (fun x hx h=>absurd (hO.lt x h).1 qO);obtain ⟨cf,cu,rfl⟩:=zBR b0;have hz1:=Nz.ext.size;have hz2:=aj.size;have hz3:=af.size;have aw:∀y,(T y∨(n2≤y∧y<bc.heap.size))→n1≤y∧y<(bi).heap.size∧(Value.slice la i lc).ownBlock≠some y:=by
    intro y hy;rcases hy with hy|⟨hy,hy2⟩
    ·exact ⟨(hT y hy).1,by have:=(hT y hy).2;omega,fun hb=>bm y hb hy⟩
    ·exact ⟨qO,qO,fun hb=>by have:=bx y hb;omega⟩
   have b6:zDe (fun y=>T y∨(n2≤y∧y<bc.heap.size)) (bi) (ds++[e]) (ae++[dfV e fa fc ga gc]):=((hR.chg aj fun y hy hm=>bm y hm hy).mono fun y hy=>.inl hy).snoc ((aq.put aj fun y hy hm=>(aw y (.inr hy)).2.2 hm).mono fun y hy=>.inr hy);refine qA _ rfl (zAB (zAS (zAC (zAF (qV (zAw rfl rfl (zBf qO)) (qM _ rfl (zAB (zAC ?_))))))));exact ⟨x.args.length - 1 - (i+1),qO,i+1,cf,cu,ae++[dfV e fa fc ga gc],ds++[e],(fun y=>T y∨(n2≤y∧y<bc.heap.size)),zAs.out ⟨rfl,rfl,rfl,rfl,rfl,rfl,rfl,rfl,trivial⟩,E,ad,Bb,Br,Ba,qO,(by simpa[dfV] using b0),b6,(by simp[bp]),(fun d9 h9=>by rcases List.mem_append.1 h9 with h8|h8;exact hG d9 h8;rw[List.mem_singleton.1 h8];exact ge),(by rw[List.take_add_one,hz,Option.toList_some];exact zEm he a9),hD.put aj (fun y hy hm=>by have:=(bx y hm).1;have:=hy.2.2.2;omega),Nat.le_trans ak aj.size,(fun y hy=>⟨(aw y hy).1,(aw y hy).2.1⟩),(fun b hb hy=>by rcases b8 b hb with h|h;exact (aw b hy).2.2 h;rcases hy with hy|hy;have:=(hT b hy).2;omega;have:=hy.2;omega),rfl⟩
  ·have b4:i=x.args.length - 1:=qO
   rw[b4] at hO bp a9 bm;rw[b4];have a2:trL cs.length cs x.args=some (d::ds):=by rw[←a9,List.take_of_length_le qO]
   have an:=zPy (cs:=cs) (c:=cs.length) a5 a2;refine zAl (zAV (zAV (zAf (zAC (zAH (zAA (qM _ rfl (qV (zAK underlying177 rfl) (qM _ rfl (zAB (zAT (zAo (fun nn_ σ W6=>∃(j:Nat) (D:Dfa) (pa qa:Option Addr) (pc qc:Nat),(∃jj_,σ=zCT jj_ [(3,(P6 bb 0)),(4,(P6 br 0)),(9,(P6 ba 0)),(97,(.slice la (x.args.length - 1) lc)),(98,(I6 ((x.args.length - 1:Nat):Int))),(99,(I6 (j:Int)))])∧Chg zAe w0 W6∧Blk W6 bt #[(.slice ca cs.length cc)] 108∧Blk W6 bb (R6 x sa sc (some ⟨ab,ao,none⟩) ac) 26∧Blk W6 br #[(I6 0),(.slice none 0 0),(.slice none 0 0)] 34∧Blk W6 ba (#[.int .i64 D.start,.slice pa D.accept.length pc,.slice qa D.next.length qc]) 34∧(j≤x.args.length - 1)∧(foldK cs.length x.kind d (ds.take j)=some D)∧(GoodD cs.length D)∧(zBW (fun b=>w0.heap.size≤b∧b≠ba∧b≠br) W6 D [.int .i64 D.start,.slice pa D.accept.length pc,.slice qa D.next.length qc])∧(zDe T W6 ds ae)∧(W6.ownsRow n1 34 3 (.slice la (x.args.length - 1) lc) (x.args.length - 1) ae.flatten)∧nn_=x.args.length - 1 - j) (n:=x.args.length - 1 - 0) ?_ ?_))))))))))))
   ·exact ⟨0,d,ea,na,ec,nc,zAs.out ⟨rfl,rfl,rfl,rfl,rfl,rfl,trivial⟩,E,ad,Bb,Br,Ba,Nat.zero_le _,rfl,gd,(hD.mono fun b hb=>⟨hb.1,hb.2.1,hb.2.2.1⟩),hR,hO,rfl⟩
   ·clear E ad Bb Br Ba;rintro _ _ W6 ⟨j,D,pa,qa,pc,qc,⟨j6,rfl⟩,E,ad,Bb,Br,Ba,hj,hf,gD,ah,hR,hO,rfl⟩;refine zAA (qV (zBA rfl rfl) (zAB (zAH (qC rfl (fun bf=>?_) (fun bf=>?_)))))
    ·obtain ⟨e,he⟩:=zAJ (l:=ds) (i:=j) qO;obtain ⟨fa,fc,ga,gc,av,al⟩:=hR.2.2 j e he;unfold dfV at av al;obtain ⟨ob,oo,rfl,au⟩:=zCQ.at (zCz hO hR.2.1 (by rw[hR.1,bp]) qD) qO;refine zAO (zAC (zAH (zAT (zAA (qV (zAD (b:=ob) (o:=oo) (len:=x.args.length - 1) (cap:=lc) (i:=j) (o':=oo+j*3) rfl rfl rfl underlying177 zAi qO qO) (qV (zAP rfl zBC zAi rfl (au j _ av)) (zAd (v:=(.agg #[(I6 e.start),(.slice fa e.accept.length fc),(.slice ga e.next.length gc)])) (c:=#[(I6 e.start),(.slice fa e.accept.length fc),(.slice ga e.next.length gc)]) (n:=3) qD zBn rfl zAi rfl rfl rfl qS ?_)))))));intro bv wv Nv;have Fv:=Nv.ge E;have Ov_bt:=Nv.lt ad;have Ov_bb:=Nv.lt Bb;have Ov_br:=Nv.lt Br;have Ov_ba:=Nv.lt Ba;replace ad:=Nv.keep ad;replace Bb:=Nv.keep Bb;replace Br:=Nv.keep Br;replace Ba:=Nv.keep Ba;replace hO:=zAg hO Nv.ext;replace hR:=hR.ext Nv.ext;replace ah:=ah.ext Nv.ext;replace al:=al.ext Nv.ext;replace E:=E.ext Nv.ext;have Bv:=Nv.blk;refine zAB (zAA (qF bb 0 0 rfl underlying26 rfl zAv rfl (qV (zAG rfl zAm (Bb.cell rfl)) (zAB (zAT (zAA (qV (zAq rfl rfl) (qA _ rfl (zAB (zAk (cbk bd) (zAF (qV (zAP (vs:=[(I6 D.start),(.slice pa D.accept.length pc),(.slice qa D.next.length qc)]) rfl zBC zAi rfl (Ba.cells rfl)) (qV (zAP (vs:=[(I6 e.start),(.slice fa e.accept.length fc),(.slice ga e.next.length gc)]) rfl zBC zAi rfl (Bv.cells rfl)) ?_)))))))))))));obtain ⟨n8,bj⟩:∃n8,n8=(wv).heap.size:=⟨_,rfl⟩;have ck:ba<n8∧br<n8∧w0.heap.size≤n8:=⟨by rw[bj];exact Ba.lt,by rw[bj];exact Br.lt,by rw[bj];exact E.size⟩;obtain ⟨o9,bo⟩:∃o9,o9=catO cs.length D e:=⟨_,rfl⟩;refine qE rfl (zAU func154 kQ kQ rfl) ((zRx _ cs.length D e _ _ gD (hG e (List.mem_of_getElem? he)) ah.at' al.at' hc).mono (R':=fun r w'=>opG cs.length (fun b=>w0.heap.size≤b∧b≠ba∧b≠br) o9 r w'∧Ext _ w') (fun r w' h=>⟨by rw[bo];exact h.1.mono fun b hb=>⟨by have:=hb.1;omega,by have:=hb.1;omega,by have:=hb.1;omega⟩,h.2⟩)) ?_;rintro _ w29 ⟨⟨s9,a7,a6,bg,a4,rfl,cr⟩,ai⟩;replace ad:=ai.keep ad;replace Bb:=ai.keep Bb;replace Br:=ai.keep Br;replace Ba:=ai.keep Ba;replace Bv:=ai.keep Bv;replace hO:=zAg hO ai;replace hR:=hR.ext ai;replace ah:=ah.ext ai;replace al:=al.ext ai;replace E:=E.ext ai;refine qV (zAb rfl rfl) (qV (zAb rfl rfl) (zBX rfl rfl qD (zAU func153 kQ kQ rfl) (zIQ _ o9.isSome s9.start a7 a6 s9.accept.length bg s9.next.length a4) (fun w' h=>And.intro rfl ⟨by rw[an];exact zGz he hf ((zWB hk).trans (bo.symm.trans (Option.not_isSome_iff_eq_none.1 (by rw[h.1];decide)))),E.ext h.2⟩) ?_));rintro _ bi ⟨⟨ci,rfl⟩,ag⟩;replace ad:=ag.keep ad;replace Bb:=ag.keep Bb;replace Br:=ag.keep Br;replace Ba:=ag.keep Ba;replace Bv:=ag.keep Bv;replace hO:=zAg hO ag;replace hR:=hR.ext ag;replace ah:=ah.ext ag;replace al:=al.ext ag;replace E:=E.ext ag;obtain ⟨D9,a8⟩:=Option.isSome_iff_exists.1 ci;obtain ⟨cg,cl,cb⟩:=cr D9 a8;rw[cg] at a8;have bk:=cb.ext ag;refine zAa (b:=ba) (o:=0) (c':=#[(I6 s9.start),(.slice a7 s9.accept.length bg),(.slice a6 s9.next.length a4)]) rfl rfl qS zAi rfl Ba qL rfl ?_;intro w8 S8;replace hO:=zAn hO S8.chg (fun y hy h=>by have h':y=ba:=h;have:=(hO.lt y hy).1;omega);replace hR:=hR.chg S8.chg (fun y hy h=>by have h':y=ba:=h;have:=hT y hy;omega);replace bk:=bk.put S8.chg (fun y hy h=>hy.2.1 h);replace ad:=S8.keep qO ad;replace Bb:=S8.keep qO Bb;replace Br:=S8.keep qO Br;replace Bv:=S8.keep qO Bv;replace E:=S8.step E qQ;replace Ba:=S8.blk;refine zAB (zAS (zAS (zAC (zAF (qV (zAw rfl rfl (zBf qO)) (qM _ rfl (zAB (zAC ?_))))))));exact ⟨x.args.length - 1 - (j+1),qO,j+1,s9,a7,a6,bg,a4,zAs.out ⟨rfl,rfl,rfl,rfl,rfl,rfl,trivial⟩,E,ad,Bb,Br,Ba,qO,(by rw[zFd he hf];exact (zWB hk).trans (bo.symm.trans a8)),cl,bk,hR,hO,rfl⟩
    ·have b7:j=ds.length:=qO
     rw[b7,List.take_length] at hf;refine zAl (zAV (zAV (zAf (zAC (zAA (qV (zAP (vs:=[(I6 D.start),(.slice pa D.accept.length pc),(.slice qa D.next.length qc)]) rfl zBC zAi rfl (Ba.cells rfl)) (zAa (b:=br) (o:=0) (c':=#[(I6 D.start),(.slice pa D.accept.length pc),(.slice qa D.next.length qc)]) rfl rfl qS zAi rfl Br qL rfl ?_)))))));intro w9 S9;replace ah:=ah.put S9.chg (fun y hy h=>hy.2.2 h);replace ad:=S9.keep qO ad;replace Bb:=S9.keep qO Bb;replace Ba:=S9.keep qO Ba;replace E:=S9.step E qQ;replace Br:=S9.blk;refine zAB (zAW (zAh (zAX (zCm (zBb results105 (vs:=[(.int .i64 D.start),(.slice pa D.accept.length pc),(.slice qa D.next.length qc)]) (b:=br) rfl zBC zAi rfl (Br.cells rfl) ?_)))));exact ⟨⟨D,an.trans hf,gD,_,_,_,_,rfl,(zBW.chg ah (Chg.refl zAe _) fun _ _ _ f=>f).mono fun b hb=>⟨hb.1.1,hb.2⟩⟩,E⟩
theorem zVX (cs:List (List Sp)) (x:Re) (hc:1≤cs.length∧cs.length≤16) (hN:NodeI x) (hk:x.kind=4) (hla:x.args.length≤1000000) (hof:∀y∈x.args,zJK cs.length cs y):zIs cs.length cs x:=by
 intro w0 bt ca cc vs ad hC ht;have ht0:=ht;obtain ⟨sa,sc,aa,ac,rfl,cp,co,aq⟩:=ht.form;have hcl:cs.length≤16:=hc.2;have h2:=hN.two qO;obtain ⟨y,hy⟩:=zAJ (l:=x.args) (i:=0) qO;obtain ⟨ab,ao,rfl,au⟩:=zGB aq qO;obtain ⟨us,cd,b5⟩:=au.get hy;have bg:=b5;obtain ⟨bw,b4,b7,bx,rfl,_,_,_⟩:=b5.form;have cf:x.args.take 1=[]++[y]:=by rw[List.take_add_one,hy];rfl
 have bp:x.kind=3∨x.kind=4∨x.kind=7:=qO
 refine zDj func105 rfl ntmps105 (leT rfl) ?_;have E:Chg zAe w0 w0:=Chg.refl _ _;refine zAA (zBY (v:=(.agg (R6 x sa sc (some ⟨ab,ao,none⟩) ac))) (c:=(R6 x sa sc (some ⟨ab,ao,none⟩) ac)) qD rfl rfl ?_);intro bb wb Nb;have Fb:=Nb.ge E;have Ob_bt:=Nb.lt ad;replace ad:=Nb.keep ad;replace E:=E.ext Nb.ext;have Bb:=Nb.blk;refine zBB (c:=#[(I6 0),(.slice none 0 0),(.slice none 0 0)]) qD zBn rfl ?_;intro br wr Nr;have Fr:=Nr.ge E;have Or_bt:=Nr.lt ad;have Or_bb:=Nr.lt Bb;replace ad:=Nr.keep ad;replace Bb:=Nr.keep Bb;replace E:=E.ext Nr.ext;have Br:=Nr.blk;refine zAB (zAA (qM _ rfl (qV (zBd rfl) (qF bt 0 0 rfl underlying108 rfl zHg rfl (qV (zAG rfl zES (ad.cell rfl)) (qV (zAK underlying35 rfl) (qA _ rfl (zAB (zAH (zAA (qF bb 0 0 rfl underlying26 rfl zAv rfl (qV (zAG rfl zAm (Bb.cell rfl)) (zAB (zAT (zAA (qV (zAq rfl rfl) (qA _ rfl (zAB ?_))))))))))))))))));have cl:(decide ((x.kind:Int)=1))=false:=decide_eq_false qO;refine zAN (cbk cl) (zAA (qV (zAq rfl rfl) (qA _ rfl (zAB ?_))));have ct:(decide ((x.kind:Int)=2))=false:=decide_eq_false qO;refine zAN (cbk ct) (zAH (zAA (qV (zAq rfl rfl) (qA _ rfl (zAB ?_)))));have bs:(decide ((x.kind:Int)=3))=false:=decide_eq_false qO;refine zAN (cbk bs) (zAA (qV (zAq rfl rfl) (qA _ rfl (zAB ?_))));have b1:(decide ((x.kind:Int)=4))=true:=decide_eq_true hk;refine zAk (cbk b1) (zAO (zAC (zAk (cbk b1) (zAA (qM _ rfl (qF bb 0 2 rfl underlying26 rfl zDn rfl (qV (zAG rfl zCr (Bb.cell rfl)) (qV (zAD (b:=ab) (o:=ao) (len:=x.args.length) (cap:=ac) (i:=0) (o':=ao+0*6) rfl rfl rfl underlying24 zAp qO qO) (qV (zAP (vs:=[(I6 y.kind),(.slice bw y.set.length b4),(.slice b7 y.args.length bx),(I6 y.mn),(I6 y.mx),(.bool y.neg)]) rfl zBZ zAp rfl (cd.ext E)) ?_)))))))));obtain ⟨n9,bm⟩:∃n9,n9=(wr).heap.size:=⟨_,rfl⟩;have cr:br<n9∧w0.heap.size≤n9:=⟨by rw[bm];exact Br.lt,by rw[bm];exact E.size⟩;refine zBX rfl rfl qD (zAU (vs:=[(P6 bt 0),(.agg (R6 y bw b4 b7 bx))]) func70 kQ kQ rfl) (((hof y (List.mem_of_getElem? hy) _ bt ca cc _ ad (hC.ext E) (zBm.ext E y bg)).mono (R':=fun r w'=>(∃d,trO cs.length cs y=some d∧GoodD cs.length d∧d.next.length≤200∧zJz (fun b=>n9≤b) d r w')∧Ext _ w') (fun r w' h=>⟨by obtain ⟨d,h1,h2,h3,h4⟩:=h.1;exact ⟨d,h1,h2,h3,h4.mono fun b hb=>by rw[bm];exact hb.1⟩,h.2⟩) (fun _ h=>h))) (fun w' h=>And.intro rfl ⟨zHT bp (zEn hy h.1),E.ext h.2⟩) ?_;rintro _ w9 ⟨⟨d,hd,gd,hd2,ea,ec,na,nc,rfl,hD⟩,X9⟩;replace ad:=X9.keep ad;replace Bb:=X9.keep Bb;replace Br:=X9.keep Br;replace E:=E.ext X9;have cx:∃m9,m9=w9.heap.size:=⟨_,rfl⟩;obtain ⟨m9,cg⟩:=cx;replace hD:=zBW.chg hD (Chg.refl zAe _) (fun _ _ _ f=>f);rw[←cg] at hD;refine zAd (v:=(.agg #[(I6 d.start),(.slice ea d.accept.length ec),(.slice na d.next.length nc)])) (c:=#[(I6 d.start),(.slice ea d.accept.length ec),(.slice na d.next.length nc)]) (n:=3) qD zBn rfl zAi rfl rfl rfl qS ?_;intro ba wa Na;have Fa:=Na.ge E;have Oa_bt:=Na.lt ad;have Oa_bb:=Na.lt Bb;have Oa_br:=Na.lt Br;replace ad:=Na.keep ad;replace Bb:=Na.keep Bb;replace Br:=Na.keep Br;replace hD:=hD.ext Na.ext;replace E:=E.ext Na.ext;have Ba:=Na.blk;refine zAB (zAA (qA (.slice none 0 0) rfl (zAB (zAH (zAA (qF bb 0 2 rfl underlying26 rfl zDn rfl (qV (zAG (v:=(.slice (some ⟨ab,ao,none⟩) x.args.length ac)) rfl zCr (Bb.cell rfl)) ?_)))))));obtain ⟨sl,a2⟩:∃a':Option Addr,(if ac=1 then (some ⟨ab,ao,none⟩) else Option.map (fun q:Addr=>q.add (1*6)) (some ⟨ab,ao,none⟩))=a':=⟨_,rfl⟩;refine qV (zFL (a:=(some ⟨ab,ao,none⟩)) (len:=x.args.length) (cap:=ac) (lo:=1) (l:=1) (n':=(x.args.length - 1)) (c':=(ac - 1)) underlying24 zAp rfl rfl qO qO a2 qO qO) ?_;rw[if_neg qO] at a2;simp only[Option.map_some,Addr.add_lit] at a2;subst a2;obtain ⟨n1,an⟩:∃n1,n1=(wa).heap.size:=⟨_,rfl⟩;have hob:br<n1∧ba<n1∧w0.heap.size≤n1∧br<n9∧m9≤ba∧w0.heap.size≤ba∧w0.heap.size≤br∧br<ba∧bb<n1∧bt<n1:=⟨by rw[an];exact Br.lt,by rw[an];exact Ba.lt,by rw[an];exact E.size,cr.1,by have:=Na.eq;omega,qO,qO,by have:=Na.eq;have:=X9.size;omega,by rw[an];exact Bb.lt,by rw[an];exact ad.lt⟩;have cq:zBW (fun b=>w0.heap.size≤b∧b≠ba∧b≠br∧b<n1) (wa) d [.int .i64 d.start,.slice ea d.accept.length ec,.slice na d.next.length nc]:=hD.mono fun b hb=>⟨by have:=hb.1;omega,by have:=hb.2;omega,by have:=hb.1;omega,by have:=hb.2;omega⟩;refine qV (zAK underlying24 rfl) (qM _ rfl (zAB (zAT (zAo (fun nn_ σ W5=>∃(i:Nat) (la:Option Addr) (lc:Nat) (ae:List (List Value)) (ds:List Dfa) (T:Nat→Prop),(∃jj_,σ=zCT jj_ [(0,(P6 bt 0)),(3,(P6 bb 0)),(4,(P6 br 0)),(9,(P6 ba 0)),(84,(.slice (some ⟨ab,ao+1*6,none⟩) (x.args.length - 1) (ac - 1))),(85,(I6 ((x.args.length - 1:Nat):Int))),(86,(I6 (i:Int))),(10,(.slice la i lc))])∧Chg zAe w0 W5∧Blk W5 bt #[(.slice ca cs.length cc)] 108∧Blk W5 bb (R6 x sa sc (some ⟨ab,ao,none⟩) ac) 26∧Blk W5 br #[(I6 0),(.slice none 0 0),(.slice none 0 0)] 34∧Blk W5 ba #[(I6 d.start),(.slice ea d.accept.length ec),(.slice na d.next.length nc)] 34∧(i≤x.args.length - 1)∧(W5.ownsRow n1 34 3 (.slice la i lc) i ae.flatten)∧(zDe T W5 ds ae)∧(ds.length=i)∧(∀e∈ds,GoodD cs.length e)∧(trL cs.length cs (x.args.take (i+1))=some (d::ds))∧(zBW (fun b=>w0.heap.size≤b∧b≠ba∧b≠br∧b<n1) W5 d [.int .i64 d.start,.slice ea d.accept.length ec,.slice na d.next.length nc])∧(n1≤W5.heap.size)∧(∀y,T y→n1≤y∧y<W5.heap.size)∧(∀b,(Value.slice la i lc).ownBlock=some b→¬T b)∧nn_=x.args.length - 1 - i) (n:=x.args.length - 1 - 0) ?_ ?_))))
 ·exact ⟨0,none,0,[],[],(fun _=>False),zAs.out ⟨rfl,rfl,rfl,rfl,rfl,rfl,rfl,rfl,trivial⟩,E,ad,Bb,Br,Ba,Nat.zero_le _,World.ownsRow_nil _ _ _ _,zDe.nil,rfl,(fun e h=>by cases h),(by rw[cf];exact zEm (ts:=[]) (ds:=[]) hd (by simp[trL])),cq,(by rw[an];exact Nat.le_refl _),(fun y h=>h.elim),(fun b _ h=>h),rfl⟩
 ·clear E ad Bb Br Ba;rintro _ _ W5 ⟨i,la,lc,ae,ds,T,⟨j5,rfl⟩,E,ad,Bb,Br,Ba,hi,hO,hR,bo,hG,a9,hD,ak,hT,bk,rfl⟩;refine zAA (qV (zBA rfl rfl) (zAB (zAH (qC rfl (fun bd=>?_) (fun bd=>?_)))))
  ·obtain ⟨z,hz⟩:=zAJ (l:=x.args) (i:=i+1) qO;obtain ⟨uz,cv,b3⟩:=au.get hz;have bq:=b3;obtain ⟨a1,a0,ay,az,rfl,_,_,_⟩:=b3.form;refine zAO (zAC (zAH (zAT (zAA (qV (zAD (b:=ab) (o:=ao+1*6) (len:=x.args.length - 1) (cap:=ac - 1) (i:=i) (o':=ao+1*6+i*6) rfl rfl rfl underlying24 zAp qO qO) (qV (zAP (vs:=[(I6 z.kind),(.slice a1 z.set.length a0),(.slice ay z.args.length az),(I6 z.mn),(I6 z.mx),(.bool z.neg)]) rfl zBZ zAp rfl ((by have h9:=cv.ext E;rwa [show ao+(i+1)*6=ao+1*6+i*6 by omega] at h9))) (zAd (v:=(.agg (R6 z a1 a0 ay az))) (c:=(R6 z a1 a0 ay az)) (n:=6) qD zDg rfl zAp rfl rfl rfl qS ?_)))))));intro bu wu Nu;have Fu:=Nu.ge E;have Ou_bt:=Nu.lt ad;have Ou_bb:=Nu.lt Bb;have Ou_br:=Nu.lt Br;have Ou_ba:=Nu.lt Ba;replace ad:=Nu.keep ad;replace Bb:=Nu.keep Bb;replace Br:=Nu.keep Br;replace Ba:=Nu.keep Ba;replace hO:=zAg hO Nu.ext;replace hR:=hR.ext Nu.ext;replace ak:=Nat.le_trans ak Nu.ext.size;replace hD:=hD.ext Nu.ext;replace hT:=zEr hT Nu.ext;replace E:=E.ext Nu.ext;have Bu:=Nu.blk;refine zAB (zAF (qM _ rfl (qM _ rfl (qV (zAP (vs:=[(I6 z.kind),(.slice a1 z.set.length a0),(.slice ay z.args.length az),(I6 z.mn),(I6 z.mx),(.bool z.neg)]) rfl zBZ zAp rfl (Bu.cells rfl)) ?_))));obtain ⟨n2,a4⟩:∃n2,n2=(wu).heap.size:=⟨_,rfl⟩;have cj:n1≤n2:=by rw[a4];exact ak
   have b0:∀b,(Value.slice la i lc).ownBlock=some b→n1≤b∧b<n2:=fun b hb=>⟨(hO.lt b hb).1,by rw[a4];exact (hO.lt b hb).2⟩;refine zBX rfl rfl qD (zAU func70 kQ kQ rfl) (((hof z (List.mem_of_getElem? hz) _ bt ca cc _ ad (hC.ext E) (zBm.ext E z bq)).mono (R':=fun r w'=>(∃d,trO cs.length cs z=some d∧GoodD cs.length d∧d.next.length≤200∧zJz (fun b=>n2≤b) d r w')∧Ext _ w') (fun r w' h=>⟨by obtain ⟨d,h1,h2,h3,h4⟩:=h.1;exact ⟨d,h1,h2,h3,h4.mono fun b hb=>by rw[a4];exact hb.1⟩,h.2⟩) (fun _ h=>h))) (fun w' h=>And.intro rfl ⟨zHT bp (zEn hz h.1),E.ext h.2⟩) ?_;rintro _ bc ⟨⟨e,he,ge,he2,fa,fc,ga,gc,rfl,ar⟩,af⟩;replace ad:=af.keep ad;replace Bb:=af.keep Bb;replace Br:=af.keep Br;replace Ba:=af.keep Ba;replace Bu:=af.keep Bu;replace hO:=zAg hO af;replace hR:=hR.ext af;replace ak:=Nat.le_trans ak af.size;replace hD:=hD.ext af;replace hT:=zEr hT af;replace E:=E.ext af;replace ar:=zBW.chg ar (Chg.refl zAe _) (fun _ _ _ f=>f);refine zAc (ps:=[(0,(.agg #[(I6 e.start),(.slice fa e.accept.length fc),(.slice ga e.next.length gc)]))]) (c:=#[(I6 e.start),(.slice fa e.accept.length fc),(.slice ga e.next.length gc)]) qD rfl underlying177 zAi zBn qD qD qK ?_;intro bz wz Nz;have Fz:=Nz.ge E;have Oz_bt:=Nz.lt ad;have Oz_bb:=Nz.lt Bb;have Oz_br:=Nz.lt Br;have Oz_ba:=Nz.lt Ba;have Oz_bu:=Nz.lt Bu;replace ad:=Nz.keep ad;replace Bb:=Nz.keep Bb;replace Br:=Nz.keep Br;replace Ba:=Nz.keep Ba;replace Bu:=Nz.keep Bu;replace hO:=zAg hO Nz.ext;replace hR:=hR.ext Nz.ext;replace ak:=Nat.le_trans ak Nz.ext.size;replace hD:=hD.ext Nz.ext;replace hT:=zEr hT Nz.ext;replace ar:=ar.ext Nz.ext;replace E:=E.ext Nz.ext;have Bz:=Nz.blk;have hQ9:True:=trivial;refine zBt (base:=n1) (n:=i) (m:=1) (xs:=ae.flatten) (news:=[(I6 e.start),(.slice fa e.accept.length fc),(.slice ga e.next.length gc)]) (size:=3) (bytes:=56) (v:=(.slice la i lc)) qD underlying177 zAi zWr zBn rfl qD rfl hO rfl (rfl) (Bz.cells rfl) qS (by unfold maxLen;omega) qO (ak) ?_;intro v9 bh b2 aj cb;replace ad:=aj.keep (fun h=>by have:=(hO.lt _ h).1;omega) ad;replace Bb:=aj.keep (fun h=>by have:=(hO.lt _ h).1;omega) Bb;replace Br:=aj.keep (fun h=>by have:=(hO.lt _ h).1;omega) Br;replace Ba:=aj.keep (fun h=>by have:=(hO.lt _ h).1;omega) Ba;replace E:=E.step aj (fun x hx h=>absurd (hO.lt x h).1 qO);obtain ⟨ch,cw,rfl⟩:=zBR b2;have hz1:=Nz.ext.size;have hz2:=aj.size;have hz3:=af.size;have ax:∀y,(T y∨(n2≤y∧y<bc.heap.size))→n1≤y∧y<(bh).heap.size∧(Value.slice la i lc).ownBlock≠some y:=by
    intro y hy;rcases hy with hy|⟨hy,hy2⟩
    ·exact ⟨(hT y hy).1,by have:=(hT y hy).2;omega,fun hb=>bk y hb hy⟩
    ·exact ⟨qO,qO,fun hb=>by have:=b0 y hb;omega⟩
   have b8:zDe (fun y=>T y∨(n2≤y∧y<bc.heap.size)) (bh) (ds++[e]) (ae++[dfV e fa fc ga gc]):=((hR.chg aj fun y hy hm=>bk y hm hy).mono fun y hy=>.inl hy).snoc ((ar.put aj fun y hy hm=>(ax y (.inr hy)).2.2 hm).mono fun y hy=>.inr hy);refine qA _ rfl (zAB (zAS (zAC (zAF (qV (zAw rfl rfl (zBf qO)) (qM _ rfl (zAB (zAC ?_))))))));exact ⟨x.args.length - 1 - (i+1),qO,i+1,ch,cw,ae++[dfV e fa fc ga gc],ds++[e],(fun y=>T y∨(n2≤y∧y<bc.heap.size)),zAs.out ⟨rfl,rfl,rfl,rfl,rfl,rfl,rfl,rfl,trivial⟩,E,ad,Bb,Br,Ba,qO,(by simpa[dfV] using b2),b8,(by simp[bo]),(fun d9 h9=>by rcases List.mem_append.1 h9 with h8|h8;exact hG d9 h8;rw[List.mem_singleton.1 h8];exact ge),(by rw[List.take_add_one,hz,Option.toList_some];exact zEm he a9),hD.put aj (fun y hy hm=>by have:=(b0 y hm).1;have:=hy.2.2.2;omega),Nat.le_trans ak aj.size,(fun y hy=>⟨(ax y hy).1,(ax y hy).2.1⟩),(fun b hb hy=>by rcases cb b hb with h|h;exact (ax b hy).2.2 h;rcases hy with hy|hy;have:=(hT b hy).2;omega;have:=hy.2;omega),rfl⟩
  ·have b6:i=x.args.length - 1:=qO
   rw[b6] at hO bo a9 bk;rw[b6];have a3:trL cs.length cs x.args=some (d::ds):=by rw[←a9,List.take_of_length_le qO]
   have ap:=zPy (cs:=cs) (c:=cs.length) bp a3;refine zAl (zAV (zAV (zAf (zAC (zAH (zAA (qM _ rfl (qV (zAK underlying177 rfl) (qM _ rfl (zAB (zAT (zAo (fun nn_ σ W7=>∃(j:Nat) (D:Dfa) (pa qa:Option Addr) (pc qc:Nat),(∃jj_,σ=zCT jj_ [(3,(P6 bb 0)),(4,(P6 br 0)),(9,(P6 ba 0)),(97,(.slice la (x.args.length - 1) lc)),(98,(I6 ((x.args.length - 1:Nat):Int))),(99,(I6 (j:Int)))])∧Chg zAe w0 W7∧Blk W7 bt #[(.slice ca cs.length cc)] 108∧Blk W7 bb (R6 x sa sc (some ⟨ab,ao,none⟩) ac) 26∧Blk W7 br #[(I6 0),(.slice none 0 0),(.slice none 0 0)] 34∧Blk W7 ba (#[.int .i64 D.start,.slice pa D.accept.length pc,.slice qa D.next.length qc]) 34∧(j≤x.args.length - 1)∧(foldK cs.length x.kind d (ds.take j)=some D)∧(GoodD cs.length D)∧(zBW (fun b=>w0.heap.size≤b∧b≠ba∧b≠br) W7 D [.int .i64 D.start,.slice pa D.accept.length pc,.slice qa D.next.length qc])∧(zDe T W7 ds ae)∧(W7.ownsRow n1 34 3 (.slice la (x.args.length - 1) lc) (x.args.length - 1) ae.flatten)∧nn_=x.args.length - 1 - j) (n:=x.args.length - 1 - 0) ?_ ?_))))))))))))
   ·exact ⟨0,d,ea,na,ec,nc,zAs.out ⟨rfl,rfl,rfl,rfl,rfl,rfl,trivial⟩,E,ad,Bb,Br,Ba,Nat.zero_le _,rfl,gd,(hD.mono fun b hb=>⟨hb.1,hb.2.1,hb.2.2.1⟩),hR,hO,rfl⟩
   ·clear E ad Bb Br Ba;rintro _ _ W7 ⟨j,D,pa,qa,pc,qc,⟨j7,rfl⟩,E,ad,Bb,Br,Ba,hj,hf,gD,ah,hR,hO,rfl⟩;refine zAA (qV (zBA rfl rfl) (zAB (zAH (qC rfl (fun be=>?_) (fun be=>?_)))))
    ·obtain ⟨e,he⟩:=zAJ (l:=ds) (i:=j) qO;obtain ⟨fa,fc,ga,gc,aw,al⟩:=hR.2.2 j e he;unfold dfV at aw al;obtain ⟨ob,oo,rfl,av⟩:=zCQ.at (zCz hO hR.2.1 (by rw[hR.1,bo]) qD) qO;refine zAO (zAC (zAH (zAT (zAA (qV (zAD (b:=ob) (o:=oo) (len:=x.args.length - 1) (cap:=lc) (i:=j) (o':=oo+j*3) rfl rfl rfl underlying177 zAi qO qO) (qV (zAP rfl zBC zAi rfl (av j _ aw)) (zAd (v:=(.agg #[(I6 e.start),(.slice fa e.accept.length fc),(.slice ga e.next.length gc)])) (c:=#[(I6 e.start),(.slice fa e.accept.length fc),(.slice ga e.next.length gc)]) (n:=3) qD zBn rfl zAi rfl rfl rfl qS ?_)))))));intro bv wv Nv;have Fv:=Nv.ge E;have Ov_bt:=Nv.lt ad;have Ov_bb:=Nv.lt Bb;have Ov_br:=Nv.lt Br;have Ov_ba:=Nv.lt Ba;replace ad:=Nv.keep ad;replace Bb:=Nv.keep Bb;replace Br:=Nv.keep Br;replace Ba:=Nv.keep Ba;replace hO:=zAg hO Nv.ext;replace hR:=hR.ext Nv.ext;replace ah:=ah.ext Nv.ext;replace al:=al.ext Nv.ext;replace E:=E.ext Nv.ext;have Bv:=Nv.blk;refine zAB (zAA (qF bb 0 0 rfl underlying26 rfl zAv rfl (qV (zAG rfl zAm (Bb.cell rfl)) (zAB (zAT (zAA (qV (zAq rfl rfl) (qA _ rfl (zAB (zAN (cbk bs) (zAF (qV (zAP (vs:=[(I6 D.start),(.slice pa D.accept.length pc),(.slice qa D.next.length qc)]) rfl zBC zAi rfl (Ba.cells rfl)) (qV (zAP (vs:=[(I6 e.start),(.slice fa e.accept.length fc),(.slice ga e.next.length gc)]) rfl zBC zAi rfl (Bv.cells rfl)) (qF bb 0 0 rfl underlying26 rfl zAv rfl (qV (zAG rfl zAm (Bb.cell rfl)) (qV (zAq rfl rfl) ?_))))))))))))))));obtain ⟨n8,bi⟩:∃n8,n8=(wv).heap.size:=⟨_,rfl⟩;have cm:ba<n8∧br<n8∧w0.heap.size≤n8:=⟨by rw[bi];exact Ba.lt,by rw[bi];exact Br.lt,by rw[bi];exact E.size⟩;obtain ⟨o9,bn⟩:∃o9,o9=prsO cs.length (decide (x.kind=7)) D e:=⟨_,rfl⟩;refine qE rfl (zAU func86 kQ kQ rfl) ((zUo _ cs.length D e _ _ (decide (x.kind=7)) gD (hG e (List.mem_of_getElem? he)) ah.at' al.at' hc).mono (R':=fun r w'=>opG cs.length (fun b=>w0.heap.size≤b∧b≠ba∧b≠br) o9 r w'∧Ext _ w') (fun r w' h=>⟨by rw[bn];exact h.1.mono fun b hb=>⟨by have:=hb.1;omega,by have:=hb.1;omega,by have:=hb.1;omega⟩,h.2⟩)) ?_;rintro _ w29 ⟨⟨s9,a7,a6,bf,a5,rfl,cu⟩,ai⟩;replace ad:=ai.keep ad;replace Bb:=ai.keep Bb;replace Br:=ai.keep Br;replace Ba:=ai.keep Ba;replace Bv:=ai.keep Bv;replace hO:=zAg hO ai;replace hR:=hR.ext ai;replace ah:=ah.ext ai;replace al:=al.ext ai;replace E:=E.ext ai;refine qV (zAb rfl rfl) (qV (zAb rfl rfl) (zBX rfl rfl qD (zAU func153 kQ kQ rfl) (zIQ _ o9.isSome s9.start a7 a6 s9.accept.length bf s9.next.length a5) (fun w' h=>And.intro rfl ⟨by rw[ap];exact zGz he hf ((zPB qO).trans (bn.symm.trans (Option.not_isSome_iff_eq_none.1 (by rw[h.1];decide)))),E.ext h.2⟩) ?_));rintro _ bh ⟨⟨ck,rfl⟩,ag⟩;replace ad:=ag.keep ad;replace Bb:=ag.keep Bb;replace Br:=ag.keep Br;replace Ba:=ag.keep Ba;replace Bv:=ag.keep Bv;replace hO:=zAg hO ag;replace hR:=hR.ext ag;replace ah:=ah.ext ag;replace al:=al.ext ag;replace E:=E.ext ag;obtain ⟨D9,a8⟩:=Option.isSome_iff_exists.1 ck;obtain ⟨ci,cn,ce⟩:=cu D9 a8;rw[ci] at a8;have bj:=ce.ext ag;refine zAa (b:=ba) (o:=0) (c':=#[(I6 s9.start),(.slice a7 s9.accept.length bf),(.slice a6 s9.next.length a5)]) rfl rfl qS zAi rfl Ba qL rfl ?_;intro w9 S9;replace hO:=zAn hO S9.chg (fun y hy h=>by have h':y=ba:=h;have:=(hO.lt y hy).1;omega);replace hR:=hR.chg S9.chg (fun y hy h=>by have h':y=ba:=h;have:=hT y hy;omega);replace bj:=bj.put S9.chg (fun y hy h=>hy.2.1 h);replace ad:=S9.keep qO ad;replace Bb:=S9.keep qO Bb;replace Br:=S9.keep qO Br;replace Bv:=S9.keep qO Bv;replace E:=S9.step E qQ;replace Ba:=S9.blk;refine zAB (zAS (zAS (zAC (zAF (qV (zAw rfl rfl (zBf qO)) (qM _ rfl (zAB (zAC ?_))))))));exact ⟨x.args.length - 1 - (j+1),qO,j+1,s9,a7,a6,bf,a5,zAs.out ⟨rfl,rfl,rfl,rfl,rfl,rfl,trivial⟩,E,ad,Bb,Br,Ba,qO,(by rw[zFd he hf];exact (zPB qO).trans (bn.symm.trans a8)),cn,bj,hR,hO,rfl⟩
    ·have b9:j=ds.length:=qO
     rw[b9,List.take_length] at hf;refine zAl (zAV (zAV (zAf (zAC (zAA (qV (zAP (vs:=[(I6 D.start),(.slice pa D.accept.length pc),(.slice qa D.next.length qc)]) rfl zBC zAi rfl (Ba.cells rfl)) (zAa (b:=br) (o:=0) (c':=#[(I6 D.start),(.slice pa D.accept.length pc),(.slice qa D.next.length qc)]) rfl rfl qS zAi rfl Br qL rfl ?_)))))));intro w10 am;replace ah:=ah.put am.chg (fun y hy h=>hy.2.2 h);replace ad:=am.keep qO ad;replace Bb:=am.keep qO Bb;replace Ba:=am.keep qO Ba;replace E:=am.step E qQ;replace Br:=am.blk;refine zAB (zAW (zAh (zAX (zCm (zBb results105 (vs:=[(.int .i64 D.start),(.slice pa D.accept.length pc),(.slice qa D.next.length qc)]) (b:=br) rfl zBC zAi rfl (Br.cells rfl) ?_)))));exact ⟨⟨D,ap.trans hf,gD,_,_,_,_,rfl,(zBW.chg ah (Chg.refl zAe _) fun _ _ _ f=>f).mono fun b hb=>⟨hb.1.1,hb.2⟩⟩,E⟩
theorem zVU (cs:List (List Sp)) (x:Re) (hc:1≤cs.length∧cs.length≤16) (hN:NodeI x) (hk:x.kind=7) (hla:x.args.length≤1000000) (hof:∀y∈x.args,zJK cs.length cs y):zIs cs.length cs x:=by
 intro w0 bt ca cc vs ad hC ht;have ht0:=ht;obtain ⟨sa,sc,aa,ac,rfl,cp,co,ar⟩:=ht.form;have hcl:cs.length≤16:=hc.2;have h2:=hN.two qO;obtain ⟨y,hy⟩:=zAJ (l:=x.args) (i:=0) qO;obtain ⟨ab,ao,rfl,av⟩:=zGB ar qO;obtain ⟨us,cd,b5⟩:=av.get hy;have bi:=b5;obtain ⟨bx,b4,b7,b0,rfl,_,_,_⟩:=b5.form;have cf:x.args.take 1=[]++[y]:=by rw[List.take_add_one,hy];rfl
 have a7:x.kind=3∨x.kind=4∨x.kind=7:=qO
 refine zDj func105 rfl ntmps105 (leT rfl) ?_;have E:Chg zAe w0 w0:=Chg.refl _ _;refine zAA (zBY (v:=(.agg (R6 x sa sc (some ⟨ab,ao,none⟩) ac))) (c:=(R6 x sa sc (some ⟨ab,ao,none⟩) ac)) qD rfl rfl ?_);intro bb wb Nb;have Fb:=Nb.ge E;have Ob_bt:=Nb.lt ad;replace ad:=Nb.keep ad;replace E:=E.ext Nb.ext;have Bb:=Nb.blk;refine zBB (c:=#[(I6 0),(.slice none 0 0),(.slice none 0 0)]) qD zBn rfl ?_;intro br wr Nr;have Fr:=Nr.ge E;have Or_bt:=Nr.lt ad;have Or_bb:=Nr.lt Bb;replace ad:=Nr.keep ad;replace Bb:=Nr.keep Bb;replace E:=E.ext Nr.ext;have Br:=Nr.blk;refine zAB (zAA (qM _ rfl (qV (zBd rfl) (qF bt 0 0 rfl underlying108 rfl zHg rfl (qV (zAG rfl zES (ad.cell rfl)) (qV (zAK underlying35 rfl) (qA _ rfl (zAB (zAH (zAA (qF bb 0 0 rfl underlying26 rfl zAv rfl (qV (zAG rfl zAm (Bb.cell rfl)) (zAB (zAT (zAA (qV (zAq rfl rfl) (qA _ rfl (zAB ?_))))))))))))))))));have cl:(decide ((x.kind:Int)=1))=false:=decide_eq_false qO;refine zAN (cbk cl) (zAA (qV (zAq rfl rfl) (qA _ rfl (zAB ?_))));have cu:(decide ((x.kind:Int)=2))=false:=decide_eq_false qO;refine zAN (cbk cu) (zAH (zAA (qV (zAq rfl rfl) (qA _ rfl (zAB ?_)))));have bw:(decide ((x.kind:Int)=3))=false:=decide_eq_false qO;refine zAN (cbk bw) (zAA (qV (zAq rfl rfl) (qA _ rfl (zAB ?_))));have cr:(decide ((x.kind:Int)=4))=false:=decide_eq_false qO;refine zAN (cbk cr) (zAF (qV (zAq rfl rfl) (qA _ rfl (zAB (zAC ?_)))));have cw:(decide ((x.kind:Int)=7))=true:=decide_eq_true hk;refine zAk (cbk cw) (zAA (qM _ rfl (qF bb 0 2 rfl underlying26 rfl zDn rfl (qV (zAG rfl zCr (Bb.cell rfl)) (qV (zAD (b:=ab) (o:=ao) (len:=x.args.length) (cap:=ac) (i:=0) (o':=ao+0*6) rfl rfl rfl underlying24 zAp qO qO) (qV (zAP (vs:=[(I6 y.kind),(.slice bx y.set.length b4),(.slice b7 y.args.length b0),(I6 y.mn),(I6 y.mx),(.bool y.neg)]) rfl zBZ zAp rfl (cd.ext E)) ?_))))));obtain ⟨n9,bo⟩:∃n9,n9=(wr).heap.size:=⟨_,rfl⟩;have ct:br<n9∧w0.heap.size≤n9:=⟨by rw[bo];exact Br.lt,by rw[bo];exact E.size⟩;refine zBX rfl rfl qD (zAU (vs:=[(P6 bt 0),(.agg (R6 y bx b4 b7 b0))]) func70 kQ kQ rfl) (((hof y (List.mem_of_getElem? hy) _ bt ca cc _ ad (hC.ext E) (zBm.ext E y bi)).mono (R':=fun r w'=>(∃d,trO cs.length cs y=some d∧GoodD cs.length d∧d.next.length≤200∧zJz (fun b=>n9≤b) d r w')∧Ext _ w') (fun r w' h=>⟨by obtain ⟨d,h1,h2,h3,h4⟩:=h.1;exact ⟨d,h1,h2,h3,h4.mono fun b hb=>by rw[bo];exact hb.1⟩,h.2⟩) (fun _ h=>h))) (fun w' h=>And.intro rfl ⟨zHT a7 (zEn hy h.1),E.ext h.2⟩) ?_;rintro _ w9 ⟨⟨d,hd,gd,hd2,ea,ec,na,nc,rfl,hD⟩,X9⟩;replace ad:=X9.keep ad;replace Bb:=X9.keep Bb;replace Br:=X9.keep Br;replace E:=E.ext X9;have cz:∃m9,m9=w9.heap.size:=⟨_,rfl⟩;obtain ⟨m9,cg⟩:=cz;replace hD:=zBW.chg hD (Chg.refl zAe _) (fun _ _ _ f=>f);rw[←cg] at hD;refine zAd (v:=(.agg #[(I6 d.start),(.slice ea d.accept.length ec),(.slice na d.next.length nc)])) (c:=#[(I6 d.start),(.slice ea d.accept.length ec),(.slice na d.next.length nc)]) (n:=3) qD zBn rfl zAi rfl rfl rfl qS ?_;intro ba wa Na;have Fa:=Na.ge E;have Oa_bt:=Na.lt ad;have Oa_bb:=Na.lt Bb;have Oa_br:=Na.lt Br;replace ad:=Na.keep ad;replace Bb:=Na.keep Bb;replace Br:=Na.keep Br;replace hD:=hD.ext Na.ext;replace E:=E.ext Na.ext;have Ba:=Na.blk;refine zAB (zAA (qA (.slice none 0 0) rfl (zAB (zAH (zAA (qF bb 0 2 rfl underlying26 rfl zDn rfl (qV (zAG (v:=(.slice (some ⟨ab,ao,none⟩) x.args.length ac)) rfl zCr (Bb.cell rfl)) ?_)))))));obtain ⟨sl,a3⟩:∃a':Option Addr,(if ac=1 then (some ⟨ab,ao,none⟩) else Option.map (fun q:Addr=>q.add (1*6)) (some ⟨ab,ao,none⟩))=a':=⟨_,rfl⟩;refine qV (zFL (a:=(some ⟨ab,ao,none⟩)) (len:=x.args.length) (cap:=ac) (lo:=1) (l:=1) (n':=(x.args.length - 1)) (c':=(ac - 1)) underlying24 zAp rfl rfl qO qO a3 qO qO) ?_;rw[if_neg qO] at a3;simp only[Option.map_some,Addr.add_lit] at a3;subst a3;obtain ⟨n1,ap⟩:∃n1,n1=(wa).heap.size:=⟨_,rfl⟩;have hob:br<n1∧ba<n1∧w0.heap.size≤n1∧br<n9∧m9≤ba∧w0.heap.size≤ba∧w0.heap.size≤br∧br<ba∧bb<n1∧bt<n1:=⟨by rw[ap];exact Br.lt,by rw[ap];exact Ba.lt,by rw[ap];exact E.size,ct.1,by have:=Na.eq;omega,qO,qO,by have:=Na.eq;have:=X9.size;omega,by rw[ap];exact Bb.lt,by rw[ap];exact ad.lt⟩;have cq:zBW (fun b=>w0.heap.size≤b∧b≠ba∧b≠br∧b<n1) (wa) d [.int .i64 d.start,.slice ea d.accept.length ec,.slice na d.next.length nc]:=hD.mono fun b hb=>⟨by have:=hb.1;omega,by have:=hb.2;omega,by have:=hb.1;omega,by have:=hb.2;omega⟩;refine qV (zAK underlying24 rfl) (qM _ rfl (zAB (zAT (zAo (fun nn_ σ W6=>∃(i:Nat) (la:Option Addr) (lc:Nat) (ae:List (List Value)) (ds:List Dfa) (T:Nat→Prop),(∃jj_,σ=zCT jj_ [(0,(P6 bt 0)),(3,(P6 bb 0)),(4,(P6 br 0)),(9,(P6 ba 0)),(84,(.slice (some ⟨ab,ao+1*6,none⟩) (x.args.length - 1) (ac - 1))),(85,(I6 ((x.args.length - 1:Nat):Int))),(86,(I6 (i:Int))),(10,(.slice la i lc))])∧Chg zAe w0 W6∧Blk W6 bt #[(.slice ca cs.length cc)] 108∧Blk W6 bb (R6 x sa sc (some ⟨ab,ao,none⟩) ac) 26∧Blk W6 br #[(I6 0),(.slice none 0 0),(.slice none 0 0)] 34∧Blk W6 ba #[(I6 d.start),(.slice ea d.accept.length ec),(.slice na d.next.length nc)] 34∧(i≤x.args.length - 1)∧(W6.ownsRow n1 34 3 (.slice la i lc) i ae.flatten)∧(zDe T W6 ds ae)∧(ds.length=i)∧(∀e∈ds,GoodD cs.length e)∧(trL cs.length cs (x.args.take (i+1))=some (d::ds))∧(zBW (fun b=>w0.heap.size≤b∧b≠ba∧b≠br∧b<n1) W6 d [.int .i64 d.start,.slice ea d.accept.length ec,.slice na d.next.length nc])∧(n1≤W6.heap.size)∧(∀y,T y→n1≤y∧y<W6.heap.size)∧(∀b,(Value.slice la i lc).ownBlock=some b→¬T b)∧nn_=x.args.length - 1 - i) (n:=x.args.length - 1 - 0) ?_ ?_))))
 ·exact ⟨0,none,0,[],[],(fun _=>False),zAs.out ⟨rfl,rfl,rfl,rfl,rfl,rfl,rfl,rfl,trivial⟩,E,ad,Bb,Br,Ba,Nat.zero_le _,World.ownsRow_nil _ _ _ _,zDe.nil,rfl,(fun e h=>by cases h),(by rw[cf];exact zEm (ts:=[]) (ds:=[]) hd (by simp[trL])),cq,(by rw[ap];exact Nat.le_refl _),(fun y h=>h.elim),(fun b _ h=>h),rfl⟩
 ·clear E ad Bb Br Ba;rintro _ _ W6 ⟨i,la,lc,ae,ds,T,⟨j6,rfl⟩,E,ad,Bb,Br,Ba,hi,hO,hR,bq,hG,bd,hD,al,hT,bn,rfl⟩;refine zAA (qV (zBA rfl rfl) (zAB (zAH (qC rfl (fun bf=>?_) (fun bf=>?_)))))
  ·obtain ⟨z,hz⟩:=zAJ (l:=x.args) (i:=i+1) qO;obtain ⟨uz,cx,b3⟩:=av.get hz;have bs:=b3;obtain ⟨a2,a1,az,a0,rfl,_,_,_⟩:=b3.form;refine zAO (zAC (zAH (zAT (zAA (qV (zAD (b:=ab) (o:=ao+1*6) (len:=x.args.length - 1) (cap:=ac - 1) (i:=i) (o':=ao+1*6+i*6) rfl rfl rfl underlying24 zAp qO qO) (qV (zAP (vs:=[(I6 z.kind),(.slice a2 z.set.length a1),(.slice az z.args.length a0),(I6 z.mn),(I6 z.mx),(.bool z.neg)]) rfl zBZ zAp rfl ((by have h9:=cx.ext E;rwa [show ao+(i+1)*6=ao+1*6+i*6 by omega] at h9))) (zAd (v:=(.agg (R6 z a2 a1 az a0))) (c:=(R6 z a2 a1 az a0)) (n:=6) qD zDg rfl zAp rfl rfl rfl qS ?_)))))));intro bu wu Nu;have Fu:=Nu.ge E;have Ou_bt:=Nu.lt ad;have Ou_bb:=Nu.lt Bb;have Ou_br:=Nu.lt Br;have Ou_ba:=Nu.lt Ba;replace ad:=Nu.keep ad;replace Bb:=Nu.keep Bb;replace Br:=Nu.keep Br;replace Ba:=Nu.keep Ba;replace hO:=zAg hO Nu.ext;replace hR:=hR.ext Nu.ext;replace al:=Nat.le_trans al Nu.ext.size;replace hD:=hD.ext Nu.ext;replace hT:=zEr hT Nu.ext;replace E:=E.ext Nu.ext;have Bu:=Nu.blk;refine zAB (zAF (qM _ rfl (qM _ rfl (qV (zAP (vs:=[(I6 z.kind),(.slice a2 z.set.length a1),(.slice az z.args.length a0),(I6 z.mn),(I6 z.mx),(.bool z.neg)]) rfl zBZ zAp rfl (Bu.cells rfl)) ?_))));obtain ⟨n2,a5⟩:∃n2,n2=(wu).heap.size:=⟨_,rfl⟩;have cj:n1≤n2:=by rw[a5];exact al
   have b1:∀b,(Value.slice la i lc).ownBlock=some b→n1≤b∧b<n2:=fun b hb=>⟨(hO.lt b hb).1,by rw[a5];exact (hO.lt b hb).2⟩;refine zBX rfl rfl qD (zAU func70 kQ kQ rfl) (((hof z (List.mem_of_getElem? hz) _ bt ca cc _ ad (hC.ext E) (zBm.ext E z bs)).mono (R':=fun r w'=>(∃d,trO cs.length cs z=some d∧GoodD cs.length d∧d.next.length≤200∧zJz (fun b=>n2≤b) d r w')∧Ext _ w') (fun r w' h=>⟨by obtain ⟨d,h1,h2,h3,h4⟩:=h.1;exact ⟨d,h1,h2,h3,h4.mono fun b hb=>by rw[a5];exact hb.1⟩,h.2⟩) (fun _ h=>h))) (fun w' h=>And.intro rfl ⟨zHT a7 (zEn hz h.1),E.ext h.2⟩) ?_;rintro _ be ⟨⟨e,he,ge,he2,fa,fc,ga,gc,rfl,au⟩,af⟩;replace ad:=af.keep ad;replace Bb:=af.keep Bb;replace Br:=af.keep Br;replace Ba:=af.keep Ba;replace Bu:=af.keep Bu;replace hO:=zAg hO af;replace hR:=hR.ext af;replace al:=Nat.le_trans al af.size;replace hD:=hD.ext af;replace hT:=zEr hT af;replace E:=E.ext af;replace au:=zBW.chg au (Chg.refl zAe _) (fun _ _ _ f=>f);refine zAc (ps:=[(0,(.agg #[(I6 e.start),(.slice fa e.accept.length fc),(.slice ga e.next.length gc)]))]) (c:=#[(I6 e.start),(.slice fa e.accept.length fc),(.slice ga e.next.length gc)]) qD rfl underlying177 zAi zBn qD qD qK ?_;intro bz wz Nz;have Fz:=Nz.ge E;have Oz_bt:=Nz.lt ad;have Oz_bb:=Nz.lt Bb;have Oz_br:=Nz.lt Br;have Oz_ba:=Nz.lt Ba;have Oz_bu:=Nz.lt Bu;replace ad:=Nz.keep ad;replace Bb:=Nz.keep Bb;replace Br:=Nz.keep Br;replace Ba:=Nz.keep Ba;replace Bu:=Nz.keep Bu;replace hO:=zAg hO Nz.ext;replace hR:=hR.ext Nz.ext;replace al:=Nat.le_trans al Nz.ext.size;replace hD:=hD.ext Nz.ext;replace hT:=zEr hT Nz.ext;replace au:=au.ext Nz.ext;replace E:=E.ext Nz.ext;have Bz:=Nz.blk;have hQ9:True:=trivial;refine zBt (base:=n1) (n:=i) (m:=1) (xs:=ae.flatten) (news:=[(I6 e.start),(.slice fa e.accept.length fc),(.slice ga e.next.length gc)]) (size:=3) (bytes:=56) (v:=(.slice la i lc)) qD underlying177 zAi zWr zBn rfl qD rfl hO rfl (rfl) (Bz.cells rfl) qS (by unfold maxLen;omega) qO (al) ?_;intro v9 bj b2 aj cb;replace ad:=aj.keep (fun h=>by have:=(hO.lt _ h).1;omega) ad;replace Bb:=aj.keep (fun h=>by have:=(hO.lt _ h).1;omega) Bb;replace Br:=aj.keep (fun h=>by have:=(hO.lt _ h).1;omega) Br;replace Ba:=aj.keep (fun h=>by have:=(hO.lt _ h).1;omega) Ba;replace E:=E.step aj (fun x hx h=>absurd (hO.lt x h).1 qO);obtain ⟨ch,cy,rfl⟩:=zBR b2;have hz1:=Nz.ext.size;have hz2:=aj.size;have hz3:=af.size;have ay:∀y,(T y∨(n2≤y∧y<be.heap.size))→n1≤y∧y<(bj).heap.size∧(Value.slice la i lc).ownBlock≠some y:=by
    intro y hy;rcases hy with hy|⟨hy,hy2⟩
    ·exact ⟨(hT y hy).1,by have:=(hT y hy).2;omega,fun hb=>bn y hb hy⟩
    ·exact ⟨qO,qO,fun hb=>by have:=b1 y hb;omega⟩
   have b8:zDe (fun y=>T y∨(n2≤y∧y<be.heap.size)) (bj) (ds++[e]) (ae++[dfV e fa fc ga gc]):=((hR.chg aj fun y hy hm=>bn y hm hy).mono fun y hy=>.inl hy).snoc ((au.put aj fun y hy hm=>(ay y (.inr hy)).2.2 hm).mono fun y hy=>.inr hy);refine qA _ rfl (zAB (zAS (zAC (zAF (qV (zAw rfl rfl (zBf qO)) (qM _ rfl (zAB (zAC ?_))))))));exact ⟨x.args.length - 1 - (i+1),qO,i+1,ch,cy,ae++[dfV e fa fc ga gc],ds++[e],(fun y=>T y∨(n2≤y∧y<be.heap.size)),zAs.out ⟨rfl,rfl,rfl,rfl,rfl,rfl,rfl,rfl,trivial⟩,E,ad,Bb,Br,Ba,qO,(by simpa[dfV] using b2),b8,(by simp[bq]),(fun d9 h9=>by rcases List.mem_append.1 h9 with h8|h8;exact hG d9 h8;rw[List.mem_singleton.1 h8];exact ge),(by rw[List.take_add_one,hz,Option.toList_some];exact zEm he bd),hD.put aj (fun y hy hm=>by have:=(b1 y hm).1;have:=hy.2.2.2;omega),Nat.le_trans al aj.size,(fun y hy=>⟨(ay y hy).1,(ay y hy).2.1⟩),(fun b hb hy=>by rcases cb b hb with h|h;exact (ay b hy).2.2 h;rcases hy with hy|hy;have:=(hT b hy).2;omega;have:=hy.2;omega),rfl⟩
  ·have b6:i=x.args.length - 1:=qO
   rw[b6] at hO bq bd bn;rw[b6];have a4:trL cs.length cs x.args=some (d::ds):=by rw[←bd,List.take_of_length_le qO]
   have aq:=zPy (cs:=cs) (c:=cs.length) a7 a4;refine zAl (zAV (zAV (zAf (zAC (zAH (zAA (qM _ rfl (qV (zAK underlying177 rfl) (qM _ rfl (zAB (zAT (zAo (fun nn_ σ W8=>∃(j:Nat) (D:Dfa) (pa qa:Option Addr) (pc qc:Nat),(∃jj_,σ=zCT jj_ [(3,(P6 bb 0)),(4,(P6 br 0)),(9,(P6 ba 0)),(97,(.slice la (x.args.length - 1) lc)),(98,(I6 ((x.args.length - 1:Nat):Int))),(99,(I6 (j:Int)))])∧Chg zAe w0 W8∧Blk W8 bt #[(.slice ca cs.length cc)] 108∧Blk W8 bb (R6 x sa sc (some ⟨ab,ao,none⟩) ac) 26∧Blk W8 br #[(I6 0),(.slice none 0 0),(.slice none 0 0)] 34∧Blk W8 ba (#[.int .i64 D.start,.slice pa D.accept.length pc,.slice qa D.next.length qc]) 34∧(j≤x.args.length - 1)∧(foldK cs.length x.kind d (ds.take j)=some D)∧(GoodD cs.length D)∧(zBW (fun b=>w0.heap.size≤b∧b≠ba∧b≠br) W8 D [.int .i64 D.start,.slice pa D.accept.length pc,.slice qa D.next.length qc])∧(zDe T W8 ds ae)∧(W8.ownsRow n1 34 3 (.slice la (x.args.length - 1) lc) (x.args.length - 1) ae.flatten)∧nn_=x.args.length - 1 - j) (n:=x.args.length - 1 - 0) ?_ ?_))))))))))))
   ·exact ⟨0,d,ea,na,ec,nc,zAs.out ⟨rfl,rfl,rfl,rfl,rfl,rfl,trivial⟩,E,ad,Bb,Br,Ba,Nat.zero_le _,rfl,gd,(hD.mono fun b hb=>⟨hb.1,hb.2.1,hb.2.2.1⟩),hR,hO,rfl⟩
   ·clear E ad Bb Br Ba;rintro _ _ W8 ⟨j,D,pa,qa,pc,qc,⟨j8,rfl⟩,E,ad,Bb,Br,Ba,hj,hf,gD,ah,hR,hO,rfl⟩;refine zAA (qV (zBA rfl rfl) (zAB (zAH (qC rfl (fun bg=>?_) (fun bg=>?_)))))
    ·obtain ⟨e,he⟩:=zAJ (l:=ds) (i:=j) qO;obtain ⟨fa,fc,ga,gc,ax,am⟩:=hR.2.2 j e he;unfold dfV at ax am;obtain ⟨ob,oo,rfl,aw⟩:=zCQ.at (zCz hO hR.2.1 (by rw[hR.1,bq]) qD) qO;refine zAO (zAC (zAH (zAT (zAA (qV (zAD (b:=ob) (o:=oo) (len:=x.args.length - 1) (cap:=lc) (i:=j) (o':=oo+j*3) rfl rfl rfl underlying177 zAi qO qO) (qV (zAP rfl zBC zAi rfl (aw j _ ax)) (zAd (v:=(.agg #[(I6 e.start),(.slice fa e.accept.length fc),(.slice ga e.next.length gc)])) (c:=#[(I6 e.start),(.slice fa e.accept.length fc),(.slice ga e.next.length gc)]) (n:=3) qD zBn rfl zAi rfl rfl rfl qS ?_)))))));intro bv wv Nv;have Fv:=Nv.ge E;have Ov_bt:=Nv.lt ad;have Ov_bb:=Nv.lt Bb;have Ov_br:=Nv.lt Br;have Ov_ba:=Nv.lt Ba;replace ad:=Nv.keep ad;replace Bb:=Nv.keep Bb;replace Br:=Nv.keep Br;replace Ba:=Nv.keep Ba;replace hO:=zAg hO Nv.ext;replace hR:=hR.ext Nv.ext;replace ah:=ah.ext Nv.ext;replace am:=am.ext Nv.ext;replace E:=E.ext Nv.ext;have Bv:=Nv.blk;refine zAB (zAA (qF bb 0 0 rfl underlying26 rfl zAv rfl (qV (zAG rfl zAm (Bb.cell rfl)) (zAB (zAT (zAA (qV (zAq rfl rfl) (qA _ rfl (zAB (zAN (cbk bw) (zAF (qV (zAP (vs:=[(I6 D.start),(.slice pa D.accept.length pc),(.slice qa D.next.length qc)]) rfl zBC zAi rfl (Ba.cells rfl)) (qV (zAP (vs:=[(I6 e.start),(.slice fa e.accept.length fc),(.slice ga e.next.length gc)]) rfl zBC zAi rfl (Bv.cells rfl)) (qF bb 0 0 rfl underlying26 rfl zAv rfl (qV (zAG rfl zAm (Bb.cell rfl)) (qV (zAq rfl rfl) ?_))))))))))))))));obtain ⟨n8,bk⟩:∃n8,n8=(wv).heap.size:=⟨_,rfl⟩;have cm:ba<n8∧br<n8∧w0.heap.size≤n8:=⟨by rw[bk];exact Ba.lt,by rw[bk];exact Br.lt,by rw[bk];exact E.size⟩;obtain ⟨o9,bp⟩:∃o9,o9=prsO cs.length (decide (x.kind=7)) D e:=⟨_,rfl⟩;refine qE rfl (zAU func86 kQ kQ rfl) ((zUo _ cs.length D e _ _ (decide (x.kind=7)) gD (hG e (List.mem_of_getElem? he)) ah.at' am.at' hc).mono (R':=fun r w'=>opG cs.length (fun b=>w0.heap.size≤b∧b≠ba∧b≠br) o9 r w'∧Ext _ w') (fun r w' h=>⟨by rw[bp];exact h.1.mono fun b hb=>⟨by have:=hb.1;omega,by have:=hb.1;omega,by have:=hb.1;omega⟩,h.2⟩)) ?_;rintro _ w29 ⟨⟨s9,a9,a8,bh,a6,rfl,cv⟩,ai⟩;replace ad:=ai.keep ad;replace Bb:=ai.keep Bb;replace Br:=ai.keep Br;replace Ba:=ai.keep Ba;replace Bv:=ai.keep Bv;replace hO:=zAg hO ai;replace hR:=hR.ext ai;replace ah:=ah.ext ai;replace am:=am.ext ai;replace E:=E.ext ai;refine qV (zAb rfl rfl) (qV (zAb rfl rfl) (zBX rfl rfl qD (zAU func153 kQ kQ rfl) (zIQ _ o9.isSome s9.start a9 a8 s9.accept.length bh s9.next.length a6) (fun w' h=>And.intro rfl ⟨by rw[aq];exact zGz he hf ((zPB qO).trans (bp.symm.trans (Option.not_isSome_iff_eq_none.1 (by rw[h.1];decide)))),E.ext h.2⟩) ?_));rintro _ bj ⟨⟨ck,rfl⟩,ag⟩;replace ad:=ag.keep ad;replace Bb:=ag.keep Bb;replace Br:=ag.keep Br;replace Ba:=ag.keep Ba;replace Bv:=ag.keep Bv;replace hO:=zAg hO ag;replace hR:=hR.ext ag;replace ah:=ah.ext ag;replace am:=am.ext ag;replace E:=E.ext ag;obtain ⟨D9,bc⟩:=Option.isSome_iff_exists.1 ck;obtain ⟨ci,cn,ce⟩:=cv D9 bc;rw[ci] at bc;have bm:=ce.ext ag;refine zAa (b:=ba) (o:=0) (c':=#[(I6 s9.start),(.slice a9 s9.accept.length bh),(.slice a8 s9.next.length a6)]) rfl rfl qS zAi rfl Ba qL rfl ?_;intro w10 ak;replace hO:=zAn hO ak.chg (fun y hy h=>by have h':y=ba:=h;have:=(hO.lt y hy).1;omega);replace hR:=hR.chg ak.chg (fun y hy h=>by have h':y=ba:=h;have:=hT y hy;omega);replace bm:=bm.put ak.chg (fun y hy h=>hy.2.1 h);replace ad:=ak.keep qO ad;replace Bb:=ak.keep qO Bb;replace Br:=ak.keep qO Br;replace Bv:=ak.keep qO Bv;replace E:=ak.step E qQ;replace Ba:=ak.blk;refine zAB (zAS (zAS (zAC (zAF (qV (zAw rfl rfl (zBf qO)) (qM _ rfl (zAB (zAC ?_))))))));exact ⟨x.args.length - 1 - (j+1),qO,j+1,s9,a9,a8,bh,a6,zAs.out ⟨rfl,rfl,rfl,rfl,rfl,rfl,trivial⟩,E,ad,Bb,Br,Ba,qO,(by rw[zFd he hf];exact (zPB qO).trans (bp.symm.trans bc)),cn,bm,hR,hO,rfl⟩
    ·have b9:j=ds.length:=qO
     rw[b9,List.take_length] at hf;refine zAl (zAV (zAV (zAf (zAC (zAA (qV (zAP (vs:=[(I6 D.start),(.slice pa D.accept.length pc),(.slice qa D.next.length qc)]) rfl zBC zAi rfl (Ba.cells rfl)) (zAa (b:=br) (o:=0) (c':=#[(I6 D.start),(.slice pa D.accept.length pc),(.slice qa D.next.length qc)]) rfl rfl qS zAi rfl Br qL rfl ?_)))))));intro w11 an;replace ah:=ah.put an.chg (fun y hy h=>hy.2.2 h);replace ad:=an.keep qO ad;replace Bb:=an.keep qO Bb;replace Ba:=an.keep qO Ba;replace E:=an.step E qQ;replace Br:=an.blk;refine zAB (zAW (zAh (zAX (zCm (zBb results105 (vs:=[(.int .i64 D.start),(.slice pa D.accept.length pc),(.slice qa D.next.length qc)]) (b:=br) rfl zBC zAi rfl (Br.cells rfl) ?_)))));exact ⟨⟨D,aq.trans hf,gD,_,_,_,_,rfl,(zBW.chg ah (Chg.refl zAe _) fun _ _ _ f=>f).mono fun b hb=>⟨hb.1.1,hb.2⟩⟩,E⟩
end Go.Proofs
namespace Go.Proofs
open Go Go.Eng Go.Sort
set_option maxRecDepth 100000
def drG (S:Nat→Prop) (d:Dfa):Fct:=fun r w=>∃ea ec na nc,r=.agg #[.int .i64 d.start,.slice ea d.accept.length ec,.slice na d.next.length nc]∧zBW S w d [.int .i64 d.start,.slice ea d.accept.length ec,.slice na d.next.length nc]
theorem zWf {S:Nat→Prop} {d:Dfa}:∀v w w',Ext w w'→drG S d v w→drG S d v w':=by
 rintro v w w' x ⟨ea,ec,na,nc,h1,h2⟩;exact ⟨ea,ec,na,nc,h1,h2.ext x⟩
theorem zWC {c m:Nat} {o:Option Dfa}:∀v w w',Ext w w'→opF c m o v w→opF c m o v w':=by
 rintro v w w' x ⟨d,ea,na,ec,nc,h1,h2⟩;exact ⟨d,ea,na,ec,nc,h1,fun D hD=>⟨(h2 D hD).1,(h2 D hD).2.1,(h2 D hD).2.2.chg x fun _ f=>f.elim⟩⟩
def opA (c m:Nat) (o:Option Dfa):Fct:=fun r w=>∃(d:Dfa) (ea na:Option Addr) (ec nc:Nat),r=.agg #[.int .i64 d.start,.slice ea d.accept.length ec,.slice na d.next.length nc]∧∀D,o=some D→D=d∧GoodD c d∧zCu m w d [.int .i64 d.start,.slice ea d.accept.length ec,.slice na d.next.length nc]
theorem zWD {c m:Nat} {o:Option Dfa}:∀v w w',Ext w w'→opA c m o v w→opA c m o v w':=by
 rintro v w w' x ⟨d,ea,na,ec,nc,h1,h2⟩;exact ⟨d,ea,na,ec,nc,h1,fun D hD=>⟨(h2 D hD).1,(h2 D hD).2.1,(h2 D hD).2.2.chg x fun _ f=>f.elim⟩⟩
def opM (c m:Nat) (o:Option Dfa):Fct:=fun r w=>∃(d:Dfa) (ea na:Option Addr) (ec nc:Nat),r=.agg #[.int .i64 d.start,.slice ea d.accept.length ec,.slice na d.next.length nc]∧o=some d∧GoodD c d∧zCu m w d [.int .i64 d.start,.slice ea d.accept.length ec,.slice na d.next.length nc]
theorem zVz {c m:Nat} {o:Option Dfa}:∀v w w',Ext w w'→opM c m o v w→opM c m o v w':=by
 rintro v w w' x ⟨d,ea,na,ec,nc,h1,h2,h3,h4⟩;exact ⟨d,ea,na,ec,nc,h1,h2,h3,h4.chg x fun _ f=>f.elim⟩
theorem zWL (w0:World) (c m:Nat) (o:Option Dfa) (d:Dfa) (ea na:Option Addr) (ec nc:Nat) (h:∀D,o=some D→D=d∧GoodD c d∧zCu m w0 d [.int .i64 d.start,.slice ea d.accept.length ec,.slice na d.next.length nc]) :
  zSX prog lgC 153 #[.agg #[.int .i64 d.start,.slice ea d.accept.length ec,.slice na d.next.length nc],.bool o.isSome] w0 (fun r w=>opM c m o r w∧Ext w0 w) fun w=>o=none∧Ext w0 w:=
 (zIQ w0 o.isSome d.start ea na d.accept.length ec d.next.length nc).mono (fun r w q=>by
  obtain ⟨⟨q1,q2⟩,q3⟩:=q;obtain ⟨D,hD⟩:=Option.isSome_iff_exists.1 q1;obtain ⟨h1,h2,h3⟩:=h D hD;exact ⟨⟨d,ea,na,ec,nc,q2,by rw[hD,h1],h2,h3.chg q3 fun _ f=>f.elim⟩,q3⟩) fun w q=>⟨Option.not_isSome_iff_eq_none.1 (by rw[q.1];decide),q.2⟩
theorem zVV (cs:List (List Sp)) (x:Re) (hc:1≤cs.length∧cs.length≤16) (hN:NodeI x) (hk:x.kind=6) (hof:∀y∈x.args,zJK cs.length cs y):zIs cs.length cs x:=by
 intro w0 bt ca cc vs hT hC ht;have ht0:=ht;obtain ⟨sa,sc,aa,ac,rfl,c8,c7,bk⟩:=ht.form;have hcl:cs.length≤16:=hc.2;have h1:=hN.one qO;obtain ⟨y,hy⟩:=zAJ (l:=x.args) (i:=0) qO;obtain ⟨ab,ao,rfl,b9⟩:=zGB bk qO;obtain ⟨us,cu,cr⟩:=b9.get hy;have cp:=cr;obtain ⟨ysa,ysc,yaa,yac,rfl,_,_,_⟩:=cr.form;have hrp:=hN.rep hk;refine zDj func105 rfl ntmps105 (leT rfl) ?_;have E:Chg zAe w0 w0:=Chg.refl _ _;refine zAA (zBY (v:=(.agg (R6 x sa sc (some ⟨ab,ao,none⟩) ac))) (c:=(R6 x sa sc (some ⟨ab,ao,none⟩) ac)) qD rfl rfl ?_);intro bb wb Nb;have Fb:=Nb.ge E;have Ob_bt:=Nb.lt hT;replace hT:=Nb.keep hT;replace E:=E.ext Nb.ext;have Bb:=Nb.blk;refine zBB (c:=#[(I6 0),(.slice none 0 0),(.slice none 0 0)]) qD zBn rfl ?_;intro br wr Nr;have Fr:=Nr.ge E;have Or_bt:=Nr.lt hT;have Or_bb:=Nr.lt Bb;replace hT:=Nr.keep hT;replace Bb:=Nr.keep Bb;replace E:=E.ext Nr.ext;have Br:=Nr.blk;refine zAB (zAA (qM _ rfl (qV (zBd rfl) (qF bt 0 0 rfl underlying108 rfl zHg rfl (qV (zAG rfl zES (hT.cell rfl)) (qV (zAK underlying35 rfl) (qA _ rfl (zAB (zAH (zAA (qF bb 0 0 rfl underlying26 rfl zAv rfl (qV (zAG rfl zAm (Bb.cell rfl)) (zAB (zAT (zAA (qV (zAq rfl rfl) (qA _ rfl (zAB ?_))))))))))))))))));have cz:(decide ((x.kind:Int)=1))=false:=decide_eq_false qO;refine zAN (cbk cz) (zAA (qV (zAq rfl rfl) (qA _ rfl (zAB ?_))));have dc:(decide ((x.kind:Int)=2))=false:=decide_eq_false qO;refine zAN (cbk dc) (zAH (zAA (qV (zAq rfl rfl) (qA _ rfl (zAB ?_)))));have c4:(decide ((x.kind:Int)=3))=false:=decide_eq_false qO;refine zAN (cbk c4) (zAA (qV (zAq rfl rfl) (qA _ rfl (zAB ?_))));have da:(decide ((x.kind:Int)=4))=false:=decide_eq_false qO;refine zAN (cbk da) (zAF (qV (zAq rfl rfl) (qA _ rfl (zAB (zAC ?_)))));have df:(decide ((x.kind:Int)=7))=false:=decide_eq_false qO;refine zAN (cbk df) (zAA (qV (zAq rfl rfl) (qA _ rfl (zAB ?_))));have ct:(decide ((x.kind:Int)=5))=false:=decide_eq_false qO;refine zAN (cbk ct) (zAA (qV (zAq rfl rfl) (qA _ rfl (zAB ?_))));have c3:(decide ((x.kind:Int)=6))=true:=decide_eq_true hk;refine zAk (cbk c3) (zAA (qM _ rfl (qF bb 0 2 rfl underlying26 rfl zDn rfl (qV (zAG rfl zCr (Bb.cell rfl)) (qV (zAD (b:=ab) (o:=ao) (len:=x.args.length) (cap:=ac) (i:=0) (o':=ao+0*6) rfl rfl rfl underlying24 zAp qO qO) (qV (zAP rfl zBZ zAp rfl (cu.ext E)) ?_))))));obtain ⟨n9,b0⟩:∃n9,n9=(wr).heap.size:=⟨_,rfl⟩;have cq:br<n9∧w0.heap.size≤n9:=⟨by rw[b0];exact Br.lt,by rw[b0];exact E.size⟩;refine zBX rfl rfl qD (zAU func70 kQ kQ rfl) (((hof y (List.mem_of_getElem? hy) _ bt ca cc _ hT (hC.ext E) (zBm.ext E y cp)).mono (R':=fun r w'=>(∃d,trO cs.length cs y=some d∧GoodD cs.length d∧d.next.length≤200∧zJz (fun b=>n9≤b) d r w')∧Ext _ w') (fun r w' h=>⟨by obtain ⟨d,h1,h2,h3,h4⟩:=h.1;exact ⟨d,h1,h2,h3,h4.mono fun b hb=>by rw[b0];exact hb.1⟩,h.2⟩) (fun _ h=>h))) (fun w' h=>And.intro rfl ⟨by rw[zPz hk h1 hy,h.1];rfl,E.ext h.2⟩) ?_;rintro _ w9 ⟨⟨d,hd,gd,hd2,ea,ec,na,nc,rfl,hD⟩,X9⟩;replace hT:=X9.keep hT;replace Bb:=X9.keep Bb;replace Br:=X9.keep Br;replace E:=E.ext X9;obtain ⟨o8,cm⟩:∃o8,o8=prsO cs.length false d (zBK cs.length):=⟨_,rfl⟩;refine zAd (v:=(.agg #[(I6 d.start),(.slice ea d.accept.length ec),(.slice na d.next.length nc)])) (c:=#[(I6 d.start),(.slice ea d.accept.length ec),(.slice na d.next.length nc)]) (n:=3) qD zBn rfl zAi rfl rfl rfl qS ?_;intro ba wa Na;have Fa:=Na.ge E;have Oa_bt:=Na.lt hT;have Oa_bb:=Na.lt Bb;have Oa_br:=Na.lt Br;replace hT:=Na.keep hT;replace Bb:=Na.keep Bb;replace Br:=Na.keep Br;replace hD:=hD.ext Na.ext;replace E:=E.ext Na.ext;have Ba:=Na.blk;refine zAB ?_;have c5:n9≤(wa).heap.size:=by rw[b0];have:=X9.size;have:=Na.ext.size;omega
 have cf:ba<(wa).heap.size∧n9≤ba:=⟨Ba.lt,by have:=Na.eq;have:=X9.size;omega⟩;replace hD:=(zBW.chg hD (Chg.refl zAe _) (fun _ _ _ f=>f));obtain ⟨n7,b6⟩:∃n7,n7=(wa).heap.size:=⟨_,rfl⟩;rw[←b6] at hD;have db:w0.heap.size≤wa.heap.size:=E.size;have bw:bt<wa.heap.size:=hT.lt;have bx:bb<wa.heap.size:=Bb.lt;have bz:br<wa.heap.size:=Br.lt;have b1:ba<wa.heap.size:=Ba.lt;refine zAH ?_;obtain ⟨cv,ah⟩:∃Fs:List zCw,Fs=[(eF (.agg #[(I6 d.start),(.slice ea d.accept.length ec),(.slice na d.next.length nc)])),(eF (I6 (cs.length:Int))),(fun _ _=>drG (fun b=>n7≤b) (zBK cs.length)),(fun _ _=>opF cs.length n7 o8),(fun _ _=>opA cs.length n7 o8),(eF (.bool o8.isSome)),(fun _ _=>opM cs.length n7 o8),(fun _ _=>alF 34 #[(I6 0),(.slice none 0 0),(.slice none 0 0)] wa.heap.size),(eF undef)]:=⟨_,rfl⟩;refine zNQ (MsL []) (RsL []) (lgC) ((fun _=>o8=none)) [true,true,true,true,true,true,true,true,false] [8] [144,145,146,147,148,149,150,16,207] [[],[],[1],[0,2],[3],[3],[3,4,5],[],[]] [[],[],[1],[0,2,1],[3,0,2,1],[3,0,2,1],[3,0,2,1,4,5],[],[]] cv ah qK mixed qK qK qK qK ?_ ((fun σ' w1 w' X0 X hx=>And.intro rfl ⟨by rw[zPz hk h1 hy,hd,Option.bind_some,←cm,hx];rfl,(E.ext X0).step X (fun y hy h=>by obtain ⟨j,h⟩:=h;exact h.elim)⟩)) ?_
 ·intro wd X0;refine DagStepsG.cons (zCI.eq) (zCf.const) (fun S s' w' hi hN X U V H=>Or.inl ⟨zAI rfl,?_⟩) ?_
  ·replace X:=xN0 X;exact gX0 (zAR (zAP (vs:=[(.int .i64 d.start),(.slice ea d.accept.length ec),(.slice na d.next.length nc)]) (U 15 rfl) zBC zAi rfl (((X0.trans X).keep Ba).cells rfl)) rfl)
  refine DagStepsG.cons (zCI.eq) (zCf.const) (fun S s' w' hi hN X U V H=>Or.inl ⟨zAI rfl,?_⟩) ?_
  ·replace X:=xN0 X;exact gX0 (zAR (zAj (v:=(.int .i64 ((cs.length:Nat):Int))) (U 5 rfl)) rfl)
  refine DagStepsG.cons (zCI.chg (U:=zAe) (zWf) (fun p y hp hw h=>by
     exact h.elim)) (zCf.const) (fun S s' w' hi hN X U V H=>Or.inl ⟨zAI rfl,?_⟩) ?_
  ·replace X:=xN0 X;have ce:=(H 1 rfl).2 145 _ rfl (by rw[ah];rfl);exact gX0 (zCC (zAU (vs:=[(.int .i64 ((cs.length:Nat):Int))]) func152 kQ kQ (zPI ce)) ((zKh _ cs.length hc).mono (R':=fun r w'=>drG (fun b=>n7≤b) (zBK cs.length) r w'∧Ext _ w') (fun r w' h=>⟨h.1.mono fun b hb=>by have:=X0.size;have:=X.size;have c0:_≤b:=hb;omega,h.2⟩)))
  refine DagStepsG.cons (zCI.chg (U:=zAe) (zWC) (fun p y hp hw h=>by
     exact h.elim)) (zCf.const) (fun S s' w' hi hN X U V H=>Or.inl ⟨zAI rfl,?_⟩) ?_
  ·replace X:=xN0 X;have ck:=(H 0 rfl).2 144 _ rfl (by rw[ah];rfl);obtain ⟨bm,bi,bn,bv,cd,b5⟩:=(show ((fun _ _=>drG (fun b=>n7≤b) (zBK cs.length)):zCw) S s' (s' 146) w' from (H 2 rfl).2 146 (fun _ _=>drG (fun b=>n7≤b) (zBK cs.length)) rfl (by rw[ah];rfl));exact gX0 (zCC (zAU (vs:=[(.agg #[(.int .i64 d.start),(.slice ea d.accept.length ec),(.slice na d.next.length nc)]),(.agg #[(.int .i64 ((zBK cs.length).start)),(.slice bm ((zBK cs.length).accept.length) bi),(.slice bn ((zBK cs.length).next.length) bv)]),(.bool false)]) func86 kQ kQ (zXH ck cd rfl)) ((zXp _ n7 cs.length d (zBK cs.length) _ _ false (by have:=X0.size;have:=X.size;omega) gd (zGx _) (hD.ext (X0.trans X)).at' b5.at' hc).mono (R':=fun r w'=>opF cs.length n7 o8 r w'∧Ext _ w') (fun r w' h=>by rw[cm];exact h)))
  refine DagStepsG.cons (zCI.chg (U:=zAe) (zWD) (fun p y hp hw h=>by
     exact h.elim)) (zCf.const) (fun S s' w' hi hN X U V H=>Or.inl ⟨zAI rfl,?_⟩) ?_
  ·replace X:=xN0 X;obtain ⟨af,aq,au,ap,ar,bf,bp⟩:=(show ((fun _ _=>opF cs.length n7 o8):zCw) S s' (s' 147) w' from (H 3 rfl).2 147 (fun _ _=>opF cs.length n7 o8) rfl (by rw[ah];rfl));exact gX0 (zAR (zAb (vs:=#[.agg #[.int .i64 af.start,.slice aq af.accept.length ap,.slice au af.next.length ar],.bool o8.isSome]) (v:=.agg #[.int .i64 af.start,.slice aq af.accept.length ap,.slice au af.next.length ar]) bf rfl) ⟨af,aq,au,ap,ar,rfl,bp⟩)
  refine DagStepsG.cons (zCI.eq) (zCf.const) (fun S s' w' hi hN X U V H=>Or.inl ⟨zAI rfl,?_⟩) ?_
  ·replace X:=xN0 X;obtain ⟨af,aq,au,ap,ar,bf,bp⟩:=(show ((fun _ _=>opF cs.length n7 o8):zCw) S s' (s' 147) w' from (H 3 rfl).2 147 (fun _ _=>opF cs.length n7 o8) rfl (by rw[ah];rfl));exact gX0 (zAR (zAb (vs:=#[.agg #[.int .i64 af.start,.slice aq af.accept.length ap,.slice au af.next.length ar],.bool o8.isSome]) (v:=.bool o8.isSome) bf rfl) rfl)
  refine DagStepsG.cons (zCI.chg (U:=zAe) (zVz) (fun p y hp hw h=>by
     exact h.elim)) (zCf.const) (fun S s' w' hi hN X U V H=>Or.inl ⟨zAI rfl,?_⟩) ?_
  ·replace X:=xN0 X;obtain ⟨ay,a3,a0,a2,a4,ci,b2⟩:=(show ((fun _ _=>opA cs.length n7 o8):zCw) S s' (s' 148) w' from (H 4 rfl).2 148 (fun _ _=>opA cs.length n7 o8) rfl (by rw[ah];rfl));have cg:=(H 5 rfl).2 149 _ rfl (by rw[ah];rfl);exact gX0x (zNS (zAU (vs:=[(.agg #[(.int .i64 ay.start),(.slice a3 ay.accept.length a2),(.slice a0 ay.next.length a4)]),(.bool o8.isSome)]) func153 kQ kQ (zPH ci cg)) ((zWL _ cs.length n7 o8 ay a3 a0 a2 a4 b2).mono (fun v w h=>⟨h.1,Ext.chg h.2⟩) (fun w h=>⟨h.1,Ext.chg h.2⟩)))
  refine DagStepsG.cons (zCI.chg (U:=zAe) (fun v w w' x h=>zHL _ _ _ v w w' x h) (fun p y hp hw h=>by
     exact h.elim)) (zCf.const) (fun S s' w' hi hN X U V H=>Or.inl ⟨zAI rfl,?_⟩) ?_
  ·replace X:=xN0 X;exact gX0 (zDV (c:=#[(.int .i64 0),(.slice none 0 0),(.slice none 0 0)]) zBn rfl (by have:=X0.size;have:=X.size;omega))
  refine DagStepsG.tail ?_;exact DagStepsG.nil
 ·intro s' wd8 w8 X0 X8 U H;replace X8:=X8.mono (M':=zAe) (fun y _ h=>by
    obtain ⟨j,hj,h⟩:=h;exact h.elim)
  obtain ⟨ad,aj,al,ak,am,b3,bq,co,ai⟩:=(show ((fun _ _=>opM cs.length n7 o8):zCw) (zNP [true,true,true,true,true,true,true,true,false]) s' (s' 150) w8 from H 6 rfl 150 (fun _ _=>opM cs.length n7 o8) rfl (by rw[ah];rfl));obtain ⟨bc,c6,ae,g16⟩:=(show ((fun _ _=>alF 34 #[(.int .i64 0),(.slice none 0 0),(.slice none 0 0)] wa.heap.size):zCw) (zNP [true,true,true,true,true,true,true,true,false]) s' (s' 16) w8 from H 7 rfl 16 (fun _ _=>alF 34 #[(.int .i64 0),(.slice none 0 0),(.slice none 0 0)] wa.heap.size) rfl (by rw[ah];rfl));obtain ⟨j8,rfl⟩:=zAs.out (σ:=s') (l:=[(3,(.pointer (some ⟨bb,0,none⟩))),(4,(.pointer (some ⟨br,0,none⟩))),(5,(.int .i64 ((cs.length:Nat):Int))),(15,(.pointer (some ⟨ba,0,none⟩))),(150,(.agg #[(.int .i64 ad.start),(.slice aj ad.accept.length ak),(.slice al ad.next.length am)])),(16,(.pointer (some ⟨bc,0,none⟩)))]) ⟨U 3 rfl,U 4 rfl,U 5 rfl,U 15 rfl,b3,c6,trivial⟩;clear U H;replace hT:=(X0.trans X8).keep hT;replace Bb:=(X0.trans X8).keep Bb;replace Br:=(X0.trans X8).keep Br;replace Ba:=(X0.trans X8).keep Ba;replace hD:=hD.ext (X0.trans X8);replace X8:=X0.trans X8;replace E:=E.ext X8;have bs:=ae;have dg:br<n7∧ba<n7∧w0.heap.size≤n7∧br<n9∧n7≤bc:=⟨by rw[b6];have:=cq.1;omega,by rw[b6];exact cf.1,qO,cq.1,qO⟩;have bg:n7≤(w8).heap.size:=by have:=bs.lt;omega
  refine zAa (b:=bc) (o:=0) (c':=#[(I6 ad.start),(.slice aj ad.accept.length ak),(.slice al ad.next.length am)]) rfl rfl qS zAi rfl ae qL rfl ?_;intro w9 S9;replace ai:=ai.chgT S9.chg (fun y h=>.inr (by have h':y=bc:=h;rw[h'];exact ⟨_,bs⟩));replace hD:=hD.put S9.chg (fun y hy h=>by have h':y=bc:=h;have:=hy.2;omega);replace bg:=Nat.le_trans bg S9.chg.size;replace hT:=S9.keep qO hT;replace Bb:=S9.keep qO Bb;replace Br:=S9.keep qO Br;replace Ba:=S9.keep qO Ba;replace E:=S9.step E qQ;replace ae:=S9.blk;refine zAB (zAC (zAA (qM _ rfl ?_)));have cy:=bg;refine qE rfl (zAU func152 kQ kQ rfl) ((zKh _ cs.length hc).mono (R':=fun r w'=>zJz (fun b=>n7≤b) (zBK cs.length) r w'∧Ext _ w') (fun r w' h=>⟨h.1.mono fun b hb=>by have c0:_≤b:=hb;omega,h.2⟩)) ?_;rintro _ c1 ⟨⟨ka,kc,la,lc,rfl,hK⟩,az⟩;replace hT:=az.keep hT;replace Bb:=az.keep Bb;replace Br:=az.keep Br;replace Ba:=az.keep Ba;replace ae:=az.keep ae;replace hD:=hD.ext az;replace ai:=(ai.chg az fun _ f=>f.elim);replace E:=E.ext az;obtain ⟨n6,c2⟩:∃n6,n6=c1.heap.size:=⟨_,rfl⟩;replace hD:=zBW.chg hD (Chg.refl zAe _) (fun _ _ _ f=>f);replace hK:=zBW.chg hK (Chg.refl zAe _) (fun _ _ _ f=>f);replace ai:=zBW.of_new ai;rw[←c2] at hD hK ai;refine zAd (v:=(.agg #[(I6 ((zBK cs.length).start)),(.slice ka ((zBK cs.length).accept.length) kc),(.slice la ((zBK cs.length).next.length) lc)])) (c:=#[(I6 ((zBK cs.length).start)),(.slice ka ((zBK cs.length).accept.length) kc),(.slice la ((zBK cs.length).next.length) lc)]) (n:=3) qD zBn rfl zAi rfl rfl rfl qS ?_;intro bo wo No;have Fo:=No.ge E;have Oo_bt:=No.lt hT;have Oo_bb:=No.lt Bb;have Oo_br:=No.lt Br;have Oo_ba:=No.lt Ba;have Oo_b16:=No.lt ae;replace hT:=No.keep hT;replace Bb:=No.keep Bb;replace Br:=No.keep Br;replace Ba:=No.keep Ba;replace ae:=No.keep ae;replace hD:=hD.ext No.ext;replace ai:=ai.ext No.ext;replace hK:=hK.ext No.ext;replace E:=E.ext No.ext;have Bo:=No.blk;refine zAB (zAH (zAA (qF bb 0 4 rfl underlying26 rfl zAv rfl (qV (zAG rfl zAm (Bb.cell rfl)) (qM _ rfl (zAB (zAT ?_)))))));have hq:o8=some ad:=bq;have b8:trN cs.length cs x=repK cs.length x.mn d ad x.mx.toNat:=by rw[zPz hk h1 hy,hd,Option.bind_some,←cm,bq];rfl
  have hoo:n6≤bo∧br<bo:=⟨by have:=No.eq;omega,by have:=No.eq;have:=az.size;omega⟩;have c9:zBW (fun b=>w0.heap.size≤b∧b≠bo∧b≠br) (wo) d [.int .i64 d.start,.slice ea d.accept.length ec,.slice na d.next.length nc]:=hD.mono fun b hb=>⟨by have:=hb.1.1;omega,by have:=hb.2;omega,by have:=hb.1.1;omega⟩;have cw:zBW (fun b=>w0.heap.size≤b∧b≠bo∧b≠br) (wo) ad [.int .i64 ad.start,.slice aj ad.accept.length ak,.slice al ad.next.length am]:=ai.mono fun b hb=>⟨by have:=hb.1;omega,by have:=hb.2;omega,by have:=hb.1;omega⟩;have dh:zBW (fun b=>w0.heap.size≤b∧b≠bo∧b≠br) (wo) (zBK cs.length) [.int .i64 (zBK cs.length).start,.slice ka (zBK cs.length).accept.length kc,.slice la (zBK cs.length).next.length lc]:=hK.mono fun b hb=>⟨by have:=hb.1;omega,by have:=hb.2;omega,by have:=hb.1;omega⟩;refine zAo (fun nn_ σ av=>∃(k:Nat) (D:Dfa) (pa qa:Option Addr) (pc qc:Nat),(∃jj_,σ=zCT jj_ [(3,(P6 bb 0)),(4,(P6 br 0)),(15,(P6 ba 0)),(16,(P6 bc 0)),(17,(P6 bo 0)),(154,(I6 x.mx)),(155,(I6 (k:Int)))])∧Chg zAe w0 av∧Blk av bt #[(.slice ca cs.length cc)] 108∧Blk av bb (R6 x sa sc (some ⟨ab,ao,none⟩) ac) 26∧Blk av br #[(I6 0),(.slice none 0 0),(.slice none 0 0)] 34∧Blk av ba #[(I6 d.start),(.slice ea d.accept.length ec),(.slice na d.next.length nc)] 34∧Blk av bc #[(I6 ad.start),(.slice aj ad.accept.length ak),(.slice al ad.next.length am)] 34∧Blk av bo (#[.int .i64 D.start,.slice pa D.accept.length pc,.slice qa D.next.length qc]) 34∧((k:Int)≤x.mx)∧(repK cs.length x.mn d ad k=some D)∧(GoodD cs.length D)∧(zBW (fun b=>w0.heap.size≤b∧b≠bo∧b≠br) av D [.int .i64 D.start,.slice pa D.accept.length pc,.slice qa D.next.length qc])∧(zBW (fun b=>w0.heap.size≤b∧b≠bo∧b≠br) av d [.int .i64 d.start,.slice ea d.accept.length ec,.slice na d.next.length nc])∧(zBW (fun b=>w0.heap.size≤b∧b≠bo∧b≠br) av ad [.int .i64 ad.start,.slice aj ad.accept.length ak,.slice al ad.next.length am])∧nn_=x.mx.toNat - k) (n:=x.mx.toNat - 0) ?_ ?_
  ·exact ⟨0,zBK cs.length,ka,la,kc,lc,zAs.out ⟨rfl,rfl,rfl,rfl,rfl,rfl,rfl,trivial⟩,E,hT,Bb,Br,Ba,ae,Bo,qO,rfl,zGx _,dh,c9,cw,rfl⟩
  ·clear E hT Bb Br Ba ae Bo;rintro _ _ av ⟨k,D,pa,qa,pc,qc,⟨j10,rfl⟩,E,hT,Bb,Br,Ba,ae,Bo,hkm,hf,gD,bj,hA,hM,rfl⟩;refine zAA (qV (zBA rfl rfl) (zAB (zAH (qC rfl (fun cl=>?_) (fun cl=>?_)))))
   ·refine zAO (zAC (zAH (zAT (zAA (qM _ rfl (qA _ rfl (zAB (zAA (qM _ rfl (qF bb 0 3 rfl underlying26 rfl zAv rfl (qV (zAG rfl zAm (Bb.cell rfl)) (qV (zBA rfl rfl) (zAB (qC rfl (fun bu=>?_) (fun bu=>?_)))))))))))))))
    ·obtain ⟨o9,bh⟩:∃o9,o9=catO cs.length D d:=⟨_,rfl⟩;refine zAF (qV (zAP (vs:=[(I6 D.start),(.slice pa D.accept.length pc),(.slice qa D.next.length qc)]) rfl zBC zAi rfl (Bo.cells rfl)) (qV (zAP (vs:=[(I6 d.start),(.slice ea d.accept.length ec),(.slice na d.next.length nc)]) rfl zBC zAi rfl (Ba.cells rfl)) ?_));obtain ⟨n8,bd⟩:∃n8,n8=(av).heap.size:=⟨_,rfl⟩;have ch:bo<n8∧br<n8∧w0.heap.size≤n8:=⟨by rw[bd];exact Bo.lt,by rw[bd];exact Br.lt,by rw[bd];exact E.size⟩;refine qE rfl (zAU func154 kQ kQ rfl) ((zRx _ cs.length D d _ _ gD gd bj.at' hA.at' hc).mono (R':=fun r w'=>opG cs.length (fun b=>w0.heap.size≤b∧b≠bo∧b≠br) o9 r w'∧Ext _ w') (fun r w' h=>⟨by rw[bh];exact h.1.mono fun b hb=>⟨by have:=hb.1;omega,by have:=hb.1;omega,by have:=hb.1;omega⟩,h.2⟩)) ?_;rintro _ cx ⟨⟨s9,a7,a6,a9,a5,rfl,cn⟩,an⟩;replace hT:=an.keep hT;replace Bb:=an.keep Bb;replace Br:=an.keep Br;replace Ba:=an.keep Ba;replace ae:=an.keep ae;replace Bo:=an.keep Bo;replace E:=E.ext an;refine qV (zAb rfl rfl) (qV (zAb rfl rfl) (zBX rfl rfl qD (zAU func153 kQ kQ rfl) (zIQ _ o9.isSome s9.start a7 a6 s9.accept.length a9 s9.next.length a5) (fun w' h=>And.intro rfl ⟨b8.trans (zIF (k:=k+1) (by rw[repK,hf,Option.bind_some,if_pos bu];exact bh.symm.trans (Option.not_isSome_iff_eq_none.1 (by rw[h.1];decide))) _ qO),E.ext h.2⟩) ?_));rintro _ de ⟨⟨cb,rfl⟩,ag⟩;replace hT:=ag.keep hT;replace Bb:=ag.keep Bb;replace Br:=ag.keep Br;replace Ba:=ag.keep Ba;replace ae:=ag.keep ae;replace Bo:=ag.keep Bo;replace E:=E.ext ag;obtain ⟨D9,a8⟩:=Option.isSome_iff_exists.1 cb;obtain ⟨b7,cj,b4⟩:=cn D9 a8;rw[b7] at a8;have be:=b4.ext ag;replace hA:=(hA.ext an).ext ag;replace hM:=(hM.ext an).ext ag;refine zAa (b:=bo) (o:=0) (c':=#[(I6 s9.start),(.slice a7 s9.accept.length a9),(.slice a6 s9.next.length a5)]) rfl rfl qS zAi rfl Bo qL rfl ?_;intro w13 ax;replace hA:=hA.put ax.chg (fun y hy h=>hy.2.1 h);replace hM:=hM.put ax.chg (fun y hy h=>hy.2.1 h);replace be:=be.put ax.chg (fun y hy h=>hy.2.1 h);replace hT:=ax.keep qO hT;replace Bb:=ax.keep qO Bb;replace Br:=ax.keep qO Br;replace Ba:=ax.keep qO Ba;replace ae:=ax.keep qO ae;replace E:=ax.step E qQ;replace Bo:=ax.blk;refine zAB (zAS (zAC (zAF (qV (zAw rfl rfl (zBf qO)) (qM _ rfl (zAB (zAC ?_)))))));exact ⟨x.mx.toNat - (k+1),qO,k+1,s9,a7,a6,a9,a5,zAs.out ⟨rfl,rfl,rfl,rfl,rfl,rfl,rfl,trivial⟩,E,hT,Bb,Br,Ba,ae,Bo,qO,(by rw[repK,hf,Option.bind_some,if_pos bu];exact bh.symm.trans a8),cj,be,hA,hM,rfl⟩
    ·obtain ⟨o9,bh⟩:∃o9,o9=catO cs.length D ad:=⟨_,rfl⟩;refine zAF (qV (zAP (vs:=[(I6 D.start),(.slice pa D.accept.length pc),(.slice qa D.next.length qc)]) rfl zBC zAi rfl (Bo.cells rfl)) (qV (zAP (vs:=[(I6 ad.start),(.slice aj ad.accept.length ak),(.slice al ad.next.length am)]) rfl zBC zAi rfl (ae.cells rfl)) ?_));obtain ⟨n8,bd⟩:∃n8,n8=(av).heap.size:=⟨_,rfl⟩;have ch:bo<n8∧br<n8∧w0.heap.size≤n8:=⟨by rw[bd];exact Bo.lt,by rw[bd];exact Br.lt,by rw[bd];exact E.size⟩;refine qE rfl (zAU func154 kQ kQ rfl) ((zRx _ cs.length D ad _ _ gD co bj.at' hM.at' hc).mono (R':=fun r w'=>opG cs.length (fun b=>w0.heap.size≤b∧b≠bo∧b≠br) o9 r w'∧Ext _ w') (fun r w' h=>⟨by rw[bh];exact h.1.mono fun b hb=>⟨by have:=hb.1;omega,by have:=hb.1;omega,by have:=hb.1;omega⟩,h.2⟩)) ?_;rintro _ cx ⟨⟨s9,a7,a6,a9,a5,rfl,cn⟩,an⟩;replace hT:=an.keep hT;replace Bb:=an.keep Bb;replace Br:=an.keep Br;replace Ba:=an.keep Ba;replace ae:=an.keep ae;replace Bo:=an.keep Bo;replace E:=E.ext an;refine qV (zAb rfl rfl) (qV (zAb rfl rfl) (zBX rfl rfl qD (zAU func153 kQ kQ rfl) (zIQ _ o9.isSome s9.start a7 a6 s9.accept.length a9 s9.next.length a5) (fun w' h=>And.intro rfl ⟨b8.trans (zIF (k:=k+1) (by rw[repK,hf,Option.bind_some,if_neg bu];exact bh.symm.trans (Option.not_isSome_iff_eq_none.1 (by rw[h.1];decide))) _ qO),E.ext h.2⟩) ?_));rintro _ de ⟨⟨cb,rfl⟩,ag⟩;replace hT:=ag.keep hT;replace Bb:=ag.keep Bb;replace Br:=ag.keep Br;replace Ba:=ag.keep Ba;replace ae:=ag.keep ae;replace Bo:=ag.keep Bo;replace E:=E.ext ag;obtain ⟨D9,a8⟩:=Option.isSome_iff_exists.1 cb;obtain ⟨b7,cj,b4⟩:=cn D9 a8;rw[b7] at a8;have be:=b4.ext ag;replace hA:=(hA.ext an).ext ag;replace hM:=(hM.ext an).ext ag;refine zAa (b:=bo) (o:=0) (c':=#[(I6 s9.start),(.slice a7 s9.accept.length a9),(.slice a6 s9.next.length a5)]) rfl rfl qS zAi rfl Bo qL rfl ?_;intro w14 aw;replace hA:=hA.put aw.chg (fun y hy h=>hy.2.1 h);replace hM:=hM.put aw.chg (fun y hy h=>hy.2.1 h);replace be:=be.put aw.chg (fun y hy h=>hy.2.1 h);replace hT:=aw.keep qO hT;replace Bb:=aw.keep qO Bb;replace Br:=aw.keep qO Br;replace Ba:=aw.keep qO Ba;replace ae:=aw.keep qO ae;replace E:=aw.step E qQ;replace Bo:=aw.blk;refine zAB (zAS (zAC (zAF (qV (zAw rfl rfl (zBf qO)) (qM _ rfl (zAB (zAC ?_)))))));exact ⟨x.mx.toNat - (k+1),qO,k+1,s9,a7,a6,a9,a5,zAs.out ⟨rfl,rfl,rfl,rfl,rfl,rfl,rfl,trivial⟩,E,hT,Bb,Br,Ba,ae,Bo,qO,(by rw[repK,hf,Option.bind_some,if_neg bu];exact bh.symm.trans a8),cj,be,hA,hM,rfl⟩
   ·have dd:k=x.mx.toNat:=qO
    refine zAl (zAV (zAV (zAf (zAC (zAA (qV (zAP (vs:=[(I6 D.start),(.slice pa D.accept.length pc),(.slice qa D.next.length qc)]) rfl zBC zAi rfl (Bo.cells rfl)) (zAa (b:=br) (o:=0) (c':=#[(I6 D.start),(.slice pa D.accept.length pc),(.slice qa D.next.length qc)]) rfl rfl qS zAi rfl Br qL rfl ?_)))))));intro w15 a1;replace bj:=bj.put a1.chg (fun y hy h=>hy.2.2 h);replace hT:=a1.keep qO hT;replace Bb:=a1.keep qO Bb;replace Ba:=a1.keep qO Ba;replace ae:=a1.keep qO ae;replace Bo:=a1.keep qO Bo;replace E:=a1.step E qQ;replace Br:=a1.blk;refine zAB (zAW (zAh (zAX (zCm (zBb results105 (vs:=[(.int .i64 D.start),(.slice pa D.accept.length pc),(.slice qa D.next.length qc)]) (b:=br) rfl zBC zAi rfl (Br.cells rfl) ?_)))));exact ⟨⟨D,b8.trans (by rw[←dd];exact hf),gD,_,_,_,_,rfl,(zBW.chg bj (Chg.refl zAe _) fun _ _ _ f=>f).mono fun b hb=>⟨hb.1.1,hb.2⟩⟩,E⟩
theorem zXX (cs:List (List Sp)) (hc:1≤cs.length∧cs.length≤16) (hne:∀l∈cs,l≠[]):∀(n:Nat) (t:Re),t.size≤n→n≤1000000→zDo t→zJK cs.length cs t:=by
  intro n
  induction n with
  | zero=>intro t h;have:=t.size_pos;omega
  | succ n ih=>
  intro t hn hb ab;have hN:=zHt (zED ab);have hla:=zMz t;have aa:∀y∈t.args,zJK cs.length cs y:=fun y hy=>by
    obtain ⟨i,hi⟩:=List.getElem?_of_mem hy;have h1:=Re.size_arg hi;exact ih y qO qO (zIO (zEE ab) hi)
  refine zXw _ _ _ ?_;have hk:=hN.k;by_cases h1:t.kind=1
  · exact zVa cs t hc hN h1
  by_cases h2:t.kind=2
  · exact zVZ cs t hc h2 hne
  by_cases h3:t.kind=3
  · exact zVY cs t hc hN h3 qO aa
  by_cases h4:t.kind=4
  · exact zVX cs t hc hN h4 qO aa
  by_cases h5:t.kind=5
  · exact zVW cs t hc hN h5 aa
  by_cases h6:t.kind=6
  · exact zVV cs t hc hN h6 aa
  by_cases h7:t.kind=7
  · exact zVU cs t hc hN h7 qO aa
  by_cases h8:t.kind=8
  · exact zVT cs t hc hN h8 aa
  by_cases h9:t.kind=9
  · exact zVS cs t hc hN h9 aa
  exact zVb cs t hc hN qO
end Go.Proofs
namespace Go.Proofs
open Go Go.Eng Go.Sort
set_option maxRecDepth 100000
theorem zKj (A:Lg) (w:List Int):zFo A zLc w↔A w:=
 ⟨fun ⟨u,v,h1,h2,h3⟩=>by rw[h1,show v=[] from h3,List.append_nil];exact h2,fun h=>⟨w,[],(List.append_nil w).symm,h,rfl⟩⟩
theorem zHF (A B C:Lg) (w:List Int):zFo (zFo A B) C w↔zFo A (zFo B C) w:=by
 constructor
 ·rintro ⟨_,z,rfl,⟨x,y,rfl,hx,hy⟩,hz⟩;exact ⟨x,y++z,List.append_assoc ..,hx,y,z,rfl,hy,hz⟩
 ·rintro ⟨x,_,rfl,hx,y,z,rfl,hy,hz⟩;exact ⟨x++y,z,(List.append_assoc ..).symm,⟨x,y,rfl,hx,hy⟩,hz⟩
theorem zEA (A:Lg):∀(n:Nat) (w:List Int),zFo (zOy A n) A w↔zOy A (n+1) w
  | 0,w=>by
    show zFo zLc A w↔zFo A zLc w;rw[zKj];exact ⟨fun ⟨u,v,h1,h2,h3⟩=>by rw[h1,show u=[] from h2,List.nil_append];exact h3,fun h=>⟨[],w,rfl,rfl,h⟩⟩
  | n+1,w=>by
    show zFo (zFo A (zOy A n)) A w↔zFo A (zOy A (n+1)) w;rw[zHF];constructor
    · rintro ⟨u,v,h1,h2,h3⟩;exact ⟨u,v,h1,h2,(zEA A n v).1 h3⟩
    · rintro ⟨u,v,h1,h2,h3⟩;exact ⟨u,v,h1,h2,(zEA A n v).2 h3⟩
section
variable {c : Nat} {cs : List (List Sp)}
theorem zID {t:Re} {ts:List Re} {ds:List Dfa} (h:trL c cs (t::ts)=some ds):∃d l,ds=d::l∧trO c cs t=some d∧trL c cs ts=some l:=by
  rw[zEo] at h;cases e:trO c cs t with
  | none=>rw[e] at h;cases h
  | some d=>
    rw[e] at h;cases e2:trL c cs ts with
    | none=>rw[e2] at h;cases h
    | some l=>rw[e2] at h;simp only[Option.bind_some,Option.map_some,Option.some.injEq] at h;exact ⟨d,l,h.symm,rfl,rfl⟩
def zZb (c:Nat) (cs:List (List Sp)) (ts:List Re):Prop:=∀y∈ts,∀d,trO c cs y=some d→zHR c cs d (zJx y)
theorem zJl {k:Int} {d e x:Dfa} {l:List Dfa} (h:foldK c k d (x::l)=some e):∃d',opK c k d x=some d'∧foldK c k d' l=some e:=by
  simp only[foldK] at h;cases h1:opK c k d x with
  | none=>rw[h1] at h;cases h
  | some d'=>rw[h1] at h;exact ⟨d',rfl,h⟩
theorem zGa (k:Int) (op:Lg→Lg→Lg) (comb:Lg→List Lg→Lg) (h0:∀A w,comb A [] w↔A w) (h1:∀A B l w,comb (op A B) l w↔comb A (B::l) w) (hop:∀(a b d:Dfa) (A B:Lg),zHR c cs a A→zHR c cs b B→opK c k a b=some d→zHR c cs d (op A B)) :
    ∀(ts:List Re) (ds:List Dfa) (d e:Dfa) (A:Lg),zZb c cs ts→trL c cs ts=some ds→zHR c cs d A→foldK c k d ds=some e→zHR c cs e (comb A (ts.map zJx))
  | [],ds,d,e,A,_,hd,ha,he=>by
    simp only[trL,Option.some.injEq] at hd;subst hd;simp only[foldK,Option.some.injEq] at he;subst he;exact zMc.congr ha fun w _=>(h0 A _).symm
  | t::ts,ds,d,e,A,hall,hd,ha,he=>by
    obtain ⟨x,l,rfl,hx,hl⟩:=zID hd;obtain ⟨d',h2,h3⟩:=zJl he;have hb:=hop d x d' A (zJx t) ha (hall t List.mem_cons_self x hx) h2;exact zMc.congr (zGa k op comb h0 h1 hop ts l d' e _ (fun y hy=>hall y (List.mem_cons_of_mem _ hy)) hl hb h3) fun w _=>h1 A (zJx t) _ _
theorem zNk {mn:Int} {d m:Dfa} {A:Lg} (h0:0≤mn) (hd:zHR c cs d A) (hm:zHR c cs m fun r=>A r∨zLc r):∀(k:Nat) (e:Dfa),repK c mn d m k=some e→zHR c cs e fun r=>∃n:Nat,n≤k∧min mn ((k:Nat):Int)≤((n:Nat):Int)∧zOy A n r
  | 0,e,h=>by
    simp only[repK,Option.some.injEq] at h;subst h;refine zMc.congr zHI fun w _=>⟨fun h=>⟨0,Nat.le_refl _,qO,h⟩,fun ⟨n,h1,_,h3⟩=>?_⟩;rw[show n=0 by omega] at h3;exact h3
  | k+1,e,h=>by
    rw[repK] at h;cases ho:repK c mn d m k with
    | none=>rw[ho] at h;cases h
    | some o=>
      rw[ho] at h;have hR:=zNk h0 hd hm k o ho;by_cases hk:((k:Nat):Int)<mn
      · rw[if_pos hk] at h;refine zMc.congr (zKl hR hd h) fun w _=>⟨?_,?_⟩
        · rintro ⟨u,v,h1,⟨n,h2,h3,h4⟩,h5⟩;exact ⟨n+1,qO,qO,(zEA A n _).1 ⟨u,v,h1,h4,h5⟩⟩
        · rintro ⟨n,h1,h2,h3⟩;obtain rfl:n=k+1:=qO
          obtain ⟨u,v,h4,h5,h6⟩:=(zEA A k _).2 h3;exact ⟨u,v,h4,⟨k,Nat.le_refl _,qO,h5⟩,h6⟩
      · rw[if_neg hk] at h;refine zMc.congr (zKl hR hm h) fun w _=>⟨?_,?_⟩
        · rintro ⟨u,v,h1,⟨n,h2,h3,h4⟩,h5⟩;rcases h5 with h5|h5
          · exact ⟨n+1,qO,qO,(zEA A n _).1 ⟨u,v,h1,h4,h5⟩⟩
          · rw[h1,show v=[] from h5,List.append_nil];exact ⟨n,qO,qO,h4⟩
        · rintro ⟨n,h1,h2,h3⟩;by_cases hn:n=k+1
          · subst hn;obtain ⟨u,v,h4,h5,h6⟩:=(zEA A k _).2 h3;exact ⟨u,v,h4,⟨k,Nat.le_refl _,qO,h5⟩,.inl h6⟩
          · exact ⟨_,[],(List.append_nil _).symm,⟨n,qO,qO,h3⟩,.inr rfl⟩
theorem zMO (A:Lg) (l:List Lg) (w:List Int):zVH (A::l) w↔A w∨zVH l w:=by simp[zVH]
theorem zMR (A:Lg) (l:List Lg) (w:List Int):zVI (A::l) w↔A w∧zVI l w:=by simp[zVI]
theorem zGW {o:Option Dfa} {d:Dfa} (h:zXI o=some d):o=some d:=by
  cases o with
  | none=>cases h
  | some x=>
    simp only[zXI,Option.bind_some] at h;split at h
    · cases h
    · exact h
theorem zCe {α β:Type} {o:Option α} {f:α→Option β} {b:β} (h:o.bind f=some b):∃a,o=some a∧f a=some b:=by
  cases o with
  | none=>cases h
  | some a=>exact ⟨a,rfl,h⟩
theorem zSb (hc:c=cs.length):∀(n:Nat) (t:Re),t.size≤n→zDo t→∀d,trN c cs t=some d→zHR c cs d (zJx t):=by
  intro n
  induction n with
  | zero=>intro t h;have:=t.size_pos;omega
  | succ n ih=>
  intro t hn ag d h;have hN:=zHt (zED ag);have aa:zZb c cs t.args:=fun y hy e he=>by
    obtain ⟨i,hi⟩:=List.getElem?_of_mem hy;have h1:=Re.size_arg hi;exact ih y qO (zIO (zEE ag) hi) e (zGW he)
  have ad:t.args.length=1→∃y,t.args[0]?=some y∧t.args=[y]:=fun h1=>by
    obtain ⟨y,hy⟩:=zAJ (l:=t.args) (i:=0) qO;exact ⟨y,hy,zOa h1 hy⟩
  have hk:=hN.k;rw[zNA];by_cases h1:t.kind=1
  · rw[zVd h1] at h;rw[←Option.some.inj h,h1];exact zHI
  by_cases h2:t.kind=2
  · rw[zSe h2] at h;rw[h2];exact zUP hc h
  by_cases hl:t.kind=3∨t.kind=4∨t.kind=7
  · have ae:=hN.two qO;cases hL:trL c cs t.args with
    | none=>rw[zHT hl hL] at h;cases h
    | some ds=>
      match hargs:t.args,aa,hL with
      | [],_,_=>rw[hargs] at ae;simp at ae
      | x::xs,aa,hL=>
        have ah:=hL;obtain ⟨a,l,rfl,ha,af⟩:=zID hL;rw[zPy hl (by rw[hargs];exact ah)] at h;have hA:=aa x List.mem_cons_self a ha;have ab:zZb c cs xs:=fun y hy=>aa y (List.mem_cons_of_mem _ hy);rw[List.map_cons];rcases hl with h3|h3|h3
        · rw[h3] at h⊢;exact zGa 3 zFo (fun A L=>zFo A (zJG L)) (fun A w=>zKj A w) (fun A B l w=>zHF A B _ w) (fun a b d A B ha hb ho=>zKl ha hb (by rw[←zWB rfl];exact ho)) xs l a d (zJx x) ab af hA h
        · rw[h3] at h⊢;refine zMc.congr (zGa 4 (fun A B r=>A r∨B r) (fun A L r=>A r∨zVH L r) (fun A w=>by simp[zVH]) (fun A B l w=>by rw[zMO];exact or_assoc) (fun a b d A B ha hb ho=>?_) xs l a d (zJx x) ab af hA h) fun w _=>(zMO _ _ _).symm;have:=zKk false ha hb (by rw[zPB qD] at ho;exact ho);simpa using this
        · rw[h3] at h⊢;refine zMc.congr (zGa 7 (fun A B r=>A r∧B r) (fun A L r=>A r∧zVI L r) (fun A w=>by simp[zVI]) (fun A B l w=>by rw[zMR];exact and_assoc) (fun a b d A B ha hb ho=>?_) xs l a d (zJx x) ab af hA h) fun w _=>(zMR _ _ _).symm;have:=zKk true ha hb (by rw[zPB qD] at ho;exact ho);simpa using this
  by_cases h5:t.kind=5
  · have ho:=hN.one qO;obtain ⟨y,hy,ac⟩:=ad ho;rw[zQA h5 ho hy] at h;obtain ⟨a,ha,h⟩:=zCe h;rw[h5,ac];exact zSJ (aa y (by rw[ac];exact List.mem_cons_self) a ha) h
  by_cases h6:t.kind=6
  · have ho:=hN.one qO;have hr:=hN.rep h6;obtain ⟨y,hy,ac⟩:=ad ho;rw[zPz h6 ho hy] at h;obtain ⟨a,ha,h⟩:=zCe h;obtain ⟨m,hm,h⟩:=zCe h;have hA:=aa y (by rw[ac];exact List.mem_cons_self) a ha;have hM:=zKk false hA zHI hm;rw[h6,ac];refine zMc.congr (zNk hr.1 hA (by simpa using hM) _ _ h) fun w _=>?_;show (∃n:Nat,_)↔∃n:Nat,_;constructor
    · rintro ⟨n,h7,h8,h9⟩;exact ⟨n,qO,qO,h9⟩
    · rintro ⟨n,h7,h8,h9⟩;exact ⟨n,qO,qO,h9⟩
  by_cases h8:t.kind=8
  · have ho:=hN.one qO;obtain ⟨y,hy,ac⟩:=ad ho;rw[zSd h8 ho hy] at h;obtain ⟨a,ha,h⟩:=zCe h;rw[h8,ac];exact zUQ (aa y (by rw[ac];exact List.mem_cons_self) a ha) h
  by_cases h9:t.kind=9
  · have ho:=hN.one qO;obtain ⟨y,hy,ac⟩:=ad ho;rw[zSc h9 ho hy] at h;rw[h9,ac];exact aa y (by rw[ac];exact List.mem_cons_self) d h
  rw[zVe qO] at h;rw[←Option.some.inj h];unfold zNB;rw[if_neg h1,if_neg h2,if_neg qO,if_neg qO,if_neg qO,if_neg h8,if_neg h5,if_neg h6,if_neg h9];exact zSK
theorem zNX (hc:c=cs.length) {t:Re} (hok:zDo t) {d:Dfa} (h:trO c cs t=some d):zHR c cs d (zJx t):=zSb hc _ t (Nat.le_refl _) hok d (zGW h)
end
end Go.Proofs
namespace Go.Proofs
open Go Go.Eng Go.Sort
set_option maxRecDepth 100000
def zFG (A:Lg):Lg:=fun w=>A w.reverse
theorem zFC {A B:Lg} (h:∀w,A w↔B w):A=B:=funext fun w=>propext (h w)
theorem zNj (A B:Lg):zFG (zFo A B)=zFo (zFG B) (zFG A):=zFC fun w=>by
 constructor
 ·rintro ⟨u,v,h,ha,hb⟩;have h2:=congrArg List.reverse h;rw[List.reverse_reverse,List.reverse_append] at h2;exact ⟨v.reverse,u.reverse,h2,by show B _;rw[List.reverse_reverse];exact hb,by show A _;rw[List.reverse_reverse];exact ha⟩
 ·rintro ⟨u,v,rfl,hb,ha⟩;exact ⟨v.reverse,u.reverse,List.reverse_append,ha,hb⟩
theorem zKH:zFG zLc=zLc:=zFC fun w=>by simp[zFG,zLc]
theorem zSt (s:List (Int×Int)):zFG (zXe s)=zXe s:=zFC fun w=>by
 constructor
 ·rintro ⟨c,h1,h2⟩;have h3:=congrArg List.reverse h1;rw[List.reverse_reverse] at h3;exact ⟨c,h3,h2⟩
 ·rintro ⟨c,rfl,h2⟩;exact ⟨c,rfl,h2⟩
theorem zWp (A B C:Lg):zFo (zFo A B) C=zFo A (zFo B C):=zFC (zHF A B C)
theorem zRy (A:Lg):zFo A zLc=A:=zFC (zKj A)
theorem zRz (A:Lg):zFo zLc A=A:=zFC fun w=>⟨fun ⟨u,v,h1,h2,h3⟩=>by rw[h1,show u=[] from h2,List.nil_append];exact h3,fun h=>⟨[],w,rfl,rfl,h⟩⟩
theorem zJr (A:Lg):∀L:List Lg,zJG (L++[A])=zFo (zJG L) A
  | []=>by show zFo A zLc=zFo zLc A;rw[zRy,zRz]
  | B::L=>by show zFo B (zJG (L++[A]))=zFo (zFo B (zJG L)) A;rw[zJr A L,zWp]
theorem zLL:∀L:List Lg,zFG (zJG L)=zJG (L.map zFG).reverse
  | []=>zKH
  | A::L=>by
    rw[List.map_cons,List.reverse_cons,zJr,←zLL L];exact zNj A (zJG L)
theorem zKG (A:Lg):∀n:Nat,zFG (zOy A n)=zOy (zFG A) n
  | 0=>zKH
  | n+1=>by
    show zFG (zFo A (zOy A n))=zOy (zFG A) (n+1);rw[zNj,zKG A n];exact zFC (zEA (zFG A) n)
theorem zSv (A:Lg) (m x:Int):zFG (zZB A m x)=zZB (zFG A) m x:=zFC fun w=>by
 show (∃n:Nat,_∧_∧zOy A n w.reverse)↔∃n:Nat,_∧_∧zOy (zFG A) n w;constructor
 ·rintro ⟨n,h1,h2,h3⟩;exact ⟨n,h1,h2,by rw[←zKG];exact h3⟩
 ·rintro ⟨n,h1,h2,h3⟩;exact ⟨n,h1,h2,by rw[←zKG] at h3;exact h3⟩
theorem zQI {A:Lg} {u v:List Int} (h:starG A u) (k:starG A v):starG A (u++v):=by
  induction h with
  | nil=>exact k
  | cons hu _ ih=>rw[List.append_assoc];exact .cons hu ih
theorem zQH {A:Lg} {u:List Int} (h:A u):starG A u:=by
 have:=starG.cons h .nil
 rwa [List.append_nil] at this
theorem zNb {A:Lg} {w:List Int} (h:starG A w):starG (zFG A) w.reverse:=by
  induction h with
  | nil=>exact .nil
  | @cons u v hu _ ih=>
    rw[List.reverse_append];exact zQI ih (zQH (by show A _;rw[List.reverse_reverse];exact hu))
theorem zSu (A:Lg):zFG (zFG A)=A:=zFC fun w=>by unfold zFG;rw[List.reverse_reverse]
theorem zQZ (A:Lg):zFG (starG A)=starG (zFG A):=zFC fun w=>by
 constructor
 ·intro h;have:=zNb (show starG A w.reverse from h)
  rwa [List.reverse_reverse] at this
 ·intro h;have:=zNb h
  rwa [zSu] at this
theorem zSw (L:List Lg):zFG (zVH L)=zVH (L.map zFG):=zFC fun w=>
 ⟨fun ⟨A,h1,h2⟩=>⟨zFG A,List.mem_map.2 ⟨A,h1,rfl⟩,h2⟩,fun ⟨_,h1,h2⟩=>by obtain ⟨A,h3,rfl⟩:=List.mem_map.1 h1;exact ⟨A,h3,h2⟩⟩
theorem zSx (L:List Lg):zFG (zVI L)=zVI (L.map zFG):=zFC fun w=>
 ⟨fun h _ h1=>by obtain ⟨A,h3,rfl⟩:=List.mem_map.1 h1;exact h A h3,fun h A h1=>h (zFG A) (List.mem_map.2 ⟨A,h1,rfl⟩)⟩
theorem zRO (L:List Lg):(L.map zFG).headD noL=zFG (L.headD noL):=by cases L<;>rfl
theorem zOw (k:Int) (s:List (Int×Int)) (L:List Lg) (m x:Int):zFG (zNB k s L m x)=zNB k s (if k=3 then (L.map zFG).reverse else L.map zFG) m x:=by
 unfold zNB;split;exact zKH;split;exact zSt s;split
 ·exact zLL L
 split;exact zSw L;split;exact zSx L;rw[zRO];split;rfl;split;exact zQZ _;split;exact zSv _ m x;split;rfl;rfl
theorem zTb:∀(n:Nat) (t:Re),t.size≤n→zJx (zBy t)=zFG (zJx t):=by
  intro n
  induction n with
  | zero=>intro t h;have:=t.size_pos;omega
  | succ n ih=>
  intro t hn;have hm:(t.args.map zBy).map zJx=(t.args.map zJx).map zFG:=by
    rw[List.map_map,List.map_map];refine List.map_congr_left fun y hy=>?_;obtain ⟨i,hi⟩:=List.getElem?_of_mem hy;have h1:=Re.size_arg hi;exact ih y qO
  rw[zNA (zBy t),zNA t,zOw,zMl];show zNB t.kind t.set ((zJD t.kind (t.args.map zBy)).map zJx) t.mn t.mx=_;congr 1;unfold zJD;split
  · rw[List.map_reverse,hm]
  · exact hm
end Go.Proofs
namespace Go.Proofs
open Go Go.Eng
set_option maxRecDepth 100000
theorem zVK.ext {S:Nat→Prop} {w w':World} {v:Value} {ts:List Re} (h:zVK S w v ts) (e:Ext w w'):zVK S w' v ts:=by
 obtain ⟨aa,ac,h1,h2,h3⟩:=h;refine ⟨aa,ac,h1,h2,?_⟩;rcases h3 with h|⟨b,o,hb,h4,h5⟩
 ·exact .inl h
 ·exact .inr ⟨b,o,hb,h4,zCO.chg e (fun _ _ f=>f) ts hb h5⟩
theorem zTB (S:Nat→Prop) (w:World) (k:Int):zBs S w (.mk k [] [] 0 0 false) [.int .i64 k,.slice none 0 0,.slice none 0 0,.int .i64 0,.int .i64 0,.bool false]:=
 zBs.of (zDk.nil _ _ _ _ _) qP (.inl rfl)
end Go.Proofs
namespace Go.Proofs
open Go Go.Eng
set_option maxRecDepth 100000
theorem zBU.chg {S M:Nat→Prop} {w w':World} (c:Chg M w w') (hm:∀b,S b→¬M b):∀{ts:List Re} {rows:List (List Value)},zBU S w ts rows→zBU S w' ts rows
  | [],_,h=>h
  | t::ts,rows,h=>by
    obtain ⟨r,rs,h1,h2,h3⟩:=h;exact ⟨r,rs,h1,zBs.chg c hm t h2,zBU.chg c hm h3⟩
theorem zBU.mono {S S':Nat→Prop} {w:World} (hs:∀b,S b→S' b):∀{ts:List Re} {rows:List (List Value)},zBU S w ts rows→zBU S' w ts rows
  | [],_,h=>h
  | t::ts,rows,h=>by
    obtain ⟨r,rs,h1,h2,h3⟩:=h;exact ⟨r,rs,h1,zBs.mono hs t h2,zBU.mono hs h3⟩
def NSt (f:Re→Re) (Z L:Nat→Prop) (n0:Nat) (w:World) (aa:Option Addr) (args:List Re) (k:Nat):Prop:=
 args=[]∨∃(b:Nat) (rows:List (List Value)) (rest:List Value) (D K:Nat→Prop),aa=some ⟨b,0,none⟩∧L b∧Blk w b (rows.flatten++rest).toArray TRe∧zBU (fun y=>Z y∨D y∨n0≤y) w ((args.take k).map f) (rows.take k)∧zBg Z w (args.drop k) (rows.drop k) K∧rows.length=args.length∧(∀r∈rows,r.length=6)∧(∀y,D y→L y∧y≠b∧¬K y)∧(∀y,K y→L y∧y≠b)
theorem NSt.ext {f:Re→Re} {Z L:Nat→Prop} {n0:Nat} {w w':World} {aa:Option Addr} {args:List Re} {k:Nat} (h:NSt f Z L n0 w aa args k) (e:Ext w w'):NSt f Z L n0 w' aa args k:=by
 rcases h with h|⟨b,ac,ab,D,K,h1,h2,h3,h4,h5,h6⟩
 ·exact .inl h
 ·exact .inr ⟨b,ac,ab,D,K,h1,h2,e.keep h3,h4.ext e,zBg.ext e _ h5,h6⟩
theorem zTS {f:Re→Re} {Z L D K L1 K2:Nat→Prop} {n0 b k:Nat} {w1 w2 w3:World} {args:List Re} {rows:List (List Value)} {rest:List Value} {x:Re} {vs':List Value}
  (hz:∀y,Z y→¬L y) (hb:∀y,Z y∨L y→y<n0) (hLb:L b) (hx:args[k]?=some x)
  (hR:zBU (fun y=>Z y∨D y∨n0≤y) w1 ((args.take k).map f) (rows.take k)) (hT2:zBg Z w1 (args.drop (k+1)) (rows.drop (k+1)) K2) (hl:rows.length=args.length) (h6:∀r∈rows,r.length=6)
  (hD:∀y,D y→L y∧y≠b∧¬K y) (hK:∀y,K y→L y∧y≠b) (h1:∀y,L1 y→K y∧¬K2 y) (h2:∀y,K2 y→K y)
  (C:Chg L1 w1 w2) (hv:zBs (fun y=>Z y∨L1 y∨n0≤y) w2 (f x) vs') (P3:Put w2 w3 b ((rows.set k vs').flatten++rest).toArray TRe):NSt f Z L n0 w3 (some ⟨b,0,none⟩) args (k+1):=by
 have hk:k<args.length:=zAE hx;have hbn:=hb b (.inr hLb);have ab:∀y,L1 y→L y:=fun y hy=>(hK y (h1 y hy).1).1;refine .inr ⟨b,rows.set k vs',rest,fun y=>D y∨L1 y,K2,rfl,hLb,P3.blk,?_,?_,by simpa using hl,?_,?_,fun y hy=>hK y (h2 y hy)⟩
 ·have e1:(args.take (k+1)).map f=(args.take k).map f++[f x]:=by rw[List.take_add_one,hx];simp
  have e2:(rows.set k vs').take (k+1)=rows.take k++[vs']:=by
   rw[List.take_add_one,List.take_set_of_le (Nat.le_refl _),List.getElem?_set_self qO];rfl
  rw[e1,e2];refine zBU.append (zBU.single ?_) ?_
  ·refine zBs.mono (S:=fun y=>Z y∨L1 y∨n0≤y) (fun y hy=>by rcases hy with h|h|h;exact .inl h;exact .inr (.inl (.inr h));exact .inr (.inr h)) _ (zBs.chg P3.chg (fun y hy he=>?_) _ hv);have aa:y=b:=he;subst aa;rcases hy with h|h|h
   ·exact hz y h hLb
   ·exact (hK y (h1 y h).1).2 rfl
   ·omega
  ·refine zBU.mono (S:=fun y=>Z y∨D y∨n0≤y) (fun y hy=>by rcases hy with h|h|h;exact .inl h;exact .inr (.inl (.inl h));exact .inr (.inr h)) (zBU.chg P3.chg (fun y hy he=>?_) (zBU.chg C (fun y hy he=>?_) hR))
   ·have aa:y=b:=he;subst aa;rcases hy with h|h|h
    ·exact hz y h hLb
    ·exact (hD y h).2.1 rfl
    ·omega
   ·rcases hy with h|h|h
    ·exact hz y h (ab y he)
    ·exact (hD y h).2.2 (h1 y he).1
    ·have:=hb y (.inr (ab y he));omega
 ·have e3:(rows.set k vs').drop (k+1)=rows.drop (k+1):=by rw[List.drop_set_of_lt qO]
  rw[e3];refine zBg.chg P3.chg (fun y hy he=>?_) _ (fun y hy he=>?_) (zBg.chg C (fun y hy he=>hz y hy (ab y he)) _ (fun y hy he=>(h1 y he).2 hy) hT2)
  ·have aa:y=b:=he;subst aa;exact hz y hy hLb
  ·exact (hK y (h2 y hy)).2 he
 ·intro r hr;rcases List.mem_or_eq_of_mem_set hr with h|h
  ·exact h6 r h
  ·rw[h];exact hv.len
 ·intro y hy;rcases hy with h|h
  ·exact ⟨(hD y h).1,(hD y h).2.1,fun h3=>(hD y h).2.2 (h2 y h3)⟩
  ·exact ⟨ab y h,(hK y (h1 y h).1).2,(h1 y h).2⟩
theorem zQr {f:Re→Re} {Z L:Nat→Prop} {n0:Nat} {w:World} {aa:Option Addr} {args:List Re} (h:args=[]∨∃b rows rest L',L b∧aa=some ⟨b,0,none⟩∧Blk w b (rows.flatten++rest).toArray TRe∧(∀r∈rows,r.length=6)∧zBg Z w args rows L'∧(∀x,L' x→L x∧x≠b)):NSt f Z L n0 w aa args 0:=by
 rcases h with h|⟨b,rows,rest,L',h1,h2,h3,h4,h5,h6⟩
 ·exact .inl h
 ·exact .inr ⟨b,rows,rest,fun _=>False,L',h2,h1,h3,rfl,h5,h5.len,h4,fun _ f=>f.elim,h6⟩
theorem zWK {f:Re→Re} {Z L:Nat→Prop} {n0:Nat} {w:World} {aa:Option Addr} {ac:Nat} {args:List Re} (h:NSt f Z L n0 w aa args args.length) (hac:args.length≤ac∧ac≤9223372036854775807):zVK (fun y=>Z y∨L y∨n0≤y) w (.slice aa args.length ac) (args.map f):=by
 refine ⟨aa,ac,by rw[List.length_map],by rw[List.length_map];exact hac,?_⟩;rcases h with h|⟨b,ad,af,D,K,h1,h2,h3,h4,h5,h6,h7,h8,h9⟩
 ·left;rw[h];rfl
 ·refine .inr ⟨b,0,.inr (.inl h2),h1,zKJ fun i t ht=>?_⟩;rw[List.take_length,List.take_of_length_le qO] at h4;obtain ⟨r,ae,ab⟩:=h4.get ht;exact ⟨r,by rw[Nat.zero_add];exact zIE h3 h7 ae,zBs.mono (fun y hy=>by rcases hy with h|h|h;exact .inl h;exact .inr (.inl (h8 y h).1);exact .inr (.inr h)) t ab⟩
def zLZ (S:Nat→Prop) (t:Re):Fct:=fun v w=>∃vs,v=.agg vs.toArray∧zBs S w t vs
theorem zIP (S:Nat→Prop) (t:Re):∀v w w',Ext w w'→zLZ S t v w→zLZ S t v w':=by
 rintro v w w' e ⟨vs,h1,h2⟩;exact ⟨vs,h1,zBs.ext e t h2⟩
theorem zPD {S S':Nat→Prop} {t:Re} {v:Value} {w:World} (hs:∀y,S y→S' y) (h:zLZ S t v w):zLZ S' t v w:=by
 obtain ⟨vs,h1,h2⟩:=h;exact ⟨vs,h1,zBs.mono hs t h2⟩
theorem zXm {S S' Z:Nat→Prop} {w w':World} {k:Int} {set:List (Int×Int)} {a:List Re} {n bo:Nat} {mn mx:Int} {ng:Bool} {sa aa:Option Addr} {sc ac:Nat} (hs:zDk Z w 2 (.slice sa set.length sc) (set.map zBw)) (hzs:∀y,Z y→S y) (h:zVK S w (.slice aa n ac) a) (c:Chg (fun y=>y=bo) w w') (hne:∀y,S y→¬y=bo) (hmo:∀y,S y→S' y) :
  zBs S' w' (.mk k set a mn mx ng) [.int .i64 k,.slice sa set.length sc,.slice aa n ac,.int .i64 mn,.int .i64 mx,.bool ng]:=by
 obtain ⟨aa',ac',h1,h2,h3⟩:=h;simp only[Value.slice.injEq] at h1;obtain ⟨rfl,rfl,rfl⟩:=h1;refine zBs.mono hmo _ (zBs.chg c hne _ (zBs.of (hs.mono hzs) h2 h3))
theorem zRk {α:Type} {l r:List α} {k:Nat} {x:α} (h:l.drop k=x::r):l[k]?=some x∧r=l.drop (k+1):=by
 have h1:(l.drop k)[0]?=some x:=by rw[h];rfl
 rw[List.getElem?_drop] at h1;have h2:(l.drop k).drop 1=r:=by rw[h];rfl
 rw[List.drop_drop] at h2;exact ⟨by simpa using h1,h2.symm⟩
end Go.Proofs
namespace Go.Proofs
open Go Go.Eng Go.Sort
set_option maxRecDepth 100000
structure PreN (k:Int) (s:List (Int×Int)) (a:List Re) (m x:Int) (g:Bool):Prop where
 ks:k=0∨k=1∨k=2∨k=3∨k=4∨k=5∨k=6∨k=7∨k=8
 ng:g=false
 st:k≠2→s=[]
 mm:k≠6→m=0∧x=0
 k2:k=2→s≠[]∧zBO s=0
 none:k=0∨k=1∨k=2→a=[]
 one:k=5∨k=6∨k=8→a.length=1
 rep:k=6→0≤m∧m≤x∧x≤8
end Go.Proofs
namespace Go.Proofs
open Go Go.Eng Go.Sort
set_option maxRecDepth 100000
theorem zXq {t:Re} (h:zDo t) (h9:t.kind≠9) (h10:t.kind≠10) {a:List Re} (ha:a.length=t.args.length):PreN t.kind t.set a t.mn t.mx t.neg:=by
 have hn:=zED h;have hN:=zHt hn;have hf:=(zLX h).2.2;simp only[zFE,Bool.and_eq_true,Bool.or_eq_true,decide_eq_true_eq,Bool.not_eq_true'] at hf;obtain ⟨⟨⟨⟨f1,f2⟩,f3⟩,f4⟩,f5⟩:=hf;have hk:=hN.k;refine ⟨qO,?_,fun h2=>?_,fun h6=>⟨qO,qO⟩,fun h2=>⟨hN.sett h2,?_⟩,fun h0=>?_,fun h1=>by rw[ha];exact hN.one qO,fun h6=>hN.rep h6⟩
 ·rcases f5 with h|h
  ·exact absurd h h10
  ·exact h
 ·rcases f2 with h|h
  ·exact absurd h h2
  ·exact List.eq_nil_of_length_eq_zero qO
 ·unfold zCU at hn;split at hn
  ·cases hn
  split at hn
  ·cases hn
  first|rw[if_pos h2] at hn|skip
  by_cases hc:zBO t.set=0
  ·exact hc
  ·rw[if_pos hc] at hn;exact hn
 ·unfold okB at f1;rw[if_neg qO,if_neg qO] at f1;have:=of_decide_eq_true f1;exact List.eq_nil_of_length_eq_zero qO
end Go.Proofs
namespace Go.Proofs
open Go Go.Eng Go.Sort
set_option maxRecDepth 100000
mutual
def zIz (P:List (Int×Int)→Prop):Re→Prop
  | .mk k s a _ _ _=>(k=2→P s)∧zMY P a
def zMY (P:List (Int×Int)→Prop):List Re→Prop
  | []=>True
  | t::ts=>zIz P t∧zMY P ts
end
section
variable {P : List (Int × Int) → Prop}
theorem zMP {ts:List Re}:zMY P ts↔∀t∈ts,zIz P t:=by
  induction ts with
  | nil=>simp[zMY]
  | cons t ts ih=>simp only[zMY,ih,List.mem_cons,forall_eq_or_imp]
theorem zIz.s {t:Re} (h:zIz P t):t.kind=2→P t.set:=by cases t;exact h.1
theorem zIz.a {t:Re} (h:zIz P t):∀x∈t.args,zIz P x:=by cases t;exact zMP.1 h.2
end
end Go.Proofs
namespace Go.Proofs
open Go Go.Eng Go.Sort
theorem zOG {α:Type} [DecidableEq α]:∀{l m:List α},l.Nodup→(∀x∈l,x∈m)→l.length≤m.length
  | [],_,_,_=>Nat.zero_le _
  | x::l,m,hd,h=>by
    have hd':=List.nodup_cons.1 hd;have hx:=h x List.mem_cons_self;have h1:=zOG (l:=l) (m:=m.erase x) hd'.2 fun y hy=>(List.mem_erase_of_ne (show y≠x from fun e=>hd'.1 (by rw[←e];exact hy))).2 (h y (List.mem_cons_of_mem _ hy));rw[List.length_erase_of_mem hx] at h1;have:=List.length_pos_of_mem hx;simp only[List.length_cons];omega
structure FirstAt (l:List (List Bool)) (ks:List (List Bool)) (js:List Nat):Prop where
 len:js.length=ks.length
 lt:js.Pairwise (· < ·)
 at':∀(k j:Nat) key,js[k]?=some j→ks[k]?=some key→l[j]?=some key∧∀i,i<j→l[i]?≠some key
theorem zTn (l:List (List Bool)):∃js,FirstAt l (zDA l) js∧(∀j∈js,j<l.length)∧∀m∈l,m∈zDA l:=by
  suffices h:∀n,n≤l.length→∃js,FirstAt (l.take n) (zDA (l.take n)) js∧(∀j∈js,j<n)∧∀m∈l.take n,m∈zDA (l.take n) by
    have:=h l.length (Nat.le_refl _)
    rwa [List.take_length] at this
  intro n
  induction n with
  | zero=>intro _;exact ⟨[],⟨rfl,List.Pairwise.nil,fun k j aa h=>by simp at h⟩,fun j h=>(by cases h),fun m h=>(by simp at h)⟩
  | succ n ih=>
    intro hn;obtain ⟨js,hF,hb,hm⟩:=ih qO;obtain ⟨x,hx⟩:=zAJ (l:=l) (i:=n) qO;rw[zDx hx,zIe];have ad:(l.take n).length=n:=by simp;omega
    have ab:∀(i:Nat) aa,i<n→((l.take n++[x])[i]?=some aa↔(l.take n)[i]?=some aa):=fun i aa hi=>by rw[List.getElem?_append_left qO]
    unfold zMb;split
    · rename_i hmem
      refine ⟨js,⟨hF.len,hF.lt,fun k j aa h1 h2=>?_⟩,fun j hj=>by have:=hb j hj;omega,fun m h=>?_⟩
      · have ac:=hb j (List.mem_of_getElem? h1);obtain ⟨h3,h4⟩:=hF.at' k j aa h1 h2;exact ⟨(ab j aa ac).2 h3,fun i hi h5=>h4 i hi ((ab i aa qO).1 h5)⟩
      · rcases List.mem_append.1 h with h1|h1
        · exact hm m h1
        · rw[List.mem_singleton] at h1;rw[h1];exact hmem
    · rename_i hmem
      refine ⟨js++[n],⟨by simp[hF.len],?_,fun k j aa h1 h2=>?_⟩,fun j hj=>?_,fun m h=>?_⟩
      · rw[List.pairwise_append];exact ⟨hF.lt,List.pairwise_singleton _ _,fun a ha b ae=>by rw[List.mem_singleton] at ae;subst ae;exact hb a ha⟩
      · rcases Nat.lt_or_ge k js.length with h3|h3
        · rw[List.getElem?_append_left h3] at h1;rw[List.getElem?_append_left (by rw[←hF.len];exact h3)] at h2;have ac:=hb j (List.mem_of_getElem? h1);obtain ⟨h4,h5⟩:=hF.at' k j aa h1 h2;exact ⟨(ab j aa ac).2 h4,fun i hi h6=>h5 i hi ((ab i aa qO).1 h6)⟩
        · rw[List.getElem?_append_right h3] at h1;rw[List.getElem?_append_right (by rw[←hF.len];exact h3)] at h2;have h4:=zAE h1;simp at h4;rw[show k - js.length=0 by omega] at h1;rw[show k - (zDA (l.take n)).length=0 by have:=hF.len;omega] at h2;simp at h1 h2;subst h1;subst h2;refine ⟨by rw[List.getElem?_append_right qO,ad,Nat.sub_self];rfl,fun i hi h5=>hmem (hm _ (List.mem_of_getElem? ((ab i _ hi).1 h5)))⟩
      · rcases List.mem_append.1 hj with h1|h1
        · have:=hb j h1;omega
        · rw[List.mem_singleton] at h1;omega
      · rcases List.mem_append.1 h with h1|h1
        · exact List.mem_append_left _ (hm m h1)
        · exact List.mem_append_right _ h1
theorem zPS {c:List Sp} {m:Int} (h:Canon c) (hm:inS c m=true) (hl:∀r,0≤r→r<m→inS c r=false):c≠[]∧zBJ c=m:=by
  cases c with
  | nil=>cases hm
  | cons s l=>
    refine ⟨fun e=>(by cases e),?_⟩;have hv:=h.head;unfold vSp at hv;show s.1=m;rcases Int.lt_trichotomy s.1 m with h1|h1|h1
    · have:=hl s.1 qO h1;have h2:inS (s::l) s.1=true:=zFx.2 ⟨s,List.mem_cons_self,Int.le_refl _,hv.2.1⟩;rw[this] at h2;cases h2
    · exact h1
    · rw[zGA h h1] at hm;cases hm
structure Parted (ll cs:List (List Sp)):Prop where
 can:∀c∈cs,Canon c
 part:zUx cs
 heads:zUz cs
 mark:∀(k:Nat) c r,cs[k]?=some c→0≤r→r≤1114111→(inS c r=true↔zBL ll r=zBL ll (zBJ c))
 low:∀c∈cs,0≤zBJ c∧zBJ c≤1114111
 inj:∀(i j:Nat) c d,cs[i]?=some c→cs[j]?=some d→zBL ll (zBJ c)=zBL ll (zBJ d)→i=j
theorem zPW.parted {ll cs:List (List Sp)} (h:zPW ll cs) (hok:∀s∈ll.flatten,vSp s):Parted ll cs:=by
  obtain ⟨p,hp,hl,hm⟩:=h;obtain ⟨js,hF,hb,al⟩:=zTn (p.map (zBL ll));have ab:∀(k:Nat) c,cs[k]?=some c→∃aa j lo,(zDA (p.map (zBL ll)))[k]?=some aa∧js[k]?=some j∧p[j]?=some lo∧zBL ll lo=aa∧zHQ c (fun r=>decide (zBL ll r=aa))∧c≠[]∧zBJ c=lo∧0≤lo∧lo≤1114111:=by
    intro k c hc;obtain ⟨aa,hk⟩:=zAJ (l:=zDA (p.map (zBL ll))) (i:=k) (by have:=zAE hc;omega);obtain ⟨j,hj⟩:=zAJ (l:=js) (i:=k) (by have:=zAE hk;have:=hF.len;omega);obtain ⟨h1,h2⟩:=hF.at' k j aa hj hk;rw[List.getElem?_map] at h1;obtain ⟨lo,ac,he⟩:=Option.map_eq_some_iff.1 h1;have hS:=hm k aa c hk hc;have ai:=zEB hp hok (List.mem_of_getElem? ac);obtain ⟨e1,e2⟩:=zPS (m:=lo) hS.1 (by rw[hS.2 lo ai.1 ai.2];exact decide_eq_true he) fun r r0 r1=>by
      rw[hS.2 r r0 qO,decide_eq_false_iff_not];intro hr;obtain ⟨i,li,h4,h5,_,h6⟩:=zIK hp hok j (by have:=zAE ac;omega) r r0 (by rw[zXx ac];exact r1);have a4:i<j:=by
        rcases Nat.lt_or_ge i j with h7|h7
        · exact h7
        · exfalso;have h8:lo≤li:=by
            rcases Nat.lt_or_ge j i with h9|h9
            · have ad:=zAE ac;have af:=zAE h4;rw[List.getElem?_eq_getElem ad] at ac;rw[List.getElem?_eq_getElem af] at h4;cases ac;cases h4;exact Int.le_of_lt (List.pairwise_iff_getElem.1 hp.1 j i ad af h9)
            · obtain rfl:i=j:=qO
              rw[ac] at h4;cases h4;exact Int.le_refl _
          omega
      exact h2 i a4 (by rw[List.getElem?_map,h4,Option.map_some,←h6,hr])
    exact ⟨aa,j,lo,hk,hj,ac,he,hS,e1,e2,ai.1,ai.2⟩
  have a3:∀(i j:Nat) aa,(zDA (p.map (zBL ll)))[i]?=some aa→(zDA (p.map (zBL ll)))[j]?=some aa→i=j:=by
    intro i j aa hi hj;obtain ⟨a,ha⟩:=zAJ (l:=js) (i:=i) (by have:=zAE hi;have:=hF.len;omega);obtain ⟨b,aj⟩:=zAJ (l:=js) (i:=j) (by have:=zAE hj;have:=hF.len;omega);obtain ⟨h1,h2⟩:=hF.at' i a aa ha hi;obtain ⟨h3,h4⟩:=hF.at' j b aa aj hj;have av:a=b:=by
      rcases Nat.lt_trichotomy a b with h5|h5|h5
      · exact absurd h1 (h4 a h5)
      · exact h5
      · exact absurd h3 (h2 b h5)
    subst av;have af:=zAE ha;have ad:=zAE aj;rw[List.getElem?_eq_getElem af] at ha;rw[List.getElem?_eq_getElem ad] at aj;have e:=(Option.some.inj ha).trans (Option.some.inj aj).symm;rcases Nat.lt_trichotomy i j with h3|h3|h3
    · have:=List.pairwise_iff_getElem.1 hF.lt i j af ad h3;omega
    · exact h3
    · have:=List.pairwise_iff_getElem.1 hF.lt j i ad af h3;omega
  have ag:∀(i j:Nat) c d,cs[i]?=some c→cs[j]?=some d→zBL ll (zBJ c)=zBL ll (zBJ d)→i=j:=by
    intro i j c d hc hd he;obtain ⟨aa,_,lo,h1,_,_,h2,_,_,h3,_⟩:=ab i c hc;obtain ⟨a0,_,az,aq,_,_,ay,_,_,au,_⟩:=ab j d hd;rw[h3,au,h2,ay] at he;subst he;exact a3 i j aa h1 aq
  have ak:∀(k:Nat) c r,cs[k]?=some c→0≤r→r≤1114111→(inS c r=true↔zBL ll r=zBL ll (zBJ c)):=by
    intro k c r hc r0 r1;obtain ⟨aa,_,lo,_,_,_,h2,hS,_,h3,_⟩:=ab k c hc;rw[hS.2 r r0 r1,decide_eq_true_eq,h3,h2]
  refine ⟨?_,?_,?_,ak,?_,ag⟩
  · intro c hc;obtain ⟨k,hk⟩:=List.getElem?_of_mem hc;obtain ⟨_,_,_,_,_,_,_,hS,_⟩:=ab k c hk;exact hS.1
  · intro r r0 r1;obtain ⟨lo,ac,ar⟩:=zTG hp hok r0 r1;have ax:=al (zBL ll lo) (List.mem_map.2 ⟨lo,ac,rfl⟩);obtain ⟨k,hk⟩:=List.getElem?_of_mem ax;obtain ⟨c,hc⟩:=zAJ (l:=cs) (i:=k) (by have:=zAE hk;omega);have hS:=hm k _ c hk hc;have h1:inS c r=true:=by rw[hS.2 r r0 r1];exact decide_eq_true ar
    have ah:∀(j:Nat) d,cs[j]?=some d→inS d r=true→j=k:=fun j d hd h2=>
      ag j k d c hd hc (((ak j d r hd r0 r1).1 h2).symm.trans ((ak k c r hc r0 r1).1 h1))
    have hkl:=zAE hc;rw[show cs=cs.take k++c::cs.drop (k+1) by rw[←zFO hc,List.take_append_drop],List.countP_append,List.countP_cons,h1];have z1:(cs.take k).countP (fun l=>inS l r)=0:=by
      rw[List.countP_eq_zero];intro d hd h2;obtain ⟨j,hj⟩:=List.getElem?_of_mem hd;have ad:=zAE hj;simp at ad;rw[List.getElem?_take_of_lt qO] at hj;have:=ah j d hj h2;omega
    have z2:(cs.drop (k+1)).countP (fun l=>inS l r)=0:=by
      rw[List.countP_eq_zero];intro d hd h2;obtain ⟨j,hj⟩:=List.getElem?_of_mem hd;rw[List.getElem?_drop] at hj;have:=ah _ d hj h2;omega
    rw[z1,z2];rfl
  · intro k hk;obtain ⟨c,hc⟩:=zAJ hk;obtain ⟨_,j,lo,_,hj,ac,_,_,aw,hh,h0,_⟩:=ab k c hc;have ao:cs.getD k []=c:=by simp[List.getD,hc]
    refine ⟨by rw[ao];exact aw,?_⟩;rw[ao,hh];cases k with
    | zero=>show (-1:Int)<lo;omega
    | succ k=>
      obtain ⟨d,hd⟩:=zAJ (l:=cs) (i:=k) qO;obtain ⟨_,j',az,_,am,ae,_,_,_,ap,_⟩:=ab k d hd;have an:cs.getD k []=d:=by simp[List.getD,hd]
      show zBJ (cs.getD k [])<lo;rw[an,ap];have a1:=zAE hj;have a2:=zAE am;rw[List.getElem?_eq_getElem a1] at hj;rw[List.getElem?_eq_getElem a2] at am;cases hj;cases am;have h9:=List.pairwise_iff_getElem.1 hF.lt k (k+1) a2 a1 qO;have b1:=zAE ac;have b2:=zAE ae;rw[List.getElem?_eq_getElem b1] at ac;rw[List.getElem?_eq_getElem b2] at ae;cases ac;cases ae;exact List.pairwise_iff_getElem.1 hp.1 _ _ b2 b1 h9
  · intro c hc;obtain ⟨k,hk⟩:=List.getElem?_of_mem hc;obtain ⟨_,_,lo,_,_,_,_,_,_,h3,h4,h5⟩:=ab k c hk;rw[h3];exact ⟨h4,h5⟩
end Go.Proofs
namespace Go.Proofs
open Go Go.Eng
set_option maxRecDepth 100000
mutual
def zSU:Re→List Re
  | .mk k set args mn mx ng=>.mk k set args mn mx ng::zGS args
def zGS:List Re→List Re
  | []=>[]
  | t::ts=>zSU t++zGS ts
end
theorem zMs (t:Re):zSU t=t::zGS t.args:=by cases t;simp only[zSU,Re.args]
mutual
theorem zNt:∀(t:Re),(zSU t).length=t.size
  | .mk k set args mn mx ng=>by simp only[zSU,Re.size,List.length_cons,zLT args]
theorem zLT:∀(ts:List Re),(zGS ts).length=Re.sizes ts
  | []=>by simp[zGS,Re.sizes]
  | t::ts=>by simp only[zGS,Re.sizes,List.length_append,zNt t,zLT ts]
end
end Go.Proofs
namespace Go.Proofs
open Go Go.Eng Go.Sort
set_option maxRecDepth 100000
def zMU (s:List (List Sp)) (t:Re):List (List Sp):=if t.kind=2∧t.set∉s then s++[t.set] else s
def zCq (t:Re):List (List Sp):=(zSU t).foldl zMU []
theorem zKo {x:List Sp}:∀{l:List Re} {s:List (List Sp)},x∈l.foldl zMU s↔x∈s∨∃t∈l,t.kind=2∧x=t.set
  | [],s=>qP
  | t::l,s=>by
    rw[List.foldl_cons,zKo];have e:x∈zMU s t↔x∈s∨(t.kind=2∧x=t.set):=by
      unfold zMU;split
      · rename_i h
        simp[h.1]
      · rename_i h
        constructor
        · exact .inl
        · rintro (h1|⟨h1,rfl⟩)
          · exact h1
          · exact Classical.byContradiction fun h2=>h ⟨h1,h2⟩
    rw[e];constructor
    · rintro ((h|h)|⟨u,hu,h⟩)
      · exact .inl h
      · exact .inr ⟨t,qP,h⟩
      · exact .inr ⟨u,by simp[hu],h⟩
    · rintro (h|⟨u,hu,h⟩)
      · exact .inl (.inl h)
      · rcases List.mem_cons.1 hu with rfl|hu
        · exact .inl (.inr h)
        · exact .inr ⟨u,hu,h⟩
theorem zOd:∀(l:List Re) (s:List (List Sp)),(l.foldl zMU s).length≤s.length+l.length
  | [],s=>qP
  | t::l,s=>by
    have h:=zOd l (zMU s t);have h2:(zMU s t).length≤s.length+1:=by
      unfold zMU;split
      · simp
      · omega
    rw[List.foldl_cons,List.length_cons];omega
mutual
theorem zOb {P:List Sp→Prop}:∀{t:Re},(∀u∈zSU t,u.kind=2→P u.set)→zIz P t
  | .mk k s a m x g,h=>by
    rw[zMs] at h;exact ⟨h (.mk k s a m x g) qP,zMQ fun u hu=>h u (by simp only[List.mem_cons];exact .inr hu)⟩
theorem zMQ {P:List Sp→Prop}:∀{ts:List Re},(∀u∈zGS ts,u.kind=2→P u.set)→zMY P ts
  | [],_=>trivial
  | t::ts,h=>by
    simp only[zGS,List.mem_append] at h;exact ⟨zOb fun u hu=>h u (.inl hu),zMQ fun u hu=>h u (.inr hu)⟩
end
mutual
theorem zNs {P:List Sp→Prop}:∀{t:Re},zIz P t→∀u∈zSU t,u.kind=2→P u.set
  | .mk k s a m x g,h,u,hu=>by
    rw[zMs] at hu;rcases List.mem_cons.1 hu with rfl|hu
    · exact h.1
    · exact zLS h.2 u hu
theorem zLS {P:List Sp→Prop}:∀{ts:List Re},zMY P ts→∀u∈zGS ts,u.kind=2→P u.set
  | [],_,u,hu=>by simp[zGS] at hu
  | t::ts,h,u,hu=>by
    simp only[zGS,List.mem_append] at hu;rcases hu with hu|hu
    · exact zNs h.1 u hu
    · exact zLS h.2 u hu
end
theorem zNe {P:List Sp→Prop} {t:Re} (h:∀s∈zCq t,P s):zIz P t:=
 zOb fun u hu hk=>h u.set (zKo.2 (.inr ⟨u,hu,hk,rfl⟩))
theorem zHz {P:List Sp→Prop} {t:Re} (h:zIz P t):∀s∈zCq t,P s:=fun s hs=>by
 rcases zKo.1 hs with h1|⟨u,hu,hk,rfl⟩
 ·cases h1
 ·exact zNs h u hu hk
theorem zNd (t:Re):(zCq t).length≤t.size:=by
 have:=zOd (zSU t) [];rw[zNt] at this;simpa[zCq] using this
theorem zUE:∀(l:List (Int×Int)) (p:Option Int),zEU p l=0→∀s∈l,vSp s:=by
  intro l
  induction l with
  | nil=>simp
  | cons a l ih=>
    intro p h s hs;rw[zDR] at h;by_cases h1:zFK a=false
    · rw[if_pos h1] at h;simp at h
    rw[if_neg h1] at h;have h2:zEU (some a.2) l=0:=by
      split at h
      · split at h
        · simp at h
        · exact h
      · simpa using h
    rcases List.mem_cons.1 hs with rfl|hs
    · simp[zFK] at h1;exact ⟨qO,qO,qO⟩
    · exact ih _ h2 s hs
theorem zKi {s:List Sp} (h:zBO s=0):(∀p∈s,vSp p)∧s.length≤16:=by
 unfold zBO at h;split at h
 ·cases h
 ·exact ⟨zUE _ _ h,qO⟩
theorem zHJ:∀{ll:List (List Sp)},(∀l∈ll,zBO l=0)→zPg ll=0
  | [],_=>rfl
  | l::ll,h=>by
    unfold zPg;rw[if_neg (by simp[h l qP])];exact zHJ fun x hx=>h x (by simp[hx])
theorem zVB {ll:List (List Sp)} (h:∀l∈ll,zBO l=0):∀s∈ll.flatten,vSp s:=fun s hs=>by
 obtain ⟨l,hl,h1⟩:=List.mem_flatten.1 hs;exact (zKi (h l hl)).1 s h1
theorem zTm {ll:List (List Sp)} (h:∀l∈ll,zBO l=0):ll.flatten.length≤16*ll.length:=by
  induction ll with
  | nil=>simp
  | cons l ll ih=>
    have h1:=(zKi (h l qP)).2;have h2:=ih fun x hx=>h x (by simp[hx]);rw[List.flatten_cons,List.length_append,List.length_cons];omega
theorem zWj {ll cs:List (List Sp)} {c:Int} (h:zPW ll cs) (hok:∀s∈ll.flatten,vSp s) (h0:0≤c) (h1:c≤1114111):∃cl∈cs,∀s∈ll,inS s c=inS s (zBJ cl):=by
 have hp:=h.parted hok;have h2:=hp.part c h0 h1;obtain ⟨cl,hm,ab⟩:=List.countP_pos_iff.1 (show 0<cs.countP fun l=>inS l c by omega);obtain ⟨k,hk⟩:=List.mem_iff_getElem?.1 hm;have aa:=(hp.mark k cl c hk h0 h1).1 ab;refine ⟨cl,hm,fun s hs=>?_⟩;unfold zBL at aa;exact List.map_inj_left.1 aa s hs
theorem zTz {ll cs:List (List Sp)} (h:zPW ll cs) (hok:∀s∈ll.flatten,vSp s):∀cl∈cs,cl≠[]∧0≤zBJ cl∧zBJ cl≤1114111:=fun cl hm=>by
 have hp:=h.parted hok;obtain ⟨k,hk⟩:=List.mem_iff_getElem?.1 hm;have h1:=(hp.heads k (zAE hk)).1;rw[List.getD_eq_getElem?_getD,hk] at h1;exact ⟨h1,hp.low cl hm⟩
end Go.Proofs
namespace Go.Proofs
open Go Go.Eng Go.Sort
set_option maxRecDepth 100000
theorem zNO:∀{ll:List (List Sp)} {k:Nat} {l:List Sp},(∀x∈ll.take k,zBO x=0)→ll[k]?=some l→zBO l≠0→zPg ll=zBO l
  | [],_,_,_,h,_=>by simp at h
  | x::ll,0,l,_,h,hc=>by simp at h;subst h;unfold zPg;rw[if_pos hc]
  | x::ll,k+1,l,hz,h,hc=>by
    unfold zPg;rw[if_neg (by simpa using hz x qP)];exact zNO (k:=k) (fun y hy=>hz y (by simp[hy])) (by simpa using h) hc
theorem zFV:∀{ll:List (List Sp)},(∀x∈ll,zBO x=0)→zPg ll=0
  | [],_=>rfl
  | x::ll,h=>by
    unfold zPg;rw[if_neg (by simpa using h x qP)];exact zFV fun y hy=>h y (by simp[hy])
theorem zTK {w:World} {base e size n c:Nat} {a:Option Addr} {xs:List Value} (h:w.ownsRow base e size (.slice a n c) n xs):n≤c∧c≤9223372036854775807:=by
 rcases h.2 with ⟨h1,h0⟩|⟨g,cap,cur,hv,_,_,ab,aa,_⟩
 ·simp only[Value.slice.injEq] at h1;omega
 ·simp only[Value.slice.injEq] at hv;obtain ⟨_,_,rfl⟩:=hv;exact ⟨ab,aa⟩
def zYf (w:World) (r:Value) (out:List (List Sp)) (e:Int):Prop:=∃a c,r=.tuple #[.slice a out.length c,.int .i64 e]∧zBl w (.slice a out.length c) out
theorem zGK (w:World):zBl w (.slice none 0 0) []:=⟨[],zCQ.nil _ _ _ _,rfl,fun i u l h=>by simp at h⟩
theorem zTC {ll:List (List Sp)} {i:Nat} {l:List Sp} (h:ll[i]?=some l):zPo (ll.take (i+1)).flatten=zPo (ll.take i).flatten++l.flatMap fun s=>[s.1,s.2+1]:=by
 rw[zIV h];unfold zPo;rw[List.flatMap_append,List.cons_append]
theorem zTD {l:List Sp} {j:Nat} {s:Sp} (h:l[j]?=some s):(l.take (j+1)).flatMap (fun s=>[s.1,s.2+1])=(l.take j).flatMap (fun s=>[s.1,s.2+1])++[s.1,s.2+1]:=by
 rw[zDx h,List.flatMap_append];simp
theorem zVD {p q:List Int} {i:Nat} {c:Int} (hqp:q=p∨q=p++[1114112]) (hc:q[i]?=some c) (hb:∀x∈p,x≤1114111):(c≤1114111→p[i]?=some c)∧(1114111<c→p.length≤i):=by
 rcases hqp with rfl|rfl
 ·exact ⟨fun _=>hc,fun h=>absurd (hb c (List.mem_of_getElem? hc)) qO⟩
 ·rcases Nat.lt_or_ge i p.length with h1|h1
  ·rw[List.getElem?_append_left h1] at hc;exact ⟨fun _=>hc,fun h=>absurd (hb c (List.mem_of_getElem? hc)) qO⟩
  ·rw[List.getElem?_append_right h1] at hc;have h2:=zAE hc;simp at h2;rw[show i - p.length=0 by omega] at hc;simp at hc;exact ⟨fun h=>qO,fun _=>h1⟩
theorem zRo {p q:List Int} (hqp:q=p∨q=p++[1114112]):p.length≤q.length∧q.length≤p.length+1:=by
 rcases hqp with rfl|rfl<;>simp
theorem zTx {p q:List Int} {i:Nat} {c:Int} (hqp:q=p∨q=p++[1114112]) (hi:i≤p.length) (hc:q[i]?=some c):nx p i=c:=by
 unfold nx;rcases hqp with rfl|rfl
 ·rw[hc];rfl
 ·rcases Nat.lt_or_ge i p.length with h1|h1
  ·rw[List.getElem?_append_left h1] at hc;rw[hc];rfl
  ·rw[List.getElem?_append_right h1] at hc;rw[show i - p.length=0 by omega] at hc;simp at hc;rw[List.getElem?_eq_none h1];simpa using hc
theorem zTy {p q:List Int} {i:Nat} (hqp:q=p∨q=p++[1114112]) (hi:q.length≤i):nx p i=1114112:=by
 have:=zRo hqp;unfold nx;rw[List.getElem?_eq_none qO];rfl
theorem CSt.on {w:World} {base n:Nat} {vo:Value} {vs:List Value} {outs:List (List Sp)} (h:CSt w base vo vs outs) (hn:n=outs.length):w.ownsRow base TSs 1 vo n vs:=by subst hn;exact h.o
theorem zSj {outs:List (List Sp)} {ks:List (List Bool)} {m:List Bool} (hl:outs.length=ks.length) (hn:m∉ks):∀(j:Nat) q,(outs++[[]])[j]?=some q→outs[j]?=some q∨(j=ks.length∧q=[]∧m∉ks):=by
 intro j q hq;rcases Nat.lt_or_ge j outs.length with h1|h1
 ·left;rwa [List.getElem?_append_left h1] at hq
 ·right;rw[List.getElem?_append_right h1] at hq;have h2:=zAE hq;simp at h2;rw[show j - outs.length=0 by omega] at hq;simp at hq;exact ⟨qO,by simp[hq],hn⟩
theorem zSk {vs:List Value} {z:Nat} (h:∀(i:Nat) v b,vs[i]?=some v→v.ownBlock=some b→b<z):∀(i:Nat) v b,(vs++[.slice none 0 0])[i]?=some v→v.ownBlock=some b→b<z:=by
 intro i v b hv hb;rcases Nat.lt_or_ge i vs.length with h1|h1
 ·rw[List.getElem?_append_left h1] at hv;exact h i v b hv hb
 ·rw[List.getElem?_append_right h1] at hv;have h2:=zAE hv;simp at h2;rw[show i - vs.length=0 by omega] at hv;simp at hv;subst hv;cases hb
def zDZ (ll:List (List Sp)) (c:Int) (e:Nat):List Int:=(zBL (ll.take e) c).map zUM++List.replicate (ll.length - e) 0
theorem zMw (ll:List (List Sp)) (c:Int):zDZ ll c 0=List.replicate ll.length 0:=by simp[zDZ,zBL]
theorem zPF {ll:List (List Sp)} {c:Int} {e:Nat} (h:e≤ll.length):(zDZ ll c e).length=ll.length:=by
 simp[zDZ,zBL];omega
theorem zMx {ll:List (List Sp)} {c:Int} {e:Nat} {l:List Sp} (h:ll[e]?=some l):zDZ ll c (e+1)=(zDZ ll c e).set e (zUM (inS l c)):=by
 have hl:=zAE h;unfold zDZ zBL;rw[zDx h,show ll.length - e=(ll.length - (e+1))+1 by omega,List.replicate_succ,List.map_append,List.map_append,List.append_assoc];have h1:(((ll.take e).map fun l=>inS l c).map zUM).length=e:=by simp;omega
 rw[List.set_append_right _ _ qO,h1,Nat.sub_self];simp
theorem zMy {ll:List (List Sp)} {c:Int} {e:Nat} {l:List Sp} (h:ll[e]?=some l) (hi:inS l c=false):zDZ ll c (e+1)=zDZ ll c e:=by
 have hl:=zAE h;unfold zDZ zBL;rw[zDx h,show ll.length - e=(ll.length - (e+1))+1 by omega,List.replicate_succ,List.map_append,List.map_append,List.append_assoc];simp[hi,zUM]
theorem zPG (ll:List (List Sp)) (c:Int):zDZ ll c ll.length=(zBL ll c).map zUM:=by simp[zDZ]
theorem zWh (w0:World) (g c n:Nat) (l q:List Int) (hH:Sort.Holds (Value.int .i64) w0 g 0 l.toArray) (hc:l.length≤c∧c≤9223372036854775807) (hn:l.length=n) (hq:q=Lib.compact l) :
  Ret prog 46 #[.slice (some ⟨g,0,none⟩) n c] w0 fun r w=>r=.slice (some ⟨g,0,none⟩) q.length c∧zBa w r q∧Chg (fun x=>x=g) w0 w:=by
 subst hn;subst hq;exact zWi w0 g c l hH hc
theorem zWm (w0:World) (v:Value) (ll:List (List Sp)) (h:zBl w0 v ll) (hL:ll.flatten.length≤1048576) (hL2:ll.length≤1048576) :
  Ret prog 17 #[v] w0 fun r w=>(∃out e,zNJ ll out e∧zYf w r out e)∧Ext w0 w:=by
 obtain ⟨a,c,rfl,_,hle⟩:=h.form;obtain ⟨base,d4⟩:∃base,base=w0.heap.size:=⟨_,rfl⟩;refine qR func17 rfl ntmps17 rfl (fun E=>(zAA (qA _ rfl (qA _ rfl (zAB (zAH (zAA (qM _ rfl (qV (zAK underlying35 rfl) (qM _ rfl (zAB (zAT (zAo (fun nn_ σ W1=>∃(k:Nat),(∃jj_,σ=zCT jj_ [(0,(.slice a ll.length c)),(23,(.slice a ll.length c)),(24,(I6 (ll.length:Int))),(25,(I6 (k:Int)))])∧Chg zAe w0 W1∧(k≤ll.length)∧(∀l∈ll.take k,zBO l=0)∧nn_=ll.length - k) (n:=ll.length - 0) ?_ ?_)))))))))))))
 ·exact ⟨0,zAs.out ⟨rfl,rfl,rfl,rfl,trivial⟩,E,Nat.zero_le _,qP,rfl⟩
 ·clear E;rintro _ _ W1 ⟨k,⟨j1,rfl⟩,E,hk,hz,rfl⟩;refine zAA (qV (zBA rfl rfl) (zAB (zAH (qC rfl (fun ek=>?_) (fun ek=>?_)))))
  ·obtain ⟨l,hx⟩:=zAJ (l:=ll) (i:=k) qO;obtain ⟨b,o,rfl,bw⟩:=zDK h qO;obtain ⟨ra,rc,af,aw⟩:=bw k l hx;refine zAO (zAC (zAH (zAT (zAA (qV (zAD (b:=b) (o:=o) (len:=ll.length) (cap:=c) (i:=k) (o':=o+k) rfl rfl rfl underlying35 zCi qO qO) (qV (zAG rfl zCs (E.cell (fun f=>f) af)) (qA _ rfl (zAB (zAA (qM _ rfl (qE rfl (zAU func44 kQ kQ rfl) (zNn _ _ l (aw.ext E)) ?_)))))))))));rintro _ w9 ⟨rfl,X9⟩;replace E:=E.ext X9;refine qA _ rfl (zAB (zAA (qM _ rfl (qV (zEY rfl rfl) (zAB (qC rfl (fun hc=>?_) (fun hc=>?_)))))))
   ·refine zAA (qM _ rfl (qA _ rfl (qA _ rfl (zAB (zAW (zAh (zAX (zAX (zAh (zAX (zCY results17 (v:=(.slice none 0 0)) (v':=(.int .i64 (zBO l))) rfl rfl ?_)))))))))));exact ⟨⟨[],zBO l,.inl ⟨by rw[zNO hz hx hc];exact hc,(zNO hz hx hc).symm,rfl⟩,none,0,rfl,zGK _⟩,E⟩
   ·refine zAO (zAS (zAC (zAF (qV (zAw rfl rfl (zBf qO)) (qM _ rfl (zAB (zAC ?_)))))));exact ⟨ll.length - (k+1),qO,k+1,zAs.out ⟨rfl,rfl,rfl,rfl,trivial⟩,E,qO,(fun y hy=>by rw[zDx hx] at hy;rcases List.mem_append.1 hy with h1|h1;exact hz y h1;rw[List.mem_singleton] at h1;subst h1;omega),rfl⟩
  ·have e8:k=ll.length:=qO
   rw[e8,List.take_length] at hz;have bj:=zFV hz;have bd:∀s∈ll.flatten,vSp s:=fun s hs=>by obtain ⟨l,hl,hs⟩:=List.mem_flatten.1 hs;exact (zMK (hz l hl)).1.ok s hs
   refine zAl (zAV (zAV (zAf (zAC (zAA (zAc (ps:=[(0,(I6 0))]) (c:=#[(I6 0)]) qD rfl underlying22 zAv zDJ qD qD qK ?_))))));intro bq wq Nq;have Fq:=Nq.ge E;replace E:=E.ext Nq.ext;have Bq:=Nq.blk;refine qA _ rfl (zAB (zAH (zAA (qM _ rfl (qV (zAK underlying35 rfl) (qM _ rfl (zAB (zAT ?_))))))));have ch:=zKO (base:=base) Bq qO;have dv:base≤wq.heap.size:=by have:=E.size;omega
   refine zAo (fun nn_ σ W4=>∃(i:Nat) (la:Option Addr) (lc:Nat) (n:Nat) (rs:List Int),(∃jj_,σ=zCT jj_ [(0,(.slice a ll.length c)),(36,(.slice a ll.length c)),(37,(I6 (ll.length:Int))),(38,(I6 (i:Int))),(7,(.slice la n lc))])∧Chg zAe w0 W4∧(i≤ll.length)∧(rs=zPo (ll.take i).flatten)∧(n=rs.length)∧(W4.ownsRow base zYn 1 (.slice la n lc) n (rs.map (Value.int .i64)))∧(base≤W4.heap.size)∧nn_=ll.length - i) (n:=ll.length - 0) ?_ ?_
   ·exact ⟨0,some ⟨bq,0,none⟩,1,1,[0],zAs.out ⟨rfl,rfl,rfl,rfl,rfl,trivial⟩,E,Nat.zero_le _,rfl,rfl,ch,dv,rfl⟩
   ·clear E;rintro _ _ W4 ⟨i,la,lc,n,rs,⟨j4,rfl⟩,E,hi,bp,hn,aj,ep,rfl⟩;refine zAA (qV (zBA rfl rfl) (zAB (zAH (qC rfl (fun cw=>?_) (fun cw=>?_)))))
    ·obtain ⟨l,hx⟩:=zAJ (l:=ll) (i:=i) qO;obtain ⟨b,o,rfl,bw⟩:=zDK h qO;obtain ⟨ra,rc,af,aw⟩:=bw i l hx;have fq:=zWR ll (i+1);rw[zIV hx,List.length_append] at fq;have c0:=zKL (ll.take i).flatten;rw[←bp] at c0;refine zAO (zAC (zAH (zAT (zAA (qV (zAD (b:=b) (o:=o) (len:=ll.length) (cap:=c) (i:=i) (o':=o+i) rfl rfl rfl underlying35 zCi qO qO) (qV (zAG rfl zCs (E.cell (fun f=>f) af)) (qA _ rfl (zAB (zAA (qM _ rfl (qV (zAK underlying23 rfl) (qM _ rfl (zAB (zAT (zAo (fun nn_ σ W6=>∃(j:Nat) (ca:Option Addr) (cg:Nat) (n2:Nat),(∃jj_,σ=zCT jj_ [(0,(.slice (some ⟨b,o,none⟩) ll.length c)),(36,(.slice (some ⟨b,o,none⟩) ll.length c)),(37,(I6 (ll.length:Int))),(38,(I6 (i:Int))),(42,(.slice ra l.length rc)),(43,(I6 (l.length:Int))),(44,(I6 (j:Int))),(7,(.slice ca n2 cg))])∧Chg zAe w0 W6∧(j≤l.length)∧(n2=rs.length+2*j)∧(W6.ownsRow base zYn 1 (.slice ca n2 cg) n2 ((rs++(l.take j).flatMap fun s=>[s.1,s.2+1]).map (Value.int .i64)))∧(base≤W6.heap.size)∧nn_=l.length - j) (n:=l.length - 0) ?_ ?_)))))))))))))))
     ·exact ⟨0,la,lc,n,zAs.out ⟨rfl,rfl,rfl,rfl,rfl,rfl,rfl,rfl,trivial⟩,E,Nat.zero_le _,qO,(by simpa using aj),ep,rfl⟩
     ·clear E;rintro _ _ W6 ⟨j,ca,cg,n2,⟨j6,rfl⟩,E,hj,hn2,ac,ah,rfl⟩;refine zAA (qV (zBA rfl rfl) (zAB (zAH (qC rfl (fun c4=>?_) (fun c4=>?_)))))
      ·obtain ⟨s,hs⟩:=zAJ (l:=l) (i:=j) qO;obtain ⟨sb,so,rfl,e0⟩:=zBu aw qO;have fh:=bd s (List.mem_flatten.2 ⟨l,List.mem_of_getElem? hx,List.mem_of_getElem? hs⟩);unfold vSp at fh;have d2:=ac;refine zAO (zAC (zAH (zAT (zAA (qV (zAD (b:=sb) (o:=so) (len:=l.length) (cap:=rc) (i:=j) (o':=so+j*2) rfl rfl rfl underlying23 zCK qO qO) (qV (zAP rfl zIo zCK rfl ((e0 j s hs).ext E)) (zAd (v:=(.agg #[(I6 s.1),(I6 s.2)])) (c:=#[(I6 s.1),(I6 s.2)]) (n:=2) qD zGF rfl zCK rfl rfl rfl qS ?_)))))));intro bt wt Nt;have Ft:=Nt.ge E;replace ac:=zAg ac Nt.ext;replace ah:=Nat.le_trans ah Nt.ext.size;replace E:=E.ext Nt.ext;have Bt:=Nt.blk;refine zAB (zAF (qM _ rfl (qF bt 0 0 rfl underlying44 rfl zAv rfl (qV (zAG rfl zAm (Bt.cell rfl)) (qF bt 0 1 rfl underlying44 rfl zAv rfl (qV (zAG rfl zAm (Bt.cell rfl)) (qV (zAw rfl rfl (zBf qO)) (zAc (ps:=[(0,(I6 s.1)),(1,(I6 (s.2+1)))]) (c:=#[(I6 s.1),(I6 (s.2+1))]) qD rfl underlying22 zAv zDJ qD qD qK ?_))))))));intro b8 w8 N8;have F8:=N8.ge E;have O8_bt:=N8.lt Bt;replace Bt:=N8.keep Bt;replace ac:=zAg ac N8.ext;replace ah:=Nat.le_trans ah N8.ext.size;replace E:=E.ext N8.ext;have B8:=N8.blk;refine zBt (base:=base) (n:=n2) (m:=2) (xs:=((rs++(l.take j).flatMap fun s=>[s.1,s.2+1]).map (Value.int .i64))) (news:=[(I6 s.1),(I6 (s.2+1))]) (size:=1) (bytes:=8) (v:=(.slice ca n2 cg)) qD underlying22 zAv zJs zDJ rfl qD rfl ac rfl (rfl) (B8.cells rfl) qS (by unfold maxLen;omega) qO (ah) ?_;intro v9 fb d8 d7 Dv9;replace E:=E.step d7 (fun x hx h=>absurd (ac.lt x h).1 qO);obtain ⟨ft,et,rfl⟩:=zBR d8;refine qA _ rfl (zAB (zAS (zAC (zAF (qV (zAw rfl rfl (zBf qO)) (qM _ rfl (zAB (zAC ?_))))))));exact ⟨l.length - (j+1),qO,j+1,ft,et,n2+2,zAs.out ⟨rfl,rfl,rfl,rfl,rfl,rfl,rfl,rfl,trivial⟩,E,qO,qO,(by rw[zTD hs,←List.append_assoc];simpa using d8),Nat.le_trans ah d7.size,rfl⟩
      ·have es:j=l.length:=qO
       rw[es,List.take_length] at ac;refine zAl (zAV (zAV (zAf (zAS (zAC (zAF (qV (zAw rfl rfl (zBf qO)) (qM _ rfl (zAB (zAC ?_))))))))));exact ⟨ll.length - (i+1),qO,i+1,ca,cg,n2,zPo (ll.take (i+1)).flatten,zAs.out ⟨rfl,rfl,rfl,rfl,rfl,trivial⟩,E,qO,rfl,(by rw[zKL,zIV hx,List.length_append];omega),(by rw[zTC hx,←bp];exact ac),ah,rfl⟩
    ·have fi:i=ll.length:=qO
     rw[fi,List.take_length] at bp;have c0:=zKL ll.flatten;rw[←bp] at c0;obtain ⟨ea,d6⟩:n≤lc∧lc≤9223372036854775807:=zTK aj;obtain ⟨g,rfl,hgb,hgc⟩:=zBS aj qO;have hgl:=aj.lt g rfl;obtain ⟨q,hq⟩:∃q,q=Lib.compact (rs.mergeSort leB):=⟨_,rfl⟩;obtain ⟨fc,dy⟩:q.Pairwise (· < ·)∧∀x,x∈q↔x∈zPo ll.flatten:=by rw[hq,←bp];exact zJF rs
     obtain ⟨p,hP,cc⟩:=zTw bd fc dy;subst hn;refine zAl (zAV (zAV (zAf (zAC (zAA (qM _ rfl (qE rfl (zAU func45 kQ kQ rfl) (zVk _ base g lc rs aj qO) ?_)))))));rintro _ w31 ⟨rfl,ex,d3⟩;replace E:=E.step d3 (fun x hx hm=>absurd (aj.lt g rfl).1 qO);refine zAB (zAA (qM _ rfl (qE rfl (zAU func46 kQ kQ rfl) (zWh _ g lc rs.length (rs.mergeSort leB) q ex (by simp;omega) qP hq) ?_)));rintro _ e3 ⟨rfl,fn,ee⟩;replace E:=E.step ee (fun x hx hm=>absurd (aj.lt g rfl).1 qO);refine qA _ rfl (zAB (zAA (qA _ rfl (zAB (zAA (zEb zKw zFH qD ?_))))));intro bm wm Nm;have Fm:=Nm.ge E;replace E:=E.ext Nm.ext;intro Mm;refine qA _ rfl (zAB (zAH (zAA (qM _ rfl (qV (zAK underlying22 rfl) (qM _ rfl (zAB (zAT ?_))))))));obtain ⟨n1,e4⟩:∃n,n=wm.heap.size:=⟨_,rfl⟩;have e7:zDk (fun b=>b=g) wm 1 (.slice (some ⟨g,0,none⟩) q.length lc) (q.map zND):=zDk.mk (fn.ext Nm.ext) rfl;have fk:bm<n1:=by have:=Mm.lt;omega
     have fa:g<bm:=by have:=ee.size;have:=d3.size;have:=Nm.eq;omega
     have eu:w0.heap.size≤n1:=by have:=E.size;omega
     have d9:∀x∈p,x≤1114111:=fun x hx=>(zEB hP bd hx).2;have hpl:p.length≤1114112:=zVv hP.1 (fun x hx=>zEB hP bd hx);have hql:=zRo cc;have ff:∀x∈q,0≤x∧x≤1114112:=fun x hx=>by rcases zKK.1 ((dy x).1 hx) with h1|⟨s,hs,h1⟩;omega;have:=bd s hs;unfold vSp at this;omega
     refine zAo (fun nn_ σ W9=>∃(i2:Nat) (ks:List (List Bool)) (aa:List (List Sp)) (vs:List Value) (oa:Option Addr) (oc:Nat) (on:Nat),(∃jj_,σ=zCT jj_ [(0,(.slice a ll.length c)),(7,(.slice (some ⟨g,0,none⟩) q.length lc)),(13,(.map (some bm))),(63,(.slice (some ⟨g,0,none⟩) q.length lc)),(64,(I6 (q.length:Int))),(65,(I6 (i2:Int))),(12,(.slice oa on oc))])∧Chg zAe w0 W9∧zCG W9 bm zKw zFH (zEh ks 0)∧(GInv ll p i2 ks aa)∧(i2≤p.length)∧(CSt W9 n1 (.slice oa on oc) vs aa)∧(on=aa.length)∧(zDk (fun b=>b=g) W9 1 (.slice (some ⟨g,0,none⟩) q.length lc) (q.map zND))∧(n1≤W9.heap.size)∧nn_=p.length - i2) (n:=p.length - 0) ?_ ?_
     ·exact ⟨0,[],[],[],none,0,0,zAs.out ⟨rfl,rfl,rfl,rfl,rfl,rfl,rfl,trivial⟩,E,Mm,GInv.start hP bd,Nat.zero_le _,CSt.start _ _,rfl,e7,qO,rfl⟩
     ·clear E Mm;rintro _ _ W9 ⟨i2,ks,aa,vs,oa,oc,on,⟨j9,rfl⟩,E,Mm,hG,hi2,hC,ar,hI,df,rfl⟩;refine zAA (qV (zBA rfl rfl) (zAB (zAH (qC rfl (fun dm=>?_) (fun dm=>?_)))))
      ·obtain ⟨c1,dk⟩:=zAJ (l:=q) (i:=i2) qO;obtain ⟨qb,qo,b2,fo⟩:=zAy (l:=q) hI.at qO;simp only[Option.some.injEq,Addr.mk.injEq,and_true] at b2;obtain ⟨rfl,rfl⟩:=b2;refine zAO (zAC (zAH (zAT (zAA (qM _ rfl (qV (zAD (b:=g) (o:=0) (len:=q.length) (cap:=lc) (i:=i2) (o':=0+i2) rfl rfl rfl underlying22 zAv qO qO) (qV (zAG rfl zAm (fo i2 c1 dk)) (qA _ rfl (qA _ rfl (zAB (zAH (zAA (qM _ rfl (qV (zEN rfl rfl) (zAB (qC rfl (fun b9=>?_) (fun b9=>?_)))))))))))))))))
       ·have dn:i2=p.length:=by have:=(zVD cc dk d9).2 b9;omega
        have a2:=hG;rw[dn] at a2;have dc:=hC.join;have bs:=hG.cnt;have ct:=hG.len;refine zAl (zAV (zRN qD (zAV (zAV (zAf (zAC (zAH (zAA (qM _ rfl (qV (zAK underlying35 rfl) (qM _ rfl (zAB (zAT (zAo (fun nn_ σ ck=>∃(k3:Nat) (cs:List (List Sp)) (us:List Value),(∃jj_,σ=zCT jj_ [(12,(.slice oa on oc)),(133,(I6 (on:Int))),(134,(I6 (k3:Int)))])∧Chg zAe w0 ck∧(k3≤aa.length)∧(JSt ck n1 (.slice oa on oc) us aa cs k3)∧(∀c∈cs,c.length≤16)∧(n1≤ck.heap.size)∧nn_=aa.length - k3) (n:=aa.length - 0) ?_ ?_))))))))))))))
        ·exact ⟨0,[],vs,zAs.out ⟨rfl,rfl,rfl,trivial⟩,E,Nat.zero_le _,dc,qP,df,rfl⟩
        ·clear E;rintro _ _ ck ⟨k3,cs,us,⟨j12,rfl⟩,E,ei,hJ,b3,ef,rfl⟩;refine zAA (qV (zBA rfl rfl) (zAB (zAH (qC rfl (fun bb=>?_) (fun bb=>?_)))))
         ·obtain ⟨o1,ag⟩:=zAJ (l:=aa) (i:=k3) qO;obtain ⟨u1,bo⟩:=zAJ (l:=us) (i:=k3) (by have:=hJ.len;omega);obtain ⟨⟨ua,uc,rfl⟩,dh⟩:=hJ.rst k3 u1 o1 (Nat.le_refl _) bo ag;have ap:=hJ.o;rw[←ar] at ap;obtain ⟨gg,rfl,dx,du⟩:=zBS ap qO;have a4:=ap.lt gg rfl;have dt:=(a2.ok k3 o1 ag);refine zAO (zAC (zAH (zAT (zAA (qM _ rfl (qA _ rfl (zAB (zAA (qM _ rfl (qM _ rfl (qM _ rfl (qM _ rfl (qV (zAD (b:=gg) (o:=0) (len:=on) (cap:=oc) (i:=k3) (o':=0+k3) rfl rfl rfl underlying35 zCi qO qO) (qV (zAG (v:=(.slice ua o1.length uc)) rfl zCs ((by have h1:=(ap.cells (g:=gg) rfl) k3 _ bo;rwa [Addr.add_lit] at h1))) (qE rfl (zAU func48 kQ kQ rfl) (zUw _ _ o1 dh.at qO dt.1) ?_)))))))))))))));rintro _ fe ⟨⟨j1,cb,⟨⟨ja,jc,rfl⟩,de⟩⟩,a1⟩;replace E:=E.ext a1;obtain ⟨cd,al,dw⟩:=zKP (zAg ap a1);refine qV (zAD (b:=gg) (o:=0) (len:=on) (cap:=oc) (i:=k3) (o':=0+k3) rfl rfl rfl underlying35 zCi qO qO) ?_;have ax:=al;have ay:True:=trivial;refine zAt (b:=gg) (o:=0+k3) (c':=cd.setIfInBounds (0+k3) (.slice ja j1.length jc)) (v:=(.slice ja j1.length jc)) rfl rfl rfl zCi al qO (rfl) ?_;intro w14 ds;replace ay:=ds;replace E:=ds.step E qQ;replace al:=ds.blk;refine zAB (zAA (qM _ rfl (qM _ rfl (qV (zAD (b:=gg) (o:=0) (len:=on) (cap:=oc) (i:=k3) (o':=0+k3) rfl rfl rfl underlying35 zCi qO qO) (qV (zAG rfl zCs (al.cell (by rw[Array.getElem?_setIfInBounds_self_of_lt qO]))) ?_)))));refine qV (zAK underlying23 rfl) (qV (zEN rfl rfl) (zAB (qC rfl (fun di=>?_) (fun di=>?_))))
          ·refine zAA (qA _ rfl (qA _ rfl (zAB (zAW (zAh (zAX (zAX (zAh (zAX (zCY results17 (v:=(.slice none 0 0)) (v':=(.int .i64 2)) rfl rfl ?_))))))))));obtain ⟨cF,c2,dl⟩:=zMI a2 hP ag cb qO;exact ⟨⟨[],2,.inr ⟨bj,cF,c2,.inl ⟨dl,rfl,rfl⟩⟩,none,0,rfl,zGK _⟩,E⟩
          ·refine zAO (zAS (zAC (zAF (qV (zAw rfl rfl (zBf qO)) (qM _ rfl (zAB (zAC ?_)))))));exact ⟨aa.length - (k3+1),qO,k3+1,cs++[j1],us.set k3 (.slice ja j1.length jc),zAs.out ⟨rfl,rfl,rfl,trivial⟩,E,qO,(by have hS:=JSt.step (hJ.ext a1) ar ag (⟨⟨_,_,rfl⟩,de⟩:zSO _ _ _ j1) a4.2 cb ax (by simpa using ay);exact hS),(fun c hc=>by rcases List.mem_append.1 hc with h1|h1;exact b3 c h1;rw[List.mem_singleton] at h1;subst h1;omega),(by have:=a1.size;have:=ay.chg.size;omega),rfl⟩
         ·have ai:k3=aa.length:=qO
          have av:=a2.done hP (by rw[hJ.cl,ai]) hJ.jn;have aw:=hJ.done ai;have aq:cs.length=on:=by rw[hJ.cl,ai,ar]
          refine zAl (zAV (zAV (zAf (zAC (zAH (zAA (qM _ rfl (qV (zAK underlying35 rfl) (qV (zEN rfl rfl) (zAB (qC rfl (fun bc=>?_) (fun bc=>?_))))))))))))
          ·refine zAA (qA _ rfl (qA _ rfl (zAB (zAW (zAX (zCY results17 (v:=(.slice none 0 0)) (v':=(.int .i64 2)) rfl rfl ?_))))));exact ⟨⟨[],2,.inr ⟨bj,cs,av,.inl ⟨.inr qO,rfl,rfl⟩⟩,none,0,rfl,zGK _⟩,E⟩
          ·refine zAO (zAC (zAA (qM _ rfl (qA _ rfl (qA _ rfl (zAB (zAW (zCY results17 (v:=(.slice oa on oc)) (v':=(.int .i64 0)) rfl rfl ?_))))))));rw[←aq] at aw;exact ⟨⟨cs,0,.inr ⟨bj,cs,av,.inr ⟨fun c5=>by rcases c5 with ⟨c,h1,h2⟩|h2;have:=b3 c h1;omega;omega,rfl,rfl⟩⟩,oa,oc,by rw[aq],aw⟩,E⟩
       ·have E6:Chg zAe W9 W9:=Chg.refl _ _;obtain ⟨z0,ey⟩:∃z0,z0=(W9).heap.size:=⟨_,rfl⟩;have bz:∀(i:Nat) v b,vs[i]?=some v→v.ownBlock=some b→b<z0:=fun i v b hv hb=>by obtain ⟨l,hl⟩:=hC.some hv;have:=((hC.inn i v l hv hl).lt b hb).2;omega
        have d0:=(zVD cc dk d9).1 qO;have hlp:=zAE d0;refine zAO (zAC (zAA (qM _ rfl (qV (zBF (ps:=[(0,(I6 c1)),(1,(I6 1114111))]) (v:=(.agg #[(I6 c1),(I6 1114111)])) rfl qK) (zAd (v:=(.agg #[(I6 c1),(I6 1114111)])) (c:=#[(I6 c1),(I6 1114111)]) (n:=2) qD zGF rfl zCK rfl rfl rfl qS ?_)))));intro bx wx Nx;have Fx:=Nx.ge E;have Fx_E6:=Nx.ge E6;have Ox_bm:=Nx.ltM Mm;replace Mm:=Nx.keepM Mm;replace E:=E.ext Nx.ext;have Bx:=Nx.blk;replace E6:=E6.ext Nx.ext;refine zAB (zFq (fun σ b5=>∃(hi:Int),(∃jj_,σ=zCT jj_ [(0,(.slice a ll.length c)),(7,(.slice (some ⟨g,0,none⟩) q.length lc)),(12,(.slice oa on oc)),(13,(.map (some bm))),(15,(I6 c1)),(16,(P6 bx 0)),(63,(.slice (some ⟨g,0,none⟩) q.length lc)),(64,(I6 (q.length:Int))),(65,(I6 (i2:Int)))])∧Chg zAe w0 b5∧Chg zAe W9 b5∧zCG b5 bm zKw zFH (zEh ks 0)∧Blk b5 bx (#[Value.int .i64 c1,Value.int .i64 hi]) 44∧(hi=nx p (i2+1) - 1)) ?_ ?_)
        ·skip
         refine zAA (qM _ rfl (qV (zAw rfl rfl (zBf qO)) (qM _ rfl (qV (zAK underlying22 rfl) (qV (zBA rfl rfl) (zAB (qC rfl (fun e5=>?_) (fun e5=>?_))))))))
         ·obtain ⟨d1,cx⟩:=zAJ (l:=q) (i:=i2+1) qO;have hdn:=zTx cc qO cx;have hdb:=ff d1 (List.mem_of_getElem? cx);refine zAF (qM _ rfl (qM _ rfl (qV (zAw rfl rfl (zBf qO)) (qV (zAD (b:=g) (o:=0) (len:=q.length) (cap:=lc) (i:=i2+1) (o':=0+(i2+1)) rfl rfl qO underlying22 zAv qO qO) (qV (zAG rfl zAm (((hI.chg E6 fun _ _ f=>f).at |> fun hh=>by obtain ⟨qb,qo,ec,eg⟩:=zAy (l:=q) hh qO;simp only[Option.some.injEq,Addr.mk.injEq,and_true] at ec;obtain ⟨rfl,rfl⟩:=ec;exact eg (i2+1) d1 cx))) (qV (zEX (k:=.i64) (a:=d1) (b:=1) (c:=d1 - 1) rfl rfl (zBf qO)) (qF bx 0 1 rfl underlying44 rfl zAv rfl (zAt (b:=bx) (o:=1) (c':=#[(I6 c1),(I6 (d1 - 1))]) (v:=(I6 (d1 - 1))) rfl rfl rfl zAv Bx qP rfl ?_))))))));intro w19 cj;replace Mm:=cj.keepM qO Mm;replace E:=cj.step E qQ;replace E6:=cj.step E6 (Or.inl qO);replace Bx:=cj.blk;refine zAB (zAC ?_);exact ⟨d1 - 1,zAs.out ⟨rfl,rfl,rfl,rfl,rfl,rfl,rfl,rfl,rfl,trivial⟩,E,E6,Mm,Bx,qO⟩
         ·refine zAO (zAC ?_);exact ⟨1114111,zAs.out ⟨rfl,rfl,rfl,rfl,rfl,rfl,rfl,rfl,rfl,trivial⟩,E,E6,Mm,Bx,(by rw[zTy cc qO];rfl)⟩
        ·clear E E6 Mm Bx;rintro _ b5 ⟨hi,⟨j17,rfl⟩,E,E6,Mm,Bx,e6⟩;refine zAA (qM _ rfl (qV (zAK underlying35 rfl) (zEQ (n:=ll.length) (z:=(.int .u8 0)) (bytes:=1) qD underlying69 zMj zYX zXE rfl rfl rfl qO qO ?_)));intro bk wk Nk;have Fk:=Nk.ge E;have Fk_E6:=Nk.ge E6;have Ok_bm:=Nk.ltM Mm;have Ok_bx:=Nk.lt Bx;replace Mm:=Nk.keepM Mm;replace Bx:=Nk.keep Bx;replace E:=E.ext Nk.ext;have Bk:=Nk.blk;replace E6:=E6.ext Nk.ext;refine qA _ rfl (zAB (zAH (zAA (qM _ rfl (qV (zAK underlying35 rfl) (qM _ rfl (zAB (zAT ?_))))))));rw[show (List.replicate ll.length (Value.int .u8 0))=(zDZ ll c1 0).map (Value.int .u8) from by rw[zMw,List.map_replicate]] at Bk;refine zAo (fun nn_ σ bh=>∃(e1:Nat),(∃jj_,σ=zCT jj_ [(0,(.slice a ll.length c)),(7,(.slice (some ⟨g,0,none⟩) q.length lc)),(12,(.slice oa on oc)),(13,(.map (some bm))),(15,(I6 c1)),(16,(P6 bx 0)),(17,(.slice (some ⟨bk,0,none⟩) ll.length ll.length)),(63,(.slice (some ⟨g,0,none⟩) q.length lc)),(64,(I6 (q.length:Int))),(65,(I6 (i2:Int))),(89,(.slice a ll.length c)),(90,(I6 (ll.length:Int))),(91,(I6 (e1:Int)))])∧Chg zAe w0 bh∧Chg zAe W9 bh∧zCG bh bm zKw zFH (zEh ks 0)∧Blk bh bx #[(I6 c1),(I6 hi)] 44∧Blk bh bk (((zDZ ll c1 e1).map (Value.int .u8)).toArray) 5∧(e1≤ll.length)∧nn_=ll.length - e1) (n:=ll.length - 0) ?_ ?_
         ·exact ⟨0,zAs.out ⟨rfl,rfl,rfl,rfl,rfl,rfl,rfl,rfl,rfl,rfl,rfl,rfl,rfl,trivial⟩,E,E6,Mm,Bx,Bk,Nat.zero_le _,rfl⟩
         ·clear E E6 Mm Bx Bk;rintro _ _ bh ⟨e1,⟨j20,rfl⟩,E,E6,Mm,Bx,Bk,fj,rfl⟩;refine zAA (qV (zBA rfl rfl) (zAB (zAH (qC rfl (fun cp=>?_) (fun cp=>?_)))))
          ·obtain ⟨l6,c9⟩:=zAJ (l:=ll) (i:=e1) qO;obtain ⟨b,o,rfl,bw⟩:=zDK h qO;obtain ⟨ra,rc,af,aw⟩:=bw e1 l6 c9;refine zAO (zAC (zAH (zAT (zAA (qM _ rfl (qV (zAD (b:=b) (o:=o) (len:=ll.length) (cap:=c) (i:=e1) (o':=o+e1) rfl rfl rfl underlying35 zCi qO qO) (qV (zAG rfl zCs (E.cell (fun f=>f) af)) (qA _ rfl (qA _ rfl (zAB (zAA (qM _ rfl (qM _ rfl (qE rfl (zAU func47 kQ kQ rfl) (zZL _ _ l6 c1 (aw.ext E)) ?_))))))))))))));rintro _ w51 ⟨rfl,br⟩;replace Mm:=br.keepM Mm;replace Bx:=br.keep Bx;replace Bk:=br.keep Bk;replace E:=E.ext br;replace E6:=E6.ext br;refine zAB (zAx rfl (fun ce=>?_) (fun ce=>?_))
           ·have c7:=ce;have hml:=zPF (c:=c1) fj;refine zAF (qM _ rfl (qM _ rfl (qV (zAD (b:=bk) (o:=0) (len:=ll.length) (cap:=ll.length) (i:=e1) (o':=0+e1) rfl rfl rfl underlying69 zMj qO qO) (zAt (b:=bk) (o:=0+e1) (c':=((zDZ ll c1 (e1+1)).map (Value.int .u8)).toArray) (v:=(.int .u8 1)) rfl rfl rfl zMj Bk (by simp;omega) (by rw[zMx c9,ce];simp[zUM,List.map_set]) ?_))));intro w23 bv;replace Mm:=bv.keepM qO Mm;replace Bx:=bv.keep qO Bx;replace E:=bv.step E qQ;replace E6:=bv.step E6 (Or.inl qO);replace Bk:=bv.blk;refine zAB (zAS (zAC (zAF (qV (zAw rfl rfl (zBf qO)) (qM _ rfl (zAB (zAC ?_)))))));exact ⟨ll.length - (e1+1),qO,e1+1,zAs.out ⟨rfl,rfl,rfl,rfl,rfl,rfl,rfl,rfl,rfl,rfl,rfl,rfl,rfl,trivial⟩,E,E6,Mm,Bx,Bk,qO,rfl⟩
           ·have c7:=ce;have cq:zDZ ll c1 (e1+1)=zDZ ll c1 e1:=zMy c9 ce;rw[←cq] at Bk;refine zAO (zAS (zAC (zAF (qV (zAw rfl rfl (zBf qO)) (qM _ rfl (zAB (zAC ?_)))))));exact ⟨ll.length - (e1+1),qO,e1+1,zAs.out ⟨rfl,rfl,rfl,rfl,rfl,rfl,rfl,rfl,rfl,rfl,rfl,rfl,rfl,trivial⟩,E,E6,Mm,Bx,Bk,qO,rfl⟩
          ·have em:e1=ll.length:=qO
           rw[em,zPG] at Bk;refine zAl (zAV (zAV (zAf (zAC (zAA (qM _ rfl (qM _ rfl (qV (zCM underlying69 underlying5 underlying9 rfl Bk (by simp[zBL])) (zBo (v:=(.tuple #[(I6 ((zBk (zEh ks 0) (zKg (zBL ll c1))).getD 0)),(.bool ((zBk (zEh ks 0) (zKg (zBL ll c1))).isSome))])) rfl rfl qD (zEd (k:=(zKg (zBL ll c1))) (z:=0) underlying80 (zHb underlying9) zDJ Mm rfl rfl) (qM _ rfl (qV (zAb rfl rfl) (qV (zAb rfl rfl) (qA _ rfl (qA _ rfl (zAB ?_)))))))))))))));have az:=hC.ext E6;have bg:=hI.chg E6 fun _ _ f=>f;have a7:=Nat.le_trans df E6.size;have bs:=hG.cnt;have b1:on=ks.length:=by rw[ar,hG.len]
           refine zFq (fun σ a3=>∃(kk:Nat) (bn:List (List Bool)) (ad:List (List Sp)) (b4:List Value) (c6:Option Addr) (am ak:Nat),(∃jj_,σ=zCT jj_ [(0,(.slice a ll.length c)),(7,(.slice (some ⟨g,0,none⟩) q.length lc)),(13,(.map (some bm))),(16,(P6 bx 0)),(63,(.slice (some ⟨g,0,none⟩) q.length lc)),(64,(I6 (q.length:Int))),(65,(I6 (i2:Int))),(12,(.slice c6 ak am)),(20,(I6 (kk:Int)))])∧Chg zAe w0 a3∧zCG a3 bm zKw zFH (zEh bn 0)∧Blk a3 bx #[(I6 c1),(I6 hi)] 44∧Blk a3 bk ((((zBL ll c1).map zUM).map (Value.int .u8)).toArray) 5∧(bn=zMb ks (zBL ll c1))∧(ad.length=bn.length)∧(∀(j:Nat) q,ad[j]?=some q→aa[j]?=some q∨(j=ks.length∧q=[]∧zBL ll c1∉ks))∧(bn[kk]?=some (zBL ll c1))∧(CSt a3 n1 (.slice c6 ak am) b4 ad)∧(ak=ad.length)∧(zDk (fun b=>b=g) a3 1 (.slice (some ⟨g,0,none⟩) q.length lc) (q.map zND))∧(n1≤a3.heap.size)∧(∀(i:Nat) v b,b4[i]?=some v→v.ownBlock=some b→b<z0)) ?_ ?_
           ·skip
            refine zAA (qM _ rfl (qV (zCa rfl) (zAB (zAx rfl (fun ae=>?_) (fun ae=>?_)))))
            ·have b6:=ae;replace ae:=by simpa using ae
             have fp:zBk (zEh ks 0) (zKg (zBL ll c1))=none:=by simpa using ae
             obtain ⟨b7,c8⟩:=zPK fp;refine zAA (qM _ rfl (qV (zAK underlying35 rfl) (qA _ rfl (zAB (zAA (qM _ rfl (qM _ rfl (qV (zCM underlying69 underlying5 underlying9 rfl Bk (by simp[zBL])) (qM _ rfl (zDL (k:=(zKg (zBL ll c1))) (v:=(on:Int)) underlying80 (zHb underlying9) Mm rfl rfl rfl ?_))))))))));intro w26 bf ej;replace a7:=Nat.le_trans a7 bf.chg.size;replace az:=az.chg bf.chg fun b h1 _ h2=>absurd h2 qO;replace bg:=bg.chg bf.chg fun b h1 h2=>by subst h1;omega
             replace Bx:=bf.keep qO Bx;replace Bk:=bf.keep qO Bk;replace E:=bf.step E qQ;replace Mm:=ej;refine zAB (zAF (qM _ rfl (zAc (ps:=[(0,(.slice none 0 0))]) (c:=#[(.slice none 0 0)]) qD rfl underlying35 zCi zSY qD qD qK ?_)));intro b27 w27 an;have F27:=an.ge E;have O27_bm:=an.ltM Mm;have O27_bx:=an.lt Bx;have O27_bk:=an.lt Bk;replace Mm:=an.keepM Mm;replace Bx:=an.keep Bx;replace Bk:=an.keep Bk;replace az:=az.ext an.ext;replace bg:=bg.chg an.ext fun _ _ f=>f;replace a7:=Nat.le_trans a7 an.ext.size;replace E:=E.ext an.ext;have e9:=an.blk;refine zBt (base:=n1) (n:=on) (m:=1) (xs:=vs) (news:=[(.slice none 0 0)]) (size:=1) (bytes:=24) (v:=(.slice oa on oc)) qD underlying35 zCi zYY zSY rfl qD rfl (az.on ar) rfl (rfl) (e9.cells rfl) qS (by unfold maxLen;omega) qO (a7) ?_;intro v7 w59 dz a6 fr;replace Mm:=a6.keepM (fun h=>by have:=(az.o.lt _ h).1;omega) Mm;replace Bx:=a6.keep (fun h=>by have:=(hC.o.lt _ h).2;omega) Bx;replace Bk:=a6.keep (fun h=>by have:=(hC.o.lt _ h).2;omega) Bk;replace E:=E.step a6 (fun x hx h=>absurd ((az.on ar).lt x h).1 qO);obtain ⟨fd,fg,rfl⟩:=zBR dz;rw[b1,c8] at Mm;refine qA _ rfl (zAB (zAC ?_));exact ⟨on,ks++[zBL ll c1],aa++[[]],vs++[.slice none 0 0],fd,fg,on+1,zAs.out ⟨rfl,rfl,rfl,rfl,rfl,rfl,rfl,rfl,rfl,trivial⟩,E,Mm,Bx,Bk,(by unfold zMb;rw[if_neg b7]),(by simp;omega),zSj hG.len b7,(by rw[b1];simp),az.push (by rw[←ar];exact dz) a6 fr,(by simp;omega),bg.chg a6 fun b h1 h2=>by subst h1;have:=(az.o.lt _ h2).1;omega,Nat.le_trans a7 a6.size,zSk bz⟩
            ·have b6:=ae;replace ae:=by simpa using ae
             have fs:(zBk (zEh ks 0) (zKg (zBL ll c1))).isSome=true:=by simpa using ae
             obtain ⟨v9,ed⟩:=Option.isSome_iff_exists.1 fs;obtain ⟨j9,rfl,d5⟩:=zRD ed;rw[show (zBk (zEh ks 0) (zKg (zBL ll c1))).getD 0=((j9:Nat):Int) from by rw[ed];rfl];refine zAO (zAC ?_);exact ⟨j9,ks,aa,vs,oa,oc,on,zAs.out ⟨rfl,rfl,rfl,rfl,rfl,rfl,rfl,rfl,rfl,trivial⟩,E,Mm,Bx,Bk,(by unfold zMb;rw[if_pos (List.mem_of_getElem? d5)]),qO,(fun j q h=>.inl h),d5,az,ar,bg,a7,bz⟩
           ·clear E Mm Bx Bk;rintro _ a3 ⟨kk,bn,ad,b4,c6,am,ak,⟨j24,rfl⟩,E,Mm,Bx,Bk,da,dr,cf,a9,a5,be,ew,ez,eb⟩;obtain ⟨o1,ag⟩:=zAJ (l:=ad) (i:=kk) (by have:=zAE a9;omega);obtain ⟨v1,ba⟩:=zAJ (l:=b4) (i:=kk) (by have:=a5.len;have:=zAE a9;omega);obtain ⟨va,vc,rfl⟩:=zBR (a5.inn kk v1 o1 ba ag);have hko:=zAE ag;have fm:o1.length≤i2:=by rcases cf kk o1 ag with h1|⟨_,h1,_⟩;exact (hG.ok kk o1 h1).2;subst h1;exact Nat.zero_le _
            obtain ⟨gg,rfl,dx,du⟩:=zBS (a5.on be) qO;have a4:=a5.o.lt gg rfl;have a0:=a5.inn kk _ o1 ba ag;obtain ⟨h0,e2⟩:∃h0,h0=(a3).heap.size:=⟨_,rfl⟩;obtain ⟨cz,ab⟩:∃Fs:List (FactT ((fun y=>(Value.slice va o1.length vc).ownBlock=some y))),Fs=[.eq (.slice (some ⟨gg,0,none⟩) ak am),.eq (I6 (kk:Int)),.eq (.slice (some ⟨gg,0,none⟩) ak am),.eq (I6 (kk:Int)),.eq (.pointer (some ⟨gg,0+kk,none⟩)),.eq (.slice va o1.length vc),.eq (.agg #[(I6 c1),(I6 hi)]),.till (zEF TSp #[.int .i64 c1,.int .i64 hi] 0) (zKT _ _ _),.own (zDI n1 TSp 2 (o1.length+1) ((o1.map zBw).flatten++[Value.int .i64 c1,Value.int .i64 hi]) (.slice va o1.length vc) h0) (zKm _ _ _ _ _ _ _)]:=⟨_,rfl⟩;refine zFW ((fun y=>(Value.slice va o1.length vc).ownBlock=some y)) 9 8 [121,122,123,124,125,126,127,128,129] [[],[],[],[],[2,3],[4],[],[6],[5,7]] cz ab rfl mixed qK qK qK ?_ ?_
            ·intro wd X0;refine DagStepsT.cons (fun s' w' X U H=>?_) ?_
             ·exact zAQ (zAj (U 12 rfl)) (Chg.refl _ _) rfl
             refine DagStepsT.cons (fun s' w' X U H=>?_) ?_
             ·exact zAQ (zAj (U 20 rfl)) (Chg.refl _ _) rfl
             refine DagStepsT.cons (fun s' w' X U H=>?_) ?_
             ·exact zAQ (zAj (U 12 rfl)) (Chg.refl _ _) rfl
             refine DagStepsT.cons (fun s' w' X U H=>?_) ?_
             ·exact zAQ (zAj (U 20 rfl)) (Chg.refl _ _) rfl
             refine DagStepsT.cons (fun s' w' X U H=>?_) ?_
             ·have dg:s' 123=(.slice (some ⟨gg,0,none⟩) ak am):=H 2 rfl 123 (.eq (.slice (some ⟨gg,0,none⟩) ak am)) rfl (by rw[ab];rfl);have c3:s' 124=(.int .i64 ((kk:Nat):Int)):=H 3 rfl 124 (.eq (.int .i64 ((kk:Nat):Int))) rfl (by rw[ab];rfl);exact zAQ (zAD (i:=kk) dg c3 rfl underlying35 zCi qO qO) (Chg.refl _ _) rfl
             refine DagStepsT.cons (fun s' w' X U H=>?_) ?_
             ·have dj:s' 125=(.pointer (some ⟨gg,0+kk,none⟩)):=H 4 rfl 125 (.eq (.pointer (some ⟨gg,0+kk,none⟩))) rfl (by rw[ab];rfl);exact zAQ (zAG dj zCs (by have h1:=du kk _ ba;exact (Ext.cell X (X0.cell h1)))) (Chg.refl _ _) rfl
             refine DagStepsT.cons (fun s' w' X U H=>?_) ?_
             ·exact zAQ (zAP (U 16 rfl) zIo zCK rfl ((Chg.keep X (fun h=>by have:=eb kk _ _ ba h;omega) (X0.keep Bx)).cells rfl)) (Chg.refl _ _) rfl
             refine DagStepsT.cons (fun s' w' X U H=>?_) ?_
             ·have dq:s' 127=(.agg #[(.int .i64 c1),(.int .i64 hi)]):=H 6 rfl 127 (.eq (.agg #[(.int .i64 c1),(.int .i64 hi)])) rfl (by rw[ab];rfl);exact zCH underlying23 zCK zGF dq qD qD qK (Nat.zero_le _)
             refine DagStepsT.cons (fun s' w' X U H=>?_) ?_
             ·have dd:s' 126=(.slice va o1.length vc):=H 5 rfl 126 (.eq (.slice va o1.length vc)) rfl (by rw[ab];rfl);obtain ⟨er,cy,dp,_⟩:=(show (.till (zEF TSp #[.int .i64 c1,.int .i64 hi] 0) (zKT _ _ _):FactT ((fun y=>(Value.slice va o1.length vc).ownBlock=some y))).In (s' 128) w' from FactT.at_false (H 7 rfl 128 (.till (zEF TSp #[.int .i64 c1,.int .i64 hi] 0) (zKT _ _ _)) rfl (by rw[ab];rfl)));exact zBe underlying23 zCK zSD zGF rfl qD dd (zAg (zAg a0 X0) X) cy rfl (dp.cells rfl) qS (by unfold maxLen;omega) qO (by have:=X0.size;have:=X.size;omega) (fun y h=>h) (by have:=X0.size;have:=X.size;omega)
             exact DagStepsT.nil
            ·intro s' eh eo X0 cm U H;have cv:s' 121=(.slice (some ⟨gg,0,none⟩) ak am):=H 0 121 (.eq (.slice (some ⟨gg,0,none⟩) ak am)) rfl (by rw[ab];rfl);have cr:s' 122=(.int .i64 ((kk:Nat):Int)):=H 1 122 (.eq (.int .i64 ((kk:Nat):Int))) rfl (by rw[ab];rfl);obtain ⟨⟨au,ao,a8⟩,b0,bu⟩:=(show (.own (zDI n1 TSp 2 (o1.length+1) ((o1.map zBw).flatten++[Value.int .i64 c1,Value.int .i64 hi]) (.slice va o1.length vc) h0) (zKm _ _ _ _ _ _ _):FactT ((fun y=>(Value.slice va o1.length vc).ownBlock=some y))).In (s' 129) eo from H 8 129 (.own (zDI n1 TSp 2 (o1.length+1) ((o1.map zBw).flatten++[Value.int .i64 c1,Value.int .i64 hi]) (.slice va o1.length vc) h0) (zKm _ _ _ _ _ _ _)) rfl (by rw[ab];rfl));obtain ⟨j28,rfl⟩:=zAs.out (σ:=s') (l:=[(0,(.slice a ll.length c)),(7,(.slice (some ⟨g,0,none⟩) q.length lc)),(12,(.slice (some ⟨gg,0,none⟩) ak am)),(13,(.map (some bm))),(63,(.slice (some ⟨g,0,none⟩) q.length lc)),(64,(.int .i64 ((q.length:Nat):Int))),(65,(.int .i64 ((i2:Nat):Int))),(121,(.slice (some ⟨gg,0,none⟩) ak am)),(122,(.int .i64 ((kk:Nat):Int))),(129,(.slice au (o1.length+1) ao))]) ⟨U 0 rfl,U 7 rfl,U 12 rfl,U 13 rfl,U 63 rfl,U 64 rfl,U 65 rfl,cv,cr,a8,trivial⟩;clear U H;replace Mm:=Chg.keepM cm (fun h=>by have:=(a0.lt _ h).1;omega) (X0.keepM Mm);replace Bx:=Chg.keep cm (fun h=>by have:=eb kk _ _ ba h;omega) (X0.keep Bx);have cn:=Chg.trans (Ext.chg X0) cm;replace E:=(E.ext X0).step cm (fun y hy h=>by have:=(a0.lt _ h).1;omega);obtain ⟨cd,al,dw⟩:=zKP (zAn (a5.on be) cn (fun b hb hm=>a5.apo kk _ _ ba hm hb));have db:=ew.chg cn fun b h1 h2=>by subst h1;have:=(a0.lt _ h2).1;omega
             have cu:=Nat.le_trans ez cn.size;refine qV (zAD (b:=gg) (o:=0) (len:=ak) (cap:=am) (i:=kk) (o':=0+kk) rfl rfl rfl underlying35 zCi qO qO) ?_;have ax:=al;have ay:True:=trivial;refine zAt (b:=gg) (o:=0+kk) (c':=cd.setIfInBounds (0+kk) (.slice au (o1.length+1) ao)) (v:=(.slice au (o1.length+1) ao)) rfl rfl rfl zCi al qO (rfl) ?_;intro fb bi;replace db:=db.chg bi.chg fun b h1 h2=>by subst h1;omega
             replace cu:=Nat.le_trans cu bi.chg.size;replace ay:=bi;replace Mm:=bi.keepM qO Mm;replace E:=bi.step E qQ;replace al:=bi.blk;have en:=a5.grow be ba ag (x:=(c1,hi)) (v':=.slice au (o1.length+1) ao) (by rw[a8] at b0;simpa[zBw] using b0) cn (by rw[a8,e2] at bu;exact bu) ax (by simpa using ay);refine zAB (zAS (zAC (zAF (qV (zAw rfl rfl (zBf qO)) (qM _ rfl (zAB (zAC ?_)))))));exact ⟨p.length - (i2+1),qO,i2+1,bn,ad.set kk (o1++[(c1,hi)]),b4.set kk (.slice au (o1.length+1) ao),some ⟨gg,0,none⟩,am,ak,zAs.out ⟨rfl,rfl,rfl,rfl,rfl,rfl,rfl,trivial⟩,E,Mm,(by rw[e6];exact hG.step hP bd d0 da dr cf a9 ag),qO,en,(by simp;omega),db,cu,rfl⟩
      ·have dn:i2=p.length:=qO
       have a2:=hG;rw[dn] at a2;have dc:=hC.join;have bs:=hG.cnt;have ct:=hG.len;refine zAl (zAV (zAV (zAf (zAC (zAH (zAA (qM _ rfl (qV (zAK underlying35 rfl) (qM _ rfl (zAB (zAT (zAo (fun nn_ σ ci=>∃(k3:Nat) (cs:List (List Sp)) (us:List Value),(∃jj_,σ=zCT jj_ [(12,(.slice oa on oc)),(133,(I6 (on:Int))),(134,(I6 (k3:Int)))])∧Chg zAe w0 ci∧(k3≤aa.length)∧(JSt ci n1 (.slice oa on oc) us aa cs k3)∧(∀c∈cs,c.length≤16)∧(n1≤ci.heap.size)∧nn_=aa.length - k3) (n:=aa.length - 0) ?_ ?_))))))))))))
       ·exact ⟨0,[],vs,zAs.out ⟨rfl,rfl,rfl,trivial⟩,E,Nat.zero_le _,dc,qP,df,rfl⟩
       ·clear E;rintro _ _ ci ⟨k3,cs,us,⟨j30,rfl⟩,E,ei,hJ,b3,ef,rfl⟩;refine zAA (qV (zBA rfl rfl) (zAB (zAH (qC rfl (fun bb=>?_) (fun bb=>?_)))))
        ·obtain ⟨o1,ag⟩:=zAJ (l:=aa) (i:=k3) qO;obtain ⟨u1,bo⟩:=zAJ (l:=us) (i:=k3) (by have:=hJ.len;omega);obtain ⟨⟨ua,uc,rfl⟩,dh⟩:=hJ.rst k3 u1 o1 (Nat.le_refl _) bo ag;have ap:=hJ.o;rw[←ar] at ap;obtain ⟨gg,rfl,dx,du⟩:=zBS ap qO;have a4:=ap.lt gg rfl;have dt:=(a2.ok k3 o1 ag);refine zAO (zAC (zAH (zAT (zAA (qM _ rfl (qA _ rfl (zAB (zAA (qM _ rfl (qM _ rfl (qM _ rfl (qM _ rfl (qV (zAD (b:=gg) (o:=0) (len:=on) (cap:=oc) (i:=k3) (o':=0+k3) rfl rfl rfl underlying35 zCi qO qO) (qV (zAG (v:=(.slice ua o1.length uc)) rfl zCs ((by have h1:=(ap.cells (g:=gg) rfl) k3 _ bo;rwa [Addr.add_lit] at h1))) (qE rfl (zAU func48 kQ kQ rfl) (zUw _ _ o1 dh.at qO dt.1) ?_)))))))))))))));rintro _ fe ⟨⟨j1,cb,⟨⟨ja,jc,rfl⟩,de⟩⟩,a1⟩;replace E:=E.ext a1;obtain ⟨cd,al,dw⟩:=zKP (zAg ap a1);refine qV (zAD (b:=gg) (o:=0) (len:=on) (cap:=oc) (i:=k3) (o':=0+k3) rfl rfl rfl underlying35 zCi qO qO) ?_;have ax:=al;have ay:True:=trivial;refine zAt (b:=gg) (o:=0+k3) (c':=cd.setIfInBounds (0+k3) (.slice ja j1.length jc)) (v:=(.slice ja j1.length jc)) rfl rfl rfl zCi al qO (rfl) ?_;intro e3 co;replace ay:=co;replace E:=co.step E qQ;replace al:=co.blk;refine zAB (zAA (qM _ rfl (qM _ rfl (qV (zAD (b:=gg) (o:=0) (len:=on) (cap:=oc) (i:=k3) (o':=0+k3) rfl rfl rfl underlying35 zCi qO qO) (qV (zAG rfl zCs (al.cell (by rw[Array.getElem?_setIfInBounds_self_of_lt qO]))) ?_)))));refine qV (zAK underlying23 rfl) (qV (zEN rfl rfl) (zAB (qC rfl (fun di=>?_) (fun di=>?_))))
         ·refine zAA (qA _ rfl (qA _ rfl (zAB (zAW (zAh (zAX (zAX (zAh (zAX (zCY results17 (v:=(.slice none 0 0)) (v':=(.int .i64 2)) rfl rfl ?_))))))))));obtain ⟨cF,c2,dl⟩:=zMI a2 hP ag cb qO;exact ⟨⟨[],2,.inr ⟨bj,cF,c2,.inl ⟨dl,rfl,rfl⟩⟩,none,0,rfl,zGK _⟩,E⟩
         ·refine zAO (zAS (zAC (zAF (qV (zAw rfl rfl (zBf qO)) (qM _ rfl (zAB (zAC ?_)))))));exact ⟨aa.length - (k3+1),qO,k3+1,cs++[j1],us.set k3 (.slice ja j1.length jc),zAs.out ⟨rfl,rfl,rfl,trivial⟩,E,qO,(by have hS:=JSt.step (hJ.ext a1) ar ag (⟨⟨_,_,rfl⟩,de⟩:zSO _ _ _ j1) a4.2 cb ax (by simpa using ay);exact hS),(fun c hc=>by rcases List.mem_append.1 hc with h1|h1;exact b3 c h1;rw[List.mem_singleton] at h1;subst h1;omega),(by have:=a1.size;have:=ay.chg.size;omega),rfl⟩
        ·have ai:k3=aa.length:=qO
         have av:=a2.done hP (by rw[hJ.cl,ai]) hJ.jn;have aw:=hJ.done ai;have aq:cs.length=on:=by rw[hJ.cl,ai,ar]
         refine zAl (zAV (zAV (zAf (zAC (zAH (zAA (qM _ rfl (qV (zAK underlying35 rfl) (qV (zEN rfl rfl) (zAB (qC rfl (fun bc=>?_) (fun bc=>?_))))))))))))
         ·refine zAA (qA _ rfl (qA _ rfl (zAB (zAW (zAX (zCY results17 (v:=(.slice none 0 0)) (v':=(.int .i64 2)) rfl rfl ?_))))));exact ⟨⟨[],2,.inr ⟨bj,cs,av,.inl ⟨.inr qO,rfl,rfl⟩⟩,none,0,rfl,zGK _⟩,E⟩
         ·refine zAO (zAC (zAA (qM _ rfl (qA _ rfl (qA _ rfl (zAB (zAW (zCY results17 (v:=(.slice oa on oc)) (v':=(.int .i64 0)) rfl rfl ?_))))))));rw[←aq] at aw;exact ⟨⟨cs,0,.inr ⟨bj,cs,av,.inr ⟨fun c5=>by rcases c5 with ⟨c,h1,h2⟩|h2;have:=b3 c h1;omega;omega,rfl,rfl⟩⟩,oa,oc,by rw[aq],aw⟩,E⟩
end Go.Proofs
namespace Go.Proofs
open Go Go.Eng Go.Sort
set_option maxRecDepth 100000
section
variable {f g : Int → List Bool}
def zST (f:Int→List Bool) (acc:List Int) (r:Int):List Int:=if f r∈acc.map f then acc else acc++[r]
theorem zHA:∀(p acc:List Int),(p.map f).foldl zMb (acc.map f)=(p.foldl (zST f) acc).map f
  | [],acc=>rfl
  | r::p,acc=>by
    rw[List.map_cons,List.foldl_cons,List.foldl_cons,←zHA p (zST f acc r)];congr 1;unfold zMb zST;split<;>simp
theorem zQa (h:∀r s,f r=f s↔g r=g s) (acc:List Int) (r:Int):zST f acc r=zST g acc r:=by
 have e:f r∈acc.map f↔g r∈acc.map g:=by
  rw[List.mem_map,List.mem_map];exact ⟨fun ⟨a,h1,h2⟩=>⟨a,h1,(h a r).1 h2⟩,fun ⟨a,h1,h2⟩=>⟨a,h1,(h a r).2 h2⟩⟩
 unfold zST;by_cases hm:f r∈acc.map f
 ·rw[if_pos hm,if_pos (e.1 hm)]
 ·rw[if_neg hm,if_neg (fun h=>hm (e.2 h))]
theorem zLM (h:∀r s,f r=f s↔g r=g s):∀(p acc:List Int),p.foldl (zST f) acc=p.foldl (zST g) acc
  | [],_=>rfl
  | r::p,acc=>by rw[List.foldl_cons,List.foldl_cons,zQa h,zLM h p]
end
theorem zLe (ll:List (List Sp)) (r s:Int):zBL ll r=zBL ll s↔∀l∈ll,inS l r=inS l s:=by
 unfold zBL;rw[List.map_inj_left]
theorem zRt {ll ll' cs:List (List Sp)} (hm:∀l,l∈ll↔l∈ll') (h:zPW ll cs):zPW ll' cs:=by
 obtain ⟨p,hp,hl,hk⟩:=h;have aa:∀r s,zBL ll r=zBL ll s↔zBL ll' r=zBL ll' s:=fun r s=>by
  rw[zLe,zLe];exact ⟨fun h l hl=>h l ((hm l).2 hl),fun h l hl=>h l ((hm l).1 hl)⟩
 have ab:∀s,s∈ll.flatten↔s∈ll'.flatten:=fun s=>by
  rw[List.mem_flatten,List.mem_flatten];exact ⟨fun ⟨l,h1,h2⟩=>⟨l,(hm l).1 h1,h2⟩,fun ⟨l,h1,h2⟩=>⟨l,(hm l).2 h1,h2⟩⟩
 have e1:zDA (p.map (zBL ll))=(p.foldl (zST (zBL ll)) []).map (zBL ll):=zHA p [];have e2:zDA (p.map (zBL ll'))=(p.foldl (zST (zBL ll)) []).map (zBL ll'):=by
  rw[zLM aa p []];exact zHA p []
 refine ⟨p,⟨hp.1,fun k=>(hp.2 k).trans ?_⟩,?_,?_⟩
 ·unfold zJw;exact ⟨fun h=>h.imp id fun ⟨s,h1,h2⟩=>⟨s,(ab s).1 h1,h2⟩,fun h=>h.imp id fun ⟨s,h1,h2⟩=>⟨s,(ab s).2 h1,h2⟩⟩
 ·rw[hl,e1,e2,List.length_map,List.length_map]
 ·intro k key c h1 h2;rw[e2,List.getElem?_map,Option.map_eq_some_iff] at h1;obtain ⟨r,hr,rfl⟩:=h1;have h3:=hk k (zBL ll r) c (by rw[e1,List.getElem?_map,hr];rfl) h2;exact ⟨h3.1,fun s h0 h1=>by rw[h3.2 s h0 h1];exact decide_eq_decide.2 (aa s r)⟩
theorem zRs {ll ll' out:List (List Sp)} {e:Int} (hm:∀l,l∈ll↔l∈ll') (hv:∀l∈ll,zBO l=0) (h:zNJ ll out e):zNJ ll' out e:=by
 have aa:∀l∈ll',zBO l=0:=fun l hl=>hv l ((hm l).2 hl);rcases h with ⟨h1,_⟩|⟨_,cs,hc,hf⟩
 ·exact absurd (zFV hv) h1
 ·exact .inr ⟨zFV aa,cs,zRt hm hc,hf⟩
theorem zOc {P:List Sp→Prop} (t:Re):zIz P t↔(t.kind=2→P t.set)∧∀y∈t.args,zIz P y:=by
  cases t with
  | mk k s a m x g=>simp only[zIz,zMP];rfl
theorem zUU {P:List Sp→Prop}:∀(n:Nat) (t:Re),t.size≤n→(zIz P (zBy t)↔zIz P t):=by
  intro n
  induction n with
  | zero=>intro t h;have:=t.size_pos;omega
  | succ n ih=>
  intro t hn;rw[zOc (zBy t),zOc t,zMl];have hb:∀y∈t.args,y.size≤n:=fun y hy=>by
    obtain ⟨i,hi⟩:=List.getElem?_of_mem hy;have h1:=Re.size_arg hi;omega
  have aa:∀z,z∈zJD t.kind (t.args.map zBy)↔∃y∈t.args,zBy y=z:=fun z=>by
    unfold zJD;split
    · rw[List.mem_reverse,List.mem_map]
    · rw[List.mem_map]
  show ((t.kind=2→P t.set)∧∀z∈zJD t.kind (t.args.map zBy),zIz P z)↔_;refine and_congr Iff.rfl ⟨fun h y hy=>(ih y (hb y hy)).1 (h _ ((aa _).2 ⟨y,hy,rfl⟩)),fun h z hz=>?_⟩;obtain ⟨y,hy,rfl⟩:=(aa z).1 hz;exact (ih y (hb y hy)).2 (h y hy)
theorem zOJ {t:Re} {x:List Sp}:x∈zCq t↔¬zIz (fun s=>s≠x) t:=
 ⟨fun h ha=>zHz ha x h rfl,fun h=>Classical.byContradiction fun hn=>h (zNe fun s hs e=>hn (e▸hs))⟩
theorem zSn (t:Re) (x:List Sp):x∈zCq (zBy t)↔x∈zCq t:=by
 rw[zOJ,zOJ,zUU _ t (Nat.le_refl _)]
end Go.Proofs
namespace Go.Proofs
open Go Go.Eng Go.Sort
set_option maxRecDepth 100000
def zIu (c:Nat) (d:Dfa):Prop:=zCc c (beh d 0) d∧d.start=0
theorem zIu.of {c:Nat} {f:List Nat→Int} {d:Dfa} (h:zCc c f d):zIu c d:=
 ⟨h.congr fun w hw=>by have h1:=h.ok;rw[←h1.2.2.1 w hw,h1.2.1],h.ok.2.1⟩
theorem zQz:∀n:Nat,(List.replicate n (-1:Int)).foldl max 0=0
  | 0=>rfl
  | n+1=>by rw[List.replicate_succ,List.foldl_cons];exact zQz n
theorem zNL (c:Nat) (a:Int) (ha : -1≤a):zIu c ⟨0,[a],[List.replicate c (-1)]⟩:=by
  have aa:([List.replicate c (-1)]:List (List Int)).flatten=List.replicate c (-1):=qP
  have ab:∀(s:Int) (x:Nat),toD ⟨0,[a],[List.replicate c (-1)]⟩ s x = -1:=fun s x=>by
    unfold toD;split
    · rfl
    · cases s.toNat with
      | zero=>
        show (List.replicate c (-1:Int)).getD x (-1) = -1;rw[List.getD];cases h:(List.replicate c (-1:Int))[x]? with
        | none=>rfl
        | some y=>rw[Option.getD_some];exact zGr (List.mem_of_getElem? h)
      | succ n=>simp[List.getD]
  refine ⟨⟨1,⟨⟨rfl,rfl,qP,by simpa using ha,?_⟩,rfl,?_,?_,?_⟩,fun w _=>rfl,?_,?_⟩,rfl⟩
  · intro r hr;simp only[List.mem_singleton] at hr;subst hr;exact ⟨List.length_replicate ..,fun x hx=>by rw[zGr hx];simp⟩
  · intro k x h;rw[aa] at h⊢;have hx:=zGr (List.mem_of_getElem? h);have h2:=zQw ((List.replicate c (-1:Int)).take k) 0;unfold mxL;omega
  · intro i hi;obtain rfl:i=0:=qO
    rw[Nat.zero_mul,List.take_zero];decide
  · rw[aa];unfold mxL;rw[zQz];rfl
  · intro s t h1 h2 h3 h4 _;have e1:s<1:=h2;have e2:t<1:=h4;omega
  · intro s x _ h;rw[ab] at h;exact absurd h qD
section
variable {c : Nat} {cs : List (List Sp)}
theorem zUG {a b d:Dfa} (h:catO c a b=some d):zIu c d:=by
 unfold catO at h;split at h
 ·exact .of (zCb h)
 ·cases h
theorem zWA {k:Int} {a b d:Dfa} (h:opK c k a b=some d):zIu c d:=by
 unfold opK at h;split at h
 ·unfold catO at h;split at h
  ·exact .of (zCb h)
  ·cases h
 ·unfold prsO at h;split at h
  ·exact .of (zCb h)
  ·cases h
theorem zLt {k:Int}:∀{ds:List Dfa} {d e:Dfa},zIu c d→foldK c k d ds=some e→zIu c e
  | [],d,e,hd,h=>by simp only[foldK,Option.some.injEq] at h;rw[←h];exact hd
  | x::l,d,e,hd,h=>by
    obtain ⟨d',h1,h2⟩:=zJl h;exact zLt (zWA h1) h2
theorem zTA {mn:Int} {a m:Dfa}:∀{k:Nat} {e:Dfa},repK c mn a m k=some e→zIu c e
  | 0,e,h=>by simp only[repK,Option.some.injEq] at h;rw[←h];exact zNL c 0 qD
  | k+1,e,h=>by
    rw[repK] at h;obtain ⟨o,_,h2⟩:=zCe h;exact zUG h2
theorem zVc:∀(n:Nat) (t:Re),t.size≤n→zDo t→∀d,trN c cs t=some d→zIu c d:=by
  intro n
  induction n with
  | zero=>intro t h;have:=t.size_pos;omega
  | succ n ih=>
  intro t hn ae d h;have hN:=zHt (zED ae);have ab:∀y∈t.args,∀e,trO c cs y=some e→zIu c e:=fun y hy e he=>by
    obtain ⟨i,hi⟩:=List.getElem?_of_mem hy;have h1:=Re.size_arg hi;exact ih y qO (zIO (zEE ae) hi) e (zGW he)
  have aa:t.args.length=1→∃y,t.args[0]?=some y∧y∈t.args:=fun h1=>by
    obtain ⟨y,hy⟩:=zAJ (l:=t.args) (i:=0) qO;exact ⟨y,hy,List.mem_of_getElem? hy⟩
  have hk:=hN.k;by_cases h1:t.kind=1
  · rw[zVd h1] at h;rw[←Option.some.inj h];exact zNL c 0 qD
  by_cases h2:t.kind=2
  · rw[zSe h2] at h;exact .of (zCb h)
  by_cases hl:t.kind=3∨t.kind=4∨t.kind=7
  · have ac:=hN.two qO;cases hL:trL c cs t.args with
    | none=>rw[zHT hl hL] at h;cases h
    | some ds=>
      match hargs:t.args,ab,hL with
      | [],_,_=>rw[hargs] at ac;simp at ac
      | x::xs,ab,hL=>
        have af:=hL;obtain ⟨a,l,rfl,ha,hl2⟩:=zID hL;rw[zPy hl (by rw[hargs];exact af)] at h;exact zLt (ab x List.mem_cons_self a ha) h
  by_cases h5:t.kind=5
  · have ho:=hN.one qO;obtain ⟨y,hy,ad⟩:=aa ho;rw[zQA h5 ho hy] at h;obtain ⟨a,ha,h⟩:=zCe h;unfold stO at h;split at h
    · exact .of (zCb h)
    · cases h
  by_cases h6:t.kind=6
  · have ho:=hN.one qO;obtain ⟨y,hy,ad⟩:=aa ho;rw[zPz h6 ho hy] at h;obtain ⟨a,ha,h⟩:=zCe h;obtain ⟨m,hm,h⟩:=zCe h;exact zTA h
  by_cases h8:t.kind=8
  · have ho:=hN.one qO;obtain ⟨y,hy,ad⟩:=aa ho;rw[zSd h8 ho hy] at h;obtain ⟨a,ha,h⟩:=zCe h;exact .of (zCb h)
  by_cases h9:t.kind=9
  · have ho:=hN.one qO;obtain ⟨y,hy,ad⟩:=aa ho;rw[zSc h9 ho hy] at h;exact ab y ad d h
  rw[zVe qO] at h;rw[←Option.some.inj h];exact zNL c (-1) qD
theorem zVR {t:Re} (hok:zDo t) {d:Dfa} (h:trO c cs t=some d):zIu c d:=zVc _ t (Nat.le_refl _) hok d (zGW h)
open Classical in
theorem zSa (hc:c=cs.length) {t:Re} (hok:zDo t) {d:Dfa} (h:trO c cs t=some d):zCc c (fun w=>if zJx t (zGQ cs w) then 0 else -1) d:=by
 obtain ⟨h1,h2⟩:=zVR hok h;exact h1.congr fun w hw=>by have h3:=zNX hc hok h w hw;rw[h2] at h3;exact h3
end
end Go.Proofs
namespace Go.Proofs
open Go Go.Eng Go.Sort
set_option maxRecDepth 100000
def zXj (f:List Nat→Int) (w:List Nat):Int:=if 0≤f w.reverse then 0 else -1
theorem inW.reverse {c:Nat} {w:List Nat} (h:inW c w):inW c w.reverse:=fun x hx=>h x (List.mem_reverse.1 hx)
theorem zOr {n c:Nat} {m:Dfa} (ok:OkD n c m):zFZ n m []=m.accept.map fun a=>decide (0≤a):=by
 have hal:=ok.al;apply List.ext_getElem?;intro i;unfold zFZ;rw[List.getElem?_map,List.getElem?_map];rcases Nat.lt_or_ge i n with h|h
 ·rw[List.getElem?_range h];obtain ⟨a,ha⟩:=zAJ (l:=m.accept) (i:=i) qO;rw[ha];simp only[Option.map_some,List.reverse_nil,beh];rw[zDi ha]
 ·rw[List.getElem?_eq_none (by simp;omega),List.getElem?_eq_none qO];rfl
theorem zBV.parts {w:World} {d:Dfa} {s:Int} {ca ma:Option Addr} {cc mc n1 n2:Nat} (h:zBV w d [.int .i64 s,.slice ca n1 cc,.slice ma n2 mc]):zBa w (.slice ca n1 cc) d.accept∧zDT w (.slice ma n2 mc) d.next:=by
 obtain ⟨_,_,_,_,hq,h1,h2⟩:=h;simp only[List.cons.injEq,Value.slice.injEq,and_true] at hq;obtain ⟨_,⟨rfl,rfl,rfl⟩,rfl,rfl,rfl⟩:=hq;exact ⟨h1,h2⟩
theorem zNZ (n:Nat) (m:Dfa) (M:List Bool) (x:Nat):(zGn n m (zCB M) x).isSome=(zOx n m M x).any id∧∀q,zGn n m (zCB M) x=some q→zCB (zOx n m M x)=q:=by
  unfold zGn;rw[zGd];cases (zOx n m M x).any id with
  | true=>exact ⟨rfl,fun q h=>Option.some.inj h⟩
  | false=>exact ⟨rfl,fun q h=>by cases h⟩
theorem zYb (w0 : World) (n c t : Nat) (d : Dfa) (dv : List Value) (ok : OkD n c d) (h : zBV w0 d dv) (hn : 1 ≤ n ∧ n ≤ 200) (hc : 1 ≤ c ∧ c ≤ 16) (hac : ∀ x ∈ d.accept, x < 2147483648) (ht : t ≤ 200) (hfew : ∀ m, zCc c (beh d d.start) m → m.next.length ≤ n → zHl c (zGn m.next.length m) (zCB (zFZ m.next.length m [])) t) :
  Ret prog 11 #[.agg dv.toArray] w0 fun r w => CanE c (zXj (beh d d.start)) t w0.heap.size r w ∧ Ext w0 w := by
 have h' := h
 obtain ⟨aa, ac, na, nc, rfl, _, _⟩ := h'
 refine zDE func11 rfl ntmps11 (Nat.le_of_ble_eq_true rfl) ?_
 have E : Chg zAe w0 w0 := Chg.refl _ _
 refine zAA ?_
 refine zBY (v := (.agg #[(I6 d.start), (.slice aa d.accept.length ac), (.slice na d.next.length nc)])) (c := #[(I6 d.start), (.slice aa d.accept.length ac), (.slice na d.next.length nc)]) (by decide) rfl rfl ?_
 intro bp wp Np
 have Fp := Np.ge E
 replace E := E.ext Np.ext
 have Bp := Np.blk
 refine zBB (c := #[(I6 0), (.slice none 0 0), (.slice none 0 0)]) (by decide) zBn rfl ?_
 intro br wr Nr
 have Fr := Nr.ge E
 have Or_bp := Nr.lt Bp
 replace Bp := Nr.keep Bp
 replace E := E.ext Nr.ext
 have Br := Nr.blk
 refine qA _ rfl ?_
 refine zAB (zAH (zAA ?_))
 refine qV (zAP (vs := [(I6 d.start), (.slice aa d.accept.length ac), (.slice na d.next.length nc)]) rfl zBC zAi rfl (Bp.cells rfl)) ?_
 refine zDC rfl rfl (by decide) (zAU func36 kQ kQ rfl) (zTv _ d _ (h.ext E)) ?_
 rintro _ w9 ⟨rfl, X9⟩
 replace Bp := X9.keep Bp
 replace Br := X9.keep Br
 replace E := E.ext X9
 refine qA _ rfl ?_
 refine zAB (zAA ?_)
 refine qM _ rfl ?_
 refine qV (zEY rfl rfl) ?_
 refine zAB ?_
 have hc1 : (decide ((zEV d : Int) ≠ 0)) = false := decide_eq_false (by rw [zQm ok hn hc]; decide)
 refine zAN (congrArg Value.bool hc1) ?_
 refine zAO (zAC (zAA ?_))
 refine qV (zAP (vs := [(I6 d.start), (.slice aa d.accept.length ac), (.slice na d.next.length nc)]) rfl zBC zAi rfl (Bp.cells rfl)) ?_
 refine zDC rfl rfl (by decide) (zAU func37 kQ kQ rfl) (zEy _ n c d _ ok (h.ext E) ⟨by omega, hc⟩ hac) ?_
 rintro _ w99 ⟨⟨m, ca, cc, ma, mc, hm, hml, hma, rfl, hmN⟩, X99⟩
 replace Bp := X99.keep Bp
 replace Br := X99.keep Br
 replace E := E.ext X99
 obtain ⟨okm, stm, bhm, gem⟩ := hm.ok
 obtain ⟨N, hNe⟩ : ∃ N, N = m.next.length := ⟨_, rfl⟩
 have hmD := hmN.at'
 have hal := okm.al
 rw [hal] at hmD
 rw [hal]
 rw [← hNe] at hmD okm hal hml gem
 rw [← hNe]
 have hnl := okm.nl
 obtain ⟨hAcc, hNxt⟩ := hmD.parts
 obtain ⟨ab, ao, rfl, hax⟩ := zAy (n := N) hAcc (by omega)
 obtain ⟨nb, no, rfl, hnx⟩ := zBi (n := N) hNxt (by omega)
 obtain ⟨row, hrow⟩ := zAJ (l := m.next) (i := 0) (by omega)
 have hrl := (okm.row row (List.mem_of_getElem? hrow)).1
 obtain ⟨ra, rc, hcell, hri⟩ := hnx 0 row hrow
 rw [hrl] at hcell hri
 obtain ⟨Q, hQ⟩ : ∃ Q, Q = zFZ N m [] := ⟨_, rfl⟩
 have hQl : Q.length = N := by rw [hQ]; simp [zFZ]
 have hQa : Q = m.accept.map fun a => decide (0 ≤ a) := by rw [hQ]; exact zOr okm
 have E2 : Chg zAe w99 w99 := Chg.refl _ _
 refine zAd (v := (.agg #[(I6 m.start), (.slice (some ⟨ab, ao, none⟩) N cc), (.slice (some ⟨nb, no, none⟩) N mc)])) (c := #[(I6 m.start), (.slice (some ⟨ab, ao, none⟩) N cc), (.slice (some ⟨nb, no, none⟩) N mc)]) (n := 3) (by decide) zBn rfl zAi rfl rfl rfl (by simp [Value.oneCell']) ?_
 intro bm wm Nm
 have Fm := Nm.ge E
 have Fm_E2 := Nm.ge E2
 have Om_bp := Nm.lt Bp
 have Om_br := Nm.lt Br
 replace Bp := Nm.keep Bp
 replace Br := Nm.keep Br
 replace E := E.ext Nm.ext
 have Bm := Nm.blk
 replace E2 := E2.ext Nm.ext
 refine zAB (zAA ?_)
 refine qF bm 0 2 rfl underlying34 rfl zBr rfl ?_
 refine qV (zAG rfl zBh (Bm.cell rfl)) ?_
 refine qV (zAK underlying32 rfl) ?_
 refine zAd (v := (I6 (N : Int))) (c := #[(I6 (N : Int))]) (n := 1) (by decide) zDJ rfl zAv rfl rfl rfl (by simp [Value.oneCell']) ?_
 intro bk wk Nk
 have Fk := Nk.ge E
 have Fk_E2 := Nk.ge E2
 have Ok_bp := Nk.lt Bp
 have Ok_br := Nk.lt Br
 have Ok_bm := Nk.lt Bm
 replace Bp := Nk.keep Bp
 replace Br := Nk.keep Br
 replace Bm := Nk.keep Bm
 replace E := E.ext Nk.ext
 have Bk := Nk.blk
 replace E2 := E2.ext Nk.ext
 refine zAB (zAA ?_)
 refine qV (zAG rfl zAm (Bk.cell rfl)) ?_
 refine zEQ (n := N) (z := (.int .u8 0)) (bytes := 1) (by decide) underlying69 zMj zYX zXE rfl rfl rfl (by omega) (by omega) ?_
 intro bz wz Nz
 have Fz := Nz.ge E
 have Fz_E2 := Nz.ge E2
 have Oz_bp := Nz.lt Bp
 have Oz_br := Nz.lt Br
 have Oz_bm := Nz.lt Bm
 have Oz_bk := Nz.lt Bk
 replace Bp := Nz.keep Bp
 replace Br := Nz.keep Br
 replace Bm := Nz.keep Bm
 replace Bk := Nz.keep Bk
 replace E := E.ext Nz.ext
 have Bz := Nz.blk
 replace E2 := E2.ext Nz.ext
 refine qA _ rfl ?_
 refine zAB (zAH (zAA ?_))
 refine qF bm 0 1 rfl underlying34 rfl zBE rfl ?_
 refine qV (zAG rfl zBI (Bm.cell rfl)) ?_
 refine qV (zAK underlying22 rfl) ?_
 refine qM _ rfl ?_
 refine zAB (zAT ?_)
 rw [show List.replicate N (Value.int .u8 0) = (zKu N Q 0).map (Value.int .u8) by rw [zLV]; simp] at Bz
 refine zAo (fun nn_ σ W2 => ∃ (s : Nat), (∃ jj_, σ = zCT jj_ [(2, (P6 br 0)), (5, (P6 bm 0)), (6, (P6 bk 0)), (7, (.slice (some ⟨bz, 0, none⟩) N N)), (26, (.slice (some ⟨ab, ao, none⟩) N cc)), (27, (I6 (N : Int))), (28, (I6 (s : Int)))]) ∧ Chg zAe w0 W2 ∧ Chg zAe w99 W2 ∧ Blk W2 bp #[(I6 d.start), (.slice aa d.accept.length ac), (.slice na d.next.length nc)] 34 ∧ Blk W2 br #[(I6 0), (.slice none 0 0), (.slice none 0 0)] 34 ∧ Blk W2 bm #[(I6 m.start), (.slice (some ⟨ab, ao, none⟩) N cc), (.slice (some ⟨nb, no, none⟩) N mc)] 34 ∧ Blk W2 bk #[(I6 (N : Int))] 3 ∧ Blk W2 bz (((zKu N Q s).map (Value.int .u8)).toArray) 5 ∧ (s ≤ N) ∧ nn_ = N - s) (n := N - 0) ?_ ?_
 ·exact ⟨0, zAs.out ⟨rfl, rfl, rfl, rfl, rfl, rfl, rfl, trivial⟩, E, E2, Bp, Br, Bm, Bk, Bz, Nat.zero_le _, rfl⟩
 ·clear E E2 Bp Br Bm Bk Bz
  rintro _ _ W2 ⟨s, ⟨j2, rfl⟩, E, E2, Bp, Br, Bm, Bk, Bz, hs, rfl⟩
  refine zAA ?_
  refine qV (zBA rfl rfl) ?_
  refine zAB (zAH ?_)
  refine zAx rfl (fun hlt => ?_) (fun hlt => ?_)
  ·have khlt := hlt
   replace hlt := of_decide_eq_true hlt
   obtain ⟨y, hy⟩ := zAJ (l := m.accept) (i := s) (by omega)
   have hQs : Q[s]? = some (decide (0 ≤ y)) := by rw [hQa, List.getElem?_map, hy]; rfl
   refine zAO (zAC (zAH (zAT (zAA ?_))))
   refine qM _ rfl ?_
   refine qV (zAD (b := ab) (o := ao) (len := N) (cap := cc) (i := s) (o' := ao + s) rfl rfl rfl underlying22 zAv (by omega) (by omega)) ?_
   refine qV (zAG rfl zAm (E2.cell (fun f => f) (hax s y hy))) ?_
   refine qA _ rfl ?_
   refine qA _ rfl ?_
   refine zAB (zAA ?_)
   refine qM _ rfl ?_
   refine qV (zDF rfl rfl) ?_
   refine zAB ?_
   refine zAx rfl (fun hpos => ?_) (fun hpos => ?_)
   ·have khpos := hpos
    replace hpos := of_decide_eq_true hpos
    rw [decide_eq_true hpos] at hQs
    refine zAF ?_
    refine qM _ rfl ?_
    refine qM _ rfl ?_
    refine qV (zAD (b := bz) (o := 0) (len := N) (cap := N) (i := s) (o' := 0 + s) rfl rfl rfl underlying69 zMj (by omega) (by omega)) ?_
    refine zAt (b := bz) (o := 0 + s) (c' := ((zKu N Q (s + 1)).map (Value.int .u8)).toArray) (v := (.int .u8 1)) rfl rfl rfl zMj Bz (by have := zNx hQl hs; simp; omega) (by rw [zPx, ← zNw hQl hQs]; rfl) ?_
    intro w5 S5
    replace Bp := S5.keep (by omega) Bp
    replace Br := S5.keep (by omega) Br
    replace Bm := S5.keep (by omega) Bm
    replace Bk := S5.keep (by omega) Bk
    replace E := S5.step E (by first | exact Or.inl (by omega) | exact Or.inr rfl | exact Or.inr (by assumption) | exact Or.inr (by simp) | exact Or.inr (by omega) | exact Or.inr (by dsimp only; omega))
    replace E2 := S5.step E2 (Or.inl (by omega))
    replace Bz := S5.blk
    refine zAB (zAS (zAC (zAF ?_)))
    refine qV (zAw rfl rfl (zBf (by omega))) ?_
    refine qM _ rfl ?_
    refine zAB (zAC ?_)
    exact ⟨N - (s + 1), by omega, s + 1, zAs.out ⟨rfl, rfl, rfl, rfl, rfl, rfl, rfl, trivial⟩, E, E2, Bp, Br, Bm, Bk, Bz, (by omega), rfl⟩
   ·have khpos := hpos
    replace hpos := of_decide_eq_false hpos
    rw [decide_eq_false hpos] at hQs
    rw [zIL hQl hQs] at Bz
    refine zAO (zAS (zAC (zAF ?_)))
    refine qV (zAw rfl rfl (zBf (by omega))) ?_
    refine qM _ rfl ?_
    refine zAB (zAC ?_)
    exact ⟨N - (s + 1), by omega, s + 1, zAs.out ⟨rfl, rfl, rfl, rfl, rfl, rfl, rfl, trivial⟩, E, E2, Bp, Br, Bm, Bk, Bz, (by omega), rfl⟩
  ·have khlt := hlt
   replace hlt := of_decide_eq_false hlt
   have hsn : s = N := by omega
   rw [hsn, zNy hQl] at Bz
   refine zAl (zAV (zAV (zAf (zAC ?_))))
   obtain ⟨n9, hn9⟩ : ∃ n9, n9 = (W2).heap.size := ⟨_, rfl⟩
   have hz_6 : w0.heap.size ≤ W2.heap.size := E.size
   have lz_6_bp : bp < W2.heap.size := Bp.lt
   have lz_6_br : br < W2.heap.size := Br.lt
   have lz_6_bm : bm < W2.heap.size := Bm.lt
   have lz_6_bk : bk < W2.heap.size := Bk.lt
   have lz_6_bz : bz < W2.heap.size := Bz.lt
   refine zAH ?_
   obtain ⟨Fs6, hFs6⟩ : ∃ Fs : List zCw, Fs = [(eF (.slice (some ⟨bz, 0, none⟩) N N)), (eF (.string (zCB Q))), (eF (P6 bm 2)), (eF (.slice (some ⟨nb, no, none⟩) N mc)), (eF (.pointer (some ⟨nb, no + 0, none⟩))), (eF (.slice ra c rc)), (eF (I6 (c : Int))), (eF (.func (.func 39) #[] #[(P6 bk 0), (P6 bm 0)])), (eF (.func (.func 40) #[] #[(P6 bm 0)])), (fun S s v w => zJA 14 [(.bool true)] (zMA c t (zGn N m) (zJu m) (zCB Q) n9) S s v w), (fun S s v w => zJA 14 [(.bool true)] (zMA c t (zGn N m) (zJu m) (zCB Q) n9) S s v w), (fun S _ v w => S 14 = false → (zMA c t (zGn N m) (zJu m) (zCB Q) n9) v w), (eF (.bool true)), (fun S _ v w => S 14 = false → ((alF 34 #[(I6 0), (.slice none 0 0), (.slice none 0 0)] W2.heap.size)) v w), (fun S s v w => zMq 10 W2.heap.size 34 (zMA c t (zGn N m) (zJu m) (zCB Q) n9) S s v w), (eF undef)] := ⟨_, rfl⟩
   refine zEz (MsL [(14, (fun y => W2.heap.size ≤ y))]) [true, true, true, true, true, true, true, true, true, true, true, true, true, true, true, false] [15] [40, 41, 42, 43, 44, 45, 46, 47, 48, 49, 39, 50, 51, 10, 71, 72] [[], [0], [], [2], [3], [4], [5], [], [], [1, 6, 7, 8], [9], [10], [10], [], [0, 1, 2, 3, 4, 5, 6, 7, 8, 9, 10, 11, 13], []] [[], [0], [], [2], [3, 2], [4, 3, 2], [5, 4, 3, 2], [], [], [1, 0, 6, 5, 4, 3, 2, 7, 8], [9, 1, 0, 6, 5, 4, 3, 2, 7, 8], [10, 9, 1, 0, 6, 5, 4, 3, 2, 7, 8], [10, 9, 1, 0, 6, 5, 4, 3, 2, 7, 8], [], [0, 1, 2, 3, 4, 5, 6, 7, 8, 9, 10, 11, 13], []] Fs6 hFs6 (by kernel_rfl) mixed (by kernel_rfl) (by kernel_rfl) (by kernel_rfl) (by kernel_rfl) ?_ ?_
   ·intro wd X0
    refine qZ (fun S s' w' hi hN X U V H => ?_) ?_
    ·replace X := xN1 (hN 14 rfl) X
     exact zAR (zAj (U 7 rfl)) rfl
    refine qZ (fun S s' w' hi hN X U V H => ?_) ?_
    ·replace X := xN1 (hN 14 rfl) X
     have e40 := (H 0 rfl).2 40 _ rfl (by rw [hFs6]; rfl)
     exact zAR (zCM (l := Q.map zPd) underlying69 underlying5 underlying9 e40 ((X0.trans X).keep Bz) (by simp [hQl])) rfl
    refine qZ (fun S s' w' hi hN X U V H => ?_) ?_
    ·replace X := xN1 (hN 14 rfl) X
     exact zAR (zAY (U 5 rfl) underlying34 rfl zBr rfl) rfl
    refine qZ (fun S s' w' hi hN X U V H => ?_) ?_
    ·replace X := xN1 (hN 14 rfl) X
     have e42 := (H 2 rfl).2 42 _ rfl (by rw [hFs6]; rfl)
     exact zAR (zAG e42 zBh (((X0.trans X).keep Bm).cell rfl)) rfl
    refine qZ (fun S s' w' hi hN X U V H => ?_) ?_
    ·replace X := xN1 (hN 14 rfl) X
     have e43 := (H 3 rfl).2 43 _ rfl (by rw [hFs6]; rfl)
     exact zAR (zAD (i := 0) e43 rfl rfl underlying32 zBE (by omega) (by omega)) rfl
    refine qZ (fun S s' w' hi hN X U V H => ?_) ?_
    ·replace X := xN1 (hN 14 rfl) X
     have e44 := (H 4 rfl).2 44 _ rfl (by rw [hFs6]; rfl)
     exact zAR (zAG e44 zBI ((Ext.trans E2 (X0.trans X)).cell hcell)) rfl
    refine qZ (fun S s' w' hi hN X U V H => ?_) ?_
    ·replace X := xN1 (hN 14 rfl) X
     have e45 := (H 5 rfl).2 45 _ rfl (by rw [hFs6]; rfl)
     exact zAR (zAK underlying22 e45) rfl
    refine qZ (fun S s' w' hi hN X U V H => ?_) ?_
    ·replace X := xN1 (hN 14 rfl) X
     exact zAR (zBQ rfl (zPH (U 6 rfl) (U 5 rfl))) rfl
    refine qZ (fun S s' w' hi hN X U V H => ?_) ?_
    ·replace X := xN1 (hN 14 rfl) X
     exact zAR (zBQ rfl (zPI (U 5 rfl))) rfl
    refine DagStepsS.cons (zCF.tup (U := zAe) (zHx) (fun p y hp hw hpc h => by
       rcases zBN h with ⟨rfl, h0⟩ | h0
       ·exact absurd rfl hpc
       exact h0.elim)) (zCf.const) (fun S s' w' hi hN X U V H => Or.inl ⟨zAI rfl, ?_⟩) ?_
    ·replace X := xN1 (hN 14 rfl) X
     have e41 := (H 1 rfl).2 41 _ rfl (by rw [hFs6]; rfl)
     have e46 := (H 6 rfl).2 46 _ rfl (by rw [hFs6]; rfl)
     have e47 := (H 7 rfl).2 47 _ rfl (by rw [hFs6]; rfl)
     have e48 := (H 8 rfl).2 48 _ rfl (by rw [hFs6]; rfl)
     exact zBv (zCC (zAU func38 kQ kQ (zYk e41 e46 e47 e48 rfl)) (R := fun v w => ∃ u, v = .tuple (u :: [(.bool true)]).toArray ∧ (zMA c t (zGn N m) (zJu m) (zCB Q) n9) u w) ((zWY _ (zCB Q) c 200 t _ _ (zGn N m) (zJu m) hc (by decide) ht (by rw [hQ, hNe]; exact hfew m hm (by omega)) (fun k _ => zUX m k) (fun w k x hE hr hx => by obtain ⟨u, hu, rfl⟩ := zNp okm (hQ ▸ hr); exact zCJ.mk (first := #[]) (cap := #[.pointer (some ⟨bk, 0, none⟩), .pointer (some ⟨bm, 0, none⟩)]) func39 kQ kQ rfl ((zWu w N c m _ (zFZ N m u) x bk bm okm (hmD.ext (Ext.trans E2 ((X0.trans X).trans hE))) (((X0.trans X).trans hE).keep Bm) (((X0.trans X).trans hE).keep Bk) (by simp [zFZ]) hx (by omega)).mono fun v w2 h => ⟨⟨zCB (zOx N m (zFZ N m u) x), by rw [(zNZ N m (zFZ N m u) x).1]; exact h.1, (zNZ N m (zFZ N m u) x).2⟩, h.2⟩)) (fun w k hE hr => by obtain ⟨u, hu, rfl⟩ := zNp okm (hQ ▸ hr); exact zCJ.mk (first := #[]) (cap := #[.pointer (some ⟨bm, 0, none⟩)]) func40 kQ kQ rfl (zWt w N c m _ (zFZ N m u) bm okm (hmD.ext (Ext.trans E2 ((X0.trans X).trans hE))) (((X0.trans X).trans hE).keep Bm) (by simp [zFZ])))).mono (fun v w h => by obtain ⟨⟨D, u, h3, h4, h5⟩, h6⟩ := h; obtain ⟨ea, ec, na, nc, vs, h7, h8⟩ := h5; exact ⟨⟨u, h4, D, ea, ec, na, nc, vs, h7, h3, h8.low (by have := X0.size; have := X.size; omega)⟩, h6⟩))) (fun v w h => by obtain ⟨u, h1, h2⟩ := h; exact ⟨u, h1, fun _ => h2⟩)
    refine DagStepsS.cons (zCF.tup (U := zAe) (zHx) (fun p y hp hw hpc h => by
       rcases zBN h with ⟨rfl, h0⟩ | h0
       ·exact absurd rfl hpc
       exact h0.elim)) (zCf.const) (fun S s' w' hi hN X U V H => Or.inl ⟨zAI rfl, ?_⟩) ?_
    ·replace X := xN1 (hN 14 rfl) X
     exact zAR (zAj rfl) (by obtain ⟨u, h1, h2⟩ := (H 9 rfl).2 49 (fun S s v w => zJA 14 [(.bool true)] (zMA c t (zGn N m) (zJu m) (zCB Q) n9) S s v w) rfl (by rw [hFs6]; rfl); exact ⟨u, h1, fun _ => h2 (hN 14 rfl)⟩)
    refine DagStepsS.cons (zCF.till (U := zAe) (zHx) (fun p y hp hw hpc h => by
       rcases zBN h with ⟨rfl, h0⟩ | h0
       ·exact absurd rfl hpc
       exact h0.elim)) (zCf.const) (fun S s' w' hi hN X U V H => Or.inl ⟨zAI rfl, ?_⟩) ?_
    ·replace X := xN1 (hN 14 rfl) X
     obtain ⟨u9, e9, g9⟩ := (H 10 rfl).2 39 (fun S s v w => zJA 14 [(.bool true)] (zMA c t (zGn N m) (zJu m) (zCB Q) n9) S s v w) rfl (by rw [hFs6]; rfl)
     exact zAR (zAb e9 rfl) (fun _ => g9 (hN 14 rfl))
    refine qZ (fun S s' w' hi hN X U V H => ?_) ?_
    ·replace X := xM1 X
     obtain ⟨u9, e9, _⟩ := (H 10 rfl).2 39 (fun S s v w => zJA 14 [(.bool true)] (zMA c t (zGn N m) (zJu m) (zCB Q) n9) S s v w) rfl (by rw [hFs6]; rfl)
     exact zAR (zAb e9 rfl) rfl
    refine DagStepsS.cons (zCF.till (U := zAe) (fun v w w' x h => zHL _ _ _ v w w' x h) (fun p y hp hw hpc h => by
       rcases zBN h with ⟨rfl, h0⟩ | h0
       ·exact absurd rfl hpc
       exact h0.elim)) (zCf.const) (fun S s' w' hi hN X U V H => Or.inl ⟨zAI rfl, ?_⟩) ?_
    ·replace X := xN1 (hN 14 rfl) X
     exact zBv (zDV (c := #[(I6 0), (.slice none 0 0), (.slice none 0 0)]) (hs := W2.heap.size) zBn rfl (by have := X0.size; have := X.size; omega)) (R' := fun v w => zMZ S 13 14 = false → (alF 34 #[(I6 0), (.slice none 0 0), (.slice none 0 0)] W2.heap.size) v w) (fun _ _ h _ => h)
    refine DagStepsS.cons (zCF.put (zHx) (fun p y hp hw h => by
       rcases zBN h with ⟨rfl, h0⟩ | h0
       ·exact absurd rfl hp
       exact h0.elim)) (zCf.put (j := 13) rfl rfl) (fun S s' w' hi hN X U V H => Or.inl ⟨zAI rfl, ?_⟩) ?_
    ·replace X := xN1 hi X
     obtain ⟨b9, e9, B9, l9⟩ := ((H 13 rfl).2 10 (fun S _ v w => S 14 = false → ((alF 34 #[(.int .i64 0), (.slice none 0 0), (.slice none 0 0)] W2.heap.size)) v w) rfl (by rw [hFs6]; rfl)) hi
     have g9 := ((H 11 rfl).2 50 (fun S _ v w => S 14 = false → (zMA c t (zGn N m) (zJu m) (zCB Q) n9) v w) rfl (by rw [hFs6]; rfl)) hi
     exact zBv (zFk (n := 3) e9 rfl g9 B9 rfl zAi (zRg) (zRf) (by first | exact .inl ⟨rfl, l9⟩ | exact .inr (.inl ⟨rfl, l9⟩))) (fun v w h => by obtain ⟨vs, h1, h2⟩ := h; exact ⟨b9, vs, e9, l9, h1, h2⟩)
    refine DagStepsS.tail ?_
    exact DagStepsS.nil
   ·intro s' wd6 w6 X0 X6 U H
    replace X6 := X6.mono (M' := (fun y => (fun y => W2.heap.size ≤ y) y)) (fun y _ h => by
      obtain ⟨j, hj, h⟩ := h
      rcases zBN h with ⟨rfl, h0⟩ | h0
      ·exact h0
      exact h0.elim)
    have e51 := H 12 rfl 51 _ rfl (by rw [hFs6]; rfl)
    obtain ⟨b71, vs71, e71, l71, B71, g71⟩ := (show ((fun S s v w => zMq 10 W2.heap.size 34 (zMA c t (zGn N m) (zJu m) (zCB Q) n9) S s v w) : zCw) (zNP [true, true, true, true, true, true, true, true, true, true, true, true, true, true, true, false]) s' (s' 71) w6 from H 14 rfl 71 (fun S s v w => zMq 10 W2.heap.size 34 (zMA c t (zGn N m) (zJu m) (zCB Q) n9) S s v w) rfl (by rw [hFs6]; rfl))
    obtain ⟨D71, ea71, ec71, na71, nc71, vs71, q71, p71, o71⟩ := g71
    cases q71
    obtain ⟨j6, rfl⟩ := zAs.out (σ := s') (l := [(2, (.pointer (some ⟨br, 0, none⟩))), (51, (.bool true)), (10, (.pointer (some ⟨b71, 0, none⟩)))]) ⟨U 2 rfl, e51, e71, trivial⟩
    clear U H
    replace Bp := Chg.keep X6 kH (X0.keep Bp)
    replace Br := Chg.keep X6 kH (X0.keep Br)
    replace Bm := Chg.keep X6 kH (X0.keep Bm)
    replace Bk := Chg.keep X6 kH (X0.keep Bk)
    replace Bz := Chg.keep X6 kH (X0.keep Bz)
    replace E := (E.ext X0).step X6 (fun y hy h => by first | omega | (dsimp only at h; omega))
    refine qA _ rfl ?_
    refine zAB (zAC (zAH (zAA ?_)))
    refine qM _ rfl ?_
    refine qV (zCa rfl) ?_
    refine zAB ?_
    refine zAN rfl ?_
    refine zAO (zAC (zAA ?_))
    refine qV (zAP (vs := [(I6 D71.start), (.slice ea71 D71.accept.length ec71), (.slice na71 D71.next.length nc71)]) rfl zBC zAi rfl (B71.cells rfl)) ?_
    obtain ⟨n10, hn10⟩ : ∃ n10, n10 = (w6).heap.size := ⟨_, rfl⟩
    have hn10b : w0.heap.size ≤ n10 ∧ br < n10 := ⟨by rw [hn10]; exact E.size, by rw [hn10]; exact Br.lt⟩
    refine zDC rfl rfl (by decide) (zAU func37 kQ kQ rfl) (zEy _ D71.next.length c D71 _ p71.ok o71.dfa ⟨by have := p71.most; omega, hc⟩ p71.acc) ?_
    rintro _ w89 ⟨⟨C, ca2, cc2, ma2, mc2, hC, hCl, hCa, rfl, hCN⟩, X89⟩
    replace Bp := X89.keep Bp
    replace Br := X89.keep Br
    replace Bm := X89.keep Bm
    replace Bk := X89.keep Bk
    replace Bz := X89.keep Bz
    replace B71 := X89.keep B71
    replace o71 := o71.ext X89
    replace E := E.ext X89
    rw [← hn10] at hCN
    refine zAa (b := br) (o := 0) (c' := #[(I6 C.start), (.slice ca2 C.accept.length cc2), (.slice ma2 C.next.length mc2)]) rfl rfl (by simp [Value.oneCell']) zAi rfl Br (by first | (simp; done) | exact Nat.le_of_ble_eq_true rfl) rfl ?_
    intro w7 S7
    replace hCN := hCN.chg S7.chg fun y h => by have h' : y = br := h; omega
    replace Bp := S7.keep (by omega) Bp
    replace Bm := S7.keep (by omega) Bm
    replace Bk := S7.keep (by omega) Bk
    replace Bz := S7.keep (by omega) Bz
    replace B71 := S7.keep (by omega) B71
    replace E := S7.step E (by first | exact Or.inl (by omega) | exact Or.inr rfl | exact Or.inr (by assumption) | exact Or.inr (by simp) | exact Or.inr (by omega) | exact Or.inr (by dsimp only; omega))
    replace Br := S7.blk
    refine qA _ rfl ?_
    refine zAB (zAW ?_)
    refine zBG results11 (vs := [(.int .i64 C.start), (.slice ca2 C.accept.length cc2), (.slice ma2 C.next.length mc2)]) (b := br) (v' := (.int .i64 0)) rfl zBC zAi rfl (Br.cells rfl) rfl ?_
    exact ⟨⟨C, ca2, cc2, ma2, mc2, hC.congr (fun w hw => by rw [p71.start, p71.beh w hw, hQ, zSI okm w, bhm _ hw.reverse]; rfl), by have := p71.most; omega, hCa, rfl, hCN.low hn10b.1⟩, E⟩
end Go.Proofs
namespace Go.Proofs
open Go Go.Eng Go.Sort
set_option maxRecDepth 100000
--BEGIN
def runN (d:Dfa) (s:Int) (w:List Nat):Int:=w.foldl (toD d) s
theorem zHH (d:Dfa) (v:List Nat):∀(u:List Nat) (s:Int),beh d s (u++v)=beh d (runN d s u) v
  | [],s=>rfl
  | x::u,s=>zHH d v u (toD d s x)
theorem OkD.runN {n c:Nat} {d:Dfa} (h:OkD n c d) (w:List Nat) : -1≤runN d d.start w∧Go.Proofs.runN d d.start w<n:=by
 have hst:=h.st;rcases List.eq_nil_or_concat w with rfl|⟨u,x,rfl⟩
 ·show -1≤d.start∧d.start<n;omega
 ·rw[List.concat_eq_append];simp only[Go.Proofs.runN,List.foldl_append,List.foldl_cons,List.foldl_nil];exact h.to
theorem zLz {F:List Int} (h:∀(k:Nat) x,F[k]?=some x→x≤mxL (F.take k)+1) {j:Int} (hj:0<j):∀p:Nat,p≤F.length→j≤mxL (F.take p)→∃k:Nat,k<p∧F[k]?=some j∧mxL (F.take k)<j
  | 0,_,h1=>by simp[mxL] at h1;omega
  | p+1,hp,h1=>by
    rcases Int.lt_or_le (mxL (F.take p)) j with h2|h2
    · obtain ⟨x,hx⟩:=zAJ (l:=F) (i:=p) qO;rw[zDm hx,zGV] at h1;have h3:=h p x hx;have:x=j:=qO
      subst this;exact ⟨p,qO,hx,h2⟩
    · obtain ⟨k,h3,h4,h5⟩:=zLz h hj p qO h2;exact ⟨k,qO,h4,h5⟩
theorem Bfs.reach {n c:Nat} {C:Dfa} (b:Bfs n c C):∀j:Nat,j<n→∃u,inW c u∧runN C 0 u=((j:Nat):Int):=by
  intro j
  induction j using Nat.strongRecOn with
  | ind j ih=>
    intro hj;rcases Nat.eq_zero_or_pos j with rfl|hp
    · exact ⟨[],inW.nil c,rfl⟩
    · have ac:=zGb (L:=C.next) (c:=c) fun r hr=>(b.ok.row r hr).1;rw[b.ok.nl] at ac;obtain ⟨k,h1,h2,h3⟩:=zLz b.ord (j:=((j:Nat):Int)) qO C.next.flatten.length (Nat.le_refl _) (by rw[List.take_length,b.fin];omega);have hc:0<c:=by
        rcases Nat.eq_zero_or_pos c with h|h
        · subst h;omega
        · exact h
      obtain ⟨i,x,rfl,hx⟩:∃i x,k=i*c+x∧x<c:=⟨k / c,k % c,by rw[Nat.mul_comm];exact (Nat.div_add_mod k c).symm,Nat.mod_lt _ hc⟩;have aa:i<n:=by
        apply Classical.byContradiction;intro h;have:n*c≤i*c:=Nat.mul_le_mul_right c qO;omega
      have ab:mxL (C.next.flatten.take (i*c))≤mxL (C.next.flatten.take (i*c+x)):=zHu qO;have hri:=b.rch i aa;obtain ⟨u,hu,hr⟩:=ih i qO aa;refine ⟨u++[x],hu.snoc hx,?_⟩;rw[zRi b.ok aa hx] at h2;simp only[runN,List.foldl_append,List.foldl_cons,List.foldl_nil] at hr⊢;rw[hr];exact Option.some.inj h2
end Go.Proofs
namespace Go.Proofs
open Go Go.Eng Go.Sort
set_option maxRecDepth 100000
theorem zQV {n c:Nat} {m:Dfa} (ok:OkD n c m) {w:List Nat} {k:ByteArray} (hw:w≠[]) (h:zGD (zGn n m) (zCB (zFZ n m [])) w=some k):∃s:Nat,s<n∧0≤beh m ((s:Nat):Int) w.reverse:=by
  obtain ⟨u,x,rfl⟩:∃u x,w=u++[x]:=⟨w.dropLast,w.getLast hw,(List.dropLast_concat_getLast hw).symm⟩;rw[zEc] at h;have hs:=zHn ok u;cases hu:zGD (zGn n m) (zCB (zFZ n m [])) u with
  | none=>rw[hu] at h;cases h
  | some q=>
    rw[hu] at h hs;simp only at hs;subst hs;simp only[Option.bind_some] at h;unfold zGn at h;rw[zGd,zLJ ok u x] at h;cases ha:(zFZ n m (u++[x])).any id with
    | false=>rw[ha] at h;cases h
    | true=>
      obtain ⟨b,hb,aa⟩:=List.any_eq_true.1 ha;unfold zFZ at hb;obtain ⟨s,hs,rfl⟩:=List.mem_map.1 hb;exact ⟨s,List.mem_range.1 hs,of_decide_eq_true aa⟩
theorem zWX {c:Nat} {f:List Nat→Int} {m R:Dfa} (hm:zCc c f m) (hR:zCc c (zXj f) R):zHl c (zGn m.next.length m) (zCB (zFZ m.next.length m [])) R.next.length:=by
 obtain ⟨ae,ag,aj,_⟩:=hm.ok;obtain ⟨ao,ad,ak,_⟩:=hR.ok;obtain ⟨N,hb,_,_,_⟩:=hm;have hN:m.next.length=N:=hb.ok.nl;have af:∀s:Nat,s<N→∃v,inW c v∧∀x,inW c x→(0≤beh m ((s:Nat):Int) x.reverse↔0≤beh R (runN R 0 x) v.reverse):=fun s hs=>by
  obtain ⟨v,hv,hr⟩:=hb.reach s hs;refine ⟨v,hv,fun x hx=>?_⟩;have ah:inW c (v++x.reverse):=fun y hy=>by
   rcases List.mem_append.1 hy with h|h
   ·exact hv y h
   ·exact hx.reverse y h
  have ac:inW c (x++v.reverse):=fun y hy=>by
   rcases List.mem_append.1 hy with h|h
   ·exact hx y h
   ·exact hv.reverse y h
  have e1:=aj _ ah;have e2:=ak _ ac;rw[ag,zHH,hr] at e1;rw[ad,zHH] at e2;rw[e1,e2];unfold zXj;rw[List.reverse_append,List.reverse_reverse];split<;>simp_all
 intro l hd hr;have am:∀k,∃w:List Nat,k∈l→inW c w∧zGD (zGn m.next.length m) (zCB (zFZ m.next.length m [])) w=some k:=fun k=>by
  by_cases hkl:k∈l
  ·obtain ⟨w,h1,h2⟩:=hr k hkl;exact ⟨w,fun _=>⟨h1,h2⟩⟩
  ·exact ⟨[],fun h=>absurd h hkl⟩
 obtain ⟨g,hg⟩:=Classical.axiomOfChoice am;have aa:∀k∈l,k=zCB (zFZ m.next.length m (g k)):=fun k hk=>by
  have h3:=zHn ae (g k);rw[(hg k hk).2] at h3;exact h3
 have ab:∀k∈l,0≤runN R 0 (g k):=fun k hk=>by
  by_cases hw:g k=[]
  ·rw[hw];exact Int.le_refl _
  ·obtain ⟨s,hs,ap⟩:=zQV ae hw (hg k hk).2;obtain ⟨v,_,hv⟩:=af s qO;have h5:=(hv _ (hg k hk).1).1 ap;apply Classical.byContradiction;intro hn;rw[zCh qO] at h5;exact absurd h5 qD
 have an:(l.map fun k=>(runN R 0 (g k)).toNat).Nodup:=by
  rw[List.nodup_iff_pairwise_ne,List.pairwise_map];refine List.Pairwise.imp_of_mem (fun {p q} hp hq hne=>?_) (List.nodup_iff_pairwise_ne.1 hd);intro hkk;apply hne;have ai:runN R 0 (g p)=runN R 0 (g q):=by have:=ab p hp;have:=ab q hq;omega
  rw[aa p hp,aa q hq];congr 1;unfold zFZ;refine List.map_congr_left fun s hs=>?_;obtain ⟨v,_,hv⟩:=af s (by rw[←hN];exact List.mem_range.1 hs);exact decide_eq_decide.2 ((hv _ (hg p hp).1).trans (by rw[ai];exact (hv _ (hg q hq).1).symm))
 have:=zEf (m:=List.range R.next.length) an fun x hx=>by
  obtain ⟨k,al,rfl⟩:=List.mem_map.1 hx;have h1:=ao.runN (g k);rw[ad] at h1;have h2:=ab k al;exact List.mem_range.2 qO
 simpa using this
end Go.Proofs
namespace Go.Proofs
open Go Go.Eng Go.Sort
set_option maxRecDepth 100000
theorem zUk:Siz prog 104 0:=by unfold Siz;kernel_rfl
theorem zPq:Zer prog 104 (.agg #[]):=by unfold Zer;kernel_rfl
theorem zPA (w0:World) (b1 b2:Nat):CallsD prog 69 #[.pointer (some ⟨b1,0,none⟩),.pointer (some ⟨b2,0,none⟩)] .returning w0 fun e u1 w'=>(∃r,e=.returned r∧Ext w0 w')∧u1=.returning:=by
 refine zFs (v:=.nilIface) func69 rfl ntmps69 (leT rfl) rfl rfl qD (fun _ _=>zLQ) (.inl ⟨rfl,rfl,rfl⟩) ?_;have E:Chg zAe w0 w0:=Chg.refl _ _;refine qV (zMp underlying104 zPq rfl) (qM _ rfl (qV (zAb rfl rfl) (qV (zAb rfl rfl) (zAd (v:=(.agg #[])) (c:=#[]) (n:=0) qD zPq rfl zUk rfl rfl rfl qS ?_))));intro b1 w1 N1;replace E:=E.ext N1.ext;have B1:=N1.blk;refine qA _ rfl (zAB (zAA (qM _ rfl (zAB (zAN rfl (zAO (zET results69 ?_)))))));exact E
theorem zMu (w0:World) (bd be:Nat) (x e:Int) (ya za:Option Addr) (yn yc zn zc:Nat) (h1:Blk w0 bd #[.int .i64 x,.slice ya yn yc,.slice za zn zc] 34) (h2:Blk w0 be #[.int .i64 e] 29) (hne:bd≠be) :
  CallsD prog 69 #[.pointer (some ⟨bd,0,none⟩),.pointer (some ⟨be,0,none⟩)] (.panicking lgC) w0 fun e u1 w'=>(∃r,e=.returned r∧(Blk w' bd #[.int .i64 0,.slice none 0 0,.slice none 0 0] 34∧Blk w' be #[.int .i64 2] 29∧Chg (fun y=>y=bd∨y=be) w0 w'))∧u1=.panicking [{v:=.iface 104 (.agg #[]),recovered:=true}]:=by
 have hl1:=h1.lt;have hl2:=h2.lt;refine zFs (v:=(.iface 104 (.agg #[]))) func69 rfl ntmps69 (leT rfl) rfl rfl qD (fun _ _=>zLQ) (.inr ⟨[],rfl,rfl⟩) ?_;have E:Chg (fun y=>y=bd∨y=be) w0 w0:=Chg.refl _ _;refine qV (zMo underlying104 rfl) (qM _ rfl (qV (zAb rfl rfl) (qV (zAb rfl rfl) (zAd (v:=(.agg #[])) (c:=#[]) (n:=0) qD zPq rfl zUk rfl rfl rfl qS ?_))));intro b1 w1 N1;have F1:=N1.ge E;have O1_bd:=N1.lt h1;have O1_be:=N1.lt h2;replace h1:=N1.keep h1;replace h2:=N1.keep h2;replace E:=E.ext N1.ext;have B1:=N1.blk;refine qA _ rfl (zAB (zAA (qM _ rfl (zAB (zAk rfl (zAF (qV (zBF (ps:=[]) (v:=(.agg #[(I6 0),(.slice none 0 0),(.slice none 0 0)])) rfl qK) (zAa (b:=bd) (o:=0) (c':=#[(I6 0),(.slice none 0 0),(.slice none 0 0)]) rfl rfl qS zAi rfl h1 qL rfl ?_))))))));intro w2 S2;replace h2:=S2.keep qO h2;replace B1:=S2.keep qO B1;replace E:=S2.step E qQ;replace h1:=S2.blk;refine zAt (b:=be) (o:=0) (c':=#[(I6 2)]) (v:=(I6 2)) rfl rfl rfl zQO h2 qP rfl ?_;intro w3 S3;replace h1:=S3.keep qO h1;replace B1:=S3.keep qO B1;replace E:=S3.step E qQ;replace h2:=S3.blk;refine zAB (zET results69 ?_);exact ⟨h1,h2,E⟩
def zZa (c:Nat) (cs:List (List Sp)) (x:Re) (m:Nat) (r:Value) (w:World):Prop:=
 (∃(d:Dfa) (ea:Option Addr) (ec:Nat) (na:Option Addr) (nc:Nat),trO c cs x=some d∧GoodD c d∧d.next.length≤200∧r=.tuple #[.agg #[.int .i64 d.start,.slice ea d.accept.length ec,.slice na d.next.length nc],.int .i64 0]∧zBW (fun b=>m≤b) w d [.int .i64 d.start,.slice ea d.accept.length ec,.slice na d.next.length nc])∨(trO c cs x=none∧r=.tuple #[.agg #[.int .i64 0,.slice none 0 0,.slice none 0 0],.int .i64 2])
theorem zON (w:World) (cap:Array Value):(callFunc 69 cap).run prog w=.ok (.enter 69 cap) w:=zGO func69 kQ kQ
theorem zXu (w0:World) (cs:List (List Sp)) (x:Re) (vs:List Value) (ca:Option Addr) (cc:Nat) (hc:1≤cs.length∧cs.length≤16) (hne:∀l∈cs,l≠[]) (hok:zDo x) (hsz:x.size≤1000000) (hC:zBl w0 (.slice ca cs.length cc) cs) (ht:zBm w0 x vs) :
  Ret prog 35 #[.agg vs.toArray,.slice ca cs.length cc] w0 fun r w=>zZa cs.length cs x w0.heap.size r w∧Ext w0 w:=by
 have ad:=ht;obtain ⟨sa,sc,aa,ac,rfl,_,_,_⟩:=ht.form;refine zSS func35 rfl ntmps35 (leT rfl) ?_;have E:Chg zAe w0 w0:=Chg.refl _ _;refine zJJ (zBY (v:=(.agg (R6 x sa sc aa ac))) (c:=(R6 x sa sc aa ac)) qD rfl rfl ?_);intro bb wb Nb;have Fb:=Nb.ge E;replace E:=E.ext Nb.ext;have Bb:=Nb.blk;refine zBB (c:=#[(I6 0),(.slice none 0 0),(.slice none 0 0)]) qD zBn rfl ?_;intro br wr Nr;have Fr:=Nr.ge E;have Or_bb:=Nr.lt Bb;replace Bb:=Nr.keep Bb;replace E:=E.ext Nr.ext;have Br:=Nr.blk;refine zBB (c:=#[(I6 0)]) qD zXM rfl ?_;intro be we Ne;have Fe:=Ne.ge E;have Oe_bb:=Ne.lt Bb;have Oe_br:=Ne.lt Br;replace Bb:=Ne.keep Bb;replace Br:=Ne.keep Br;replace E:=E.ext Ne.ext;have Be:=Ne.blk;refine zAB (zIr (zUa rfl rfl qD (zBQ rfl rfl) (zPj rfl rfl (zVu rfl) (zAA (qM _ rfl (qV (zBF (ps:=[(0,(.slice ca cs.length cc))]) (v:=(.agg #[(.slice ca cs.length cc)])) rfl qK) (zBY (v:=(.agg #[(.slice ca cs.length cc)])) (c:=#[(.slice ca cs.length cc)]) qD rfl rfl ?_)))))));intro bt wt Nt;have Ft:=Nt.ge E;have Ot_bb:=Nt.lt Bb;have Ot_br:=Nt.lt Br;have Ot_be:=Nt.lt Be;replace Bb:=Nt.keep Bb;replace Br:=Nt.keep Br;replace Be:=Nt.keep Be;replace E:=E.ext Nt.ext;have Bt:=Nt.blk;refine qA _ rfl (zAB (zAA (qM _ rfl (qV (zAP (vs:=[(I6 x.kind),(.slice sa x.set.length sc),(.slice aa x.args.length ac),(I6 x.mn),(I6 x.mx),(.bool x.neg)]) rfl zBZ zAp rfl (Bb.cells rfl)) ?_))));obtain ⟨n9,ab⟩:∃n9,n9=(wt).heap.size:=⟨_,rfl⟩;have ae:br<n9∧be<n9∧w0.heap.size≤n9∧w0.heap.size≤br∧w0.heap.size≤be∧br≠be:=⟨by rw[ab];exact Br.lt,by rw[ab];exact Be.lt,by rw[ab];exact E.size,qO,qO,qO⟩;refine zBX rfl rfl qD (zAU func70 kQ kQ rfl) (((zXX cs hc hne _ x (Nat.le_refl _) hsz hok _ bt ca cc _ Bt (hC.ext E) (zBm.ext E x ad)).mono (R':=fun r w'=>(∃d,trO cs.length cs x=some d∧GoodD cs.length d∧d.next.length≤200∧zJz (fun b=>n9≤b) d r w')∧Ext _ w') (fun r w' h=>⟨by obtain ⟨d,h1,h2,h3,h4⟩:=h.1;exact ⟨d,h1,h2,h3,h4.mono fun b hb=>by rw[ab];exact hb.1⟩,h.2⟩) (fun _ h=>h))) (fun w' h=>fun a ha=>zJe (X:=fun w9=>Blk w9 br #[.int .i64 0,.slice none 0 0,.slice none 0 0] 34∧Blk w9 be #[.int .i64 2] 29∧Chg (fun y=>y=br∨y=be) w' w9) rfl (by intro h;cases h) (zON _ _) ((zMu _ br be _ _ _ _ _ _ _ _ (h.2.keep Br) (h.2.keep Be) ae.2.2.2.2.2).mono fun e9 u9 w9 h9=>by obtain ⟨⟨r9,h1,h2⟩,h3⟩:=h9;exact ⟨⟨r9,h1⟩,by rw[h3];rfl,h2⟩) (fun w9 h9=>⟨_,zHW (vs:=[.int .i64 0,.slice none 0 0,.slice none 0 0]) results35 rfl rfl zBC zAi rfl (h9.1.cells rfl) zLw (h9.2.1.cell rfl) ha,_,rfl,.inr ⟨h.1,rfl⟩,(E.ext h.2).step h9.2.2 (fun y hy hh=>by rcases hh with hh|hh<;>omega)⟩)) ?_;rintro _ w9 ⟨⟨d,hd,gd,af,ea,ec,na,nc,rfl,hD⟩,X9⟩;replace Bb:=X9.keep Bb;replace Br:=X9.keep Br;replace Be:=X9.keep Be;replace Bt:=X9.keep Bt;replace E:=E.ext X9;refine zAa (b:=br) (o:=0) (c':=#[(I6 d.start),(.slice ea d.accept.length ec),(.slice na d.next.length nc)]) rfl rfl qS zAi rfl Br qL rfl ?_;intro w1 S1;replace hD:=hD.put S1.chg fun y h1 h=>by have h':y=_:=h;omega
 replace Bb:=S1.keep qO Bb;replace Be:=S1.keep qO Be;replace Bt:=S1.keep qO Bt;replace E:=S1.step E qQ;replace Br:=S1.blk;refine zAt (b:=be) (o:=0) (c':=#[(I6 0)]) (v:=(I6 0)) rfl rfl rfl zQO Be qP rfl ?_;intro w2 S2;replace hD:=hD.put S2.chg fun y h1 h=>by have h':y=_:=h;omega
 replace Bb:=S2.keep qO Bb;replace Br:=S2.keep qO Br;replace Bt:=S2.keep qO Bt;replace E:=S2.step E qQ;replace Be:=S2.blk;refine zAB (zAW ?_);exact fun a ha=>zJe (X:=Ext _) rfl (by intro h;cases h) (zON _ _) ((zPA _ br be).mono fun e9 u9 w9 h9=>by obtain ⟨⟨r9,h1,h2⟩,h3⟩:=h9;exact ⟨⟨r9,h1⟩,by rw[h3];rfl,h2⟩) (fun w9 h9=>⟨_,zHW (vs:=[.int .i64 d.start,.slice ea d.accept.length ec,.slice na d.next.length nc]) results35 rfl rfl zBC zAi rfl ((Ext.keep h9 Br).cells rfl) zLw ((Ext.keep h9 Be).cell rfl) ha,_,rfl,.inl ⟨d,_,_,_,_,hd,gd,af,rfl,(hD.ext h9).mono fun b hb=>by have hb':n9≤b:=hb;omega⟩,E.ext h9⟩)
end Go.Proofs
namespace Go.Proofs
open Go Go.Eng
set_option maxRecDepth 100000
inductive Ins where
  | set (l:List (Int×Int))
  | split (x y:Nat)
  | jump (x:Nat)
  | opn (t:Nat)
  | cls (t n:Nat)
  | look (r:Re) (ng:Bool)
  | ent (n:Nat)
  | chk (n:Nat)
  | fin
end Go.Proofs
namespace Go.Proofs
open Go Go.Eng
set_option maxRecDepth 100000
section
variable {S : Type} (F : S → Re → Bool × S)
def zGG:List Re→S→Bool×S
  | [],s=>(true,s)
  | t::ts,s=>if (F s t).1 then zGG ts (F s t).2 else (false,(F s t).2)
theorem zHS:∀(a b:List Re) (s:S),zGG F (a++b) s=if (zGG F a s).1 then zGG F b (zGG F a s).2 else (false,(zGG F a s).2)
  | [],b,s=>by simp[zGG]
  | x::a,b,s=>by
    simp only[List.cons_append,zGG];split
    · exact zHS a b _
    · simp
mutual
theorem zJR:∀(t:Re) (s:S),zCp F t s=zGG F (zSU t) s
  | .mk k set args mn mx ng,s=>by
    rw[zEl,zMs];simp only[zGG,Re.args];rw[zIC args]
theorem zIC:∀(ts:List Re) (s:S),zCZ F ts s=zGG F (zGS ts) s
  | [],s=>by simp only[zCZ,zGS,zGG]
  | t::ts,s=>by
    rw[zCo];simp only[zGS];rw[zHS,←zJR t,←zIC ts]
end
end
end Go.Proofs
namespace Go.Proofs
open Go Go.Eng
set_option maxRecDepth 100000
def bl (m:Nat):Nat:=if m=0 then 0 else Nat.log2 m+1
end Go.Proofs
namespace Go.Proofs
open Go Go.Eng
set_option maxRecDepth 100000
theorem zXi (w0:World) (b c n:Nat) (l:List (List Value)) (rest:List Value) (hB:Blk w0 b (l.flatten++rest).toArray TRe) (hl:l.length≤1000000000) (h6:∀r∈l,r.length=6) (h1:∀r∈l,∀u∈r,u.oneCell'=true) (hn:l.length=n) :
  Ret prog 65 #[.slice (some ⟨b,0,none⟩) n c] w0 fun _ w=>Blk w b (l.reverse.flatten++rest).toArray TRe∧Chg (fun x=>x=b) w0 w:=by
 subst hn;refine zDE func65 rfl ntmps65 (leT rfl) ?_;have E:Chg (fun x=>x=b) w0 w0:=Chg.refl _ _;refine zAA (qM _ rfl (qV (zAK underlying24 rfl) (qV (zEX rfl rfl (zBf qO)) (qA _ rfl (qA _ rfl (zAB (zAT (zAo (fun nn_ σ W1=>∃(i:Nat) (j:Int) (ab:List (List Value)),(∃jj_,σ=zCT jj_ [(0,(.slice (some ⟨b,0,none⟩) l.length c)),(2,(I6 (i:Int))),(3,(I6 j))])∧Chg (fun x=>x=b) w0 W1∧Blk W1 b ((ab.flatten++rest).toArray) TRe∧(j=(l.length:Int) - 1 - (i:Int))∧(ab.length=l.length)∧(∀k,k<l.length→ab[k]?=if k<i∨l.length - i≤k then l[l.length - 1 - k]? else l[k]?)∧(i≤l.length)∧(∀r∈ab,r.length=6∧∀u∈r,u.oneCell'=true)∧nn_=l.length - i) (n:=l.length - 0) ?_ ?_))))))))
 ·exact ⟨0,((l.length:Nat):Int) - 1,l,zAs.out ⟨rfl,rfl,rfl,trivial⟩,E,hB,qO,rfl,(fun k hk=>by rw[if_neg qO]),Nat.zero_le _,(fun r hr=>⟨h6 r hr,h1 r hr⟩),rfl⟩
 ·clear E hB;rintro _ _ W1 ⟨i,j,ab,⟨j1,rfl⟩,E,hB,hj,ai,af,hi,ah,rfl⟩;refine zAH (zAA (qM _ rfl (qM _ rfl (qV (zBA rfl rfl) (zAB (qC rfl (fun ao=>?_) (fun ao=>?_)))))))
  ·obtain ⟨x,hx⟩:=zAJ (l:=ab) (i:=i) qO;obtain ⟨y,hy⟩:=zAJ (l:=ab) (i:=l.length - 1 - i) qO;have ad:=ah x (List.mem_of_getElem? hx);have ac:=ah y (List.mem_of_getElem? hy);have ag:∀r∈ab,r.length=6:=fun r hr=>(ah r hr).1;have ae:∀r∈ab.set i y,r.length=6:=fun r hr=>by rcases List.mem_or_eq_of_mem_set hr with h|h;exact ag r h;rw[h];exact ac.1
   refine zAO (zAC (zAH (zAT ?_)));obtain ⟨av,aa⟩:∃Fs:List (FactT ((fun x=>x=b))),Fs=[.eq (.slice (some ⟨b,0,none⟩) l.length c),.eq (I6 (i:Int)),.eq (.slice (some ⟨b,0,none⟩) l.length c),.eq (I6 j),.eq (.slice (some ⟨b,0,none⟩) l.length c),.eq (I6 j),.eq (.pointer (some ⟨b,0+(l.length - 1 - i)*6,none⟩)),.eq (.agg y.toArray),.eq (.slice (some ⟨b,0,none⟩) l.length c),.eq (I6 (i:Int)),.eq (.pointer (some ⟨b,0+i*6,none⟩)),.eq (.agg x.toArray),.eq (.pointer (some ⟨b,0+i*6,none⟩)),.own (fun _ w=>Blk w b ((ab.set i y).flatten++rest).toArray TRe) (fun _ _ _ e h=>Ext.keep e h)]:=⟨_,rfl⟩;refine zFW ((fun x=>x=b)) 14 13 [14,15,16,17,18,19,20,21,22,23,24,25,26,41] [[],[],[],[],[],[],[4,5],[6],[],[],[8,9],[10],[0,1,4,5,6,7,11],[0,1,4,5,6,7,11,12]] av aa rfl mixed qK qK qK ?_ ?_
   ·intro wd X0;refine DagStepsT.cons (fun s' w' X U H=>?_) ?_
    ·exact zAQ (zAj (U 0 rfl)) (Chg.refl _ _) rfl
    refine DagStepsT.cons (fun s' w' X U H=>?_) ?_
    ·exact zAQ (zAj (U 2 rfl)) (Chg.refl _ _) rfl
    refine DagStepsT.cons (fun s' w' X U H=>?_) ?_
    ·exact zAQ (zAj (U 0 rfl)) (Chg.refl _ _) rfl
    refine DagStepsT.cons (fun s' w' X U H=>?_) ?_
    ·exact zAQ (zAj (U 3 rfl)) (Chg.refl _ _) rfl
    refine DagStepsT.cons (fun s' w' X U H=>?_) ?_
    ·exact zAQ (zAj (U 0 rfl)) (Chg.refl _ _) rfl
    refine DagStepsT.cons (fun s' w' X U H=>?_) ?_
    ·exact zAQ (zAj (U 3 rfl)) (Chg.refl _ _) rfl
    refine DagStepsT.cons (fun s' w' X U H=>?_) ?_
    ·have ap:s' 18=(.slice (some ⟨b,0,none⟩) l.length c):=H 4 rfl 18 (.eq (.slice (some ⟨b,0,none⟩) l.length c)) rfl (by rw[aa];rfl);have an:s' 19=(.int .i64 j):=H 5 rfl 19 (.eq (.int .i64 j)) rfl (by rw[aa];rfl);exact zAQ (zAD (i:=l.length - 1 - i) ap an qO underlying24 zAp qO qO) (Chg.refl _ _) rfl
    refine DagStepsT.cons (fun s' w' X U H=>?_) ?_
    ·have aj:s' 20=(.pointer (some ⟨b,0+(l.length - 1 - i)*6,none⟩)):=H 6 rfl 20 (.eq (.pointer (some ⟨b,0+(l.length - 1 - i)*6,none⟩))) rfl (by rw[aa];rfl);exact zAQ (zAP aj zBZ zAp (ac.1) (by rw[Nat.zero_add];exact (Chg.keep X (fun f=>f) (X0.keep hB) |> fun h=>zIE h ag hy))) (Chg.refl _ _) rfl
    refine DagStepsT.cons (fun s' w' X U H=>?_) ?_
    ·exact zAQ (zAj (U 0 rfl)) (Chg.refl _ _) rfl
    refine DagStepsT.cons (fun s' w' X U H=>?_) ?_
    ·exact zAQ (zAj (U 2 rfl)) (Chg.refl _ _) rfl
    refine DagStepsT.cons (fun s' w' X U H=>?_) ?_
    ·have au:s' 22=(.slice (some ⟨b,0,none⟩) l.length c):=H 8 rfl 22 (.eq (.slice (some ⟨b,0,none⟩) l.length c)) rfl (by rw[aa];rfl);have az:s' 23=(.int .i64 ((i:Nat):Int)):=H 9 rfl 23 (.eq (.int .i64 ((i:Nat):Int))) rfl (by rw[aa];rfl);exact zAQ (zAD (i:=i) au az qO underlying24 zAp qO qO) (Chg.refl _ _) rfl
    refine DagStepsT.cons (fun s' w' X U H=>?_) ?_
    ·have ay:s' 24=(.pointer (some ⟨b,0+i*6,none⟩)):=H 10 rfl 24 (.eq (.pointer (some ⟨b,0+i*6,none⟩))) rfl (by rw[aa];rfl);exact zAQ (zAP ay zBZ zAp (ad.1) (by rw[Nat.zero_add];exact (Chg.keep X (fun f=>f) (X0.keep hB) |> fun h=>zIE h ag hx))) (Chg.refl _ _) rfl
    refine DagStepsT.cons (fun s' w' X U H=>?_) ?_
    ·have aq:s' 14=(.slice (some ⟨b,0,none⟩) l.length c):=H 0 rfl 14 (.eq (.slice (some ⟨b,0,none⟩) l.length c)) rfl (by rw[aa];rfl);have ax:s' 15=(.int .i64 ((i:Nat):Int)):=H 1 rfl 15 (.eq (.int .i64 ((i:Nat):Int))) rfl (by rw[aa];rfl);exact zAQ (zAD (i:=i) aq ax qO underlying24 zAp qO qO) (Chg.refl _ _) rfl
    refine DagStepsT.cons (fun s' w' X U H=>?_) ?_
    ·have ar:s' 26=(.pointer (some ⟨b,0+i*6,none⟩)):=H 12 rfl 26 (.eq (.pointer (some ⟨b,0+i*6,none⟩))) rfl (by rw[aa];rfl);have aw:s' 21=(.agg y.toArray):=H 7 rfl 21 (.eq (.agg y.toArray)) rfl (by rw[aa];rfl);exact zCX ar aw (by simpa using ac.2) zAp (by simpa using ac.1) (Chg.keep X (fun f=>f) (X0.keep hB)) (by have:=zHp ag;simp only[List.size_toArray,List.length_append];omega) rfl (fun w9 h=>by have h2:=h.blk;rw[Nat.zero_add] at h2;rw[show (List.take (i*6) (ab.flatten++rest).toArray.toList++y.toArray.toList++List.drop (i*6+6) (ab.flatten++rest).toArray.toList)=(ab.set i y).flatten++rest from zHo ac.1 ag qO] at h2;exact h2)
    exact DagStepsT.nil
   ·intro s' wd3 w3 X0 X3 U H;have ak:s' 16=(.slice (some ⟨b,0,none⟩) l.length c):=H 2 16 (.eq (.slice (some ⟨b,0,none⟩) l.length c)) rfl (by rw[aa];rfl);have al:s' 17=(.int .i64 j):=H 3 17 (.eq (.int .i64 j)) rfl (by rw[aa];rfl);have am:s' 25=(.agg x.toArray):=H 11 25 (.eq (.agg x.toArray)) rfl (by rw[aa];rfl);obtain hB:=(show (.own (fun _ w=>Blk w b ((ab.set i y).flatten++rest).toArray TRe) (fun _ _ _ e h=>Ext.keep e h):FactT ((fun x=>x=b))).In (s' 41) w3 from H 13 41 (.own (fun _ w=>Blk w b ((ab.set i y).flatten++rest).toArray TRe) (fun _ _ _ e h=>Ext.keep e h)) rfl (by rw[aa];rfl));obtain ⟨j3,rfl⟩:=zAs.out (σ:=s') (l:=[(0,(.slice (some ⟨b,0,none⟩) l.length c)),(2,(.int .i64 ((i:Nat):Int))),(3,(.int .i64 j)),(16,(.slice (some ⟨b,0,none⟩) l.length c)),(17,(.int .i64 j)),(25,(.agg x.toArray))]) ⟨U 0 rfl,U 2 rfl,U 3 rfl,ak,al,am,trivial⟩;clear U H;replace E:=(E.ext X0).step X3 (fun x _ h=>h);refine qV (zAD (b:=b) (o:=0) (len:=l.length) (cap:=c) (i:=l.length - 1 - i) (o':=0+(l.length - 1 - i)*6) rfl rfl qO underlying24 zAp qO qO) (zAa (b:=b) (o:=0+(l.length - 1 - i)*6) (n:=6) (c':=(((ab.set i y).set (l.length - 1 - i) x).flatten++rest).toArray) (vs:=x.toArray) rfl rfl (by simpa using ad.2) zAp (by simpa using ad.1) hB (by have:=zHp ae;simp only[List.length_set] at this;simp only[List.size_toArray,List.length_append];omega) (by rw[Nat.zero_add];exact congrArg List.toArray (zHo (k:=6) (v:=x) (rows:=ab.set i y) (i:=l.length - 1 - i) (rest:=rest) ad.1 ae (by simp;omega))) ?_);intro w4 S4;replace E:=S4.step E qQ;replace hB:=S4.blk;refine zAB (zAS (zAC (zAF (qM _ rfl (qV (zAw rfl rfl (zBf qO)) (qM _ rfl (qV (zEX rfl rfl (zBf qO)) (qA _ rfl (qA _ rfl (zAB (zAC ?_)))))))))));exact ⟨l.length - (i+1),qO,i+1,j - 1,(ab.set i y).set (l.length - 1 - i) x,zAs.out ⟨rfl,rfl,rfl,trivial⟩,E,hB,qO,(by simpa using ai),zSq ai qO af hx hy,qO,(fun r hr=>by rcases List.mem_or_eq_of_mem_set hr with h|h;rcases List.mem_or_eq_of_mem_set h with h|h;exact ah r h;rw[h];exact ac;rw[h];exact ad),rfl⟩
  ·refine zAl (zAV (zAV (zAf (zET results65 ?_))));rw[←zSr rfl ai qO af];exact ⟨hB,E⟩
theorem zVp (w0:World) (a:Option Addr) (c n:Nat) (hn:n=0) :
  Ret prog 65 #[.slice a n c] w0 fun _ w=>Ext w0 w:=by
 subst hn;refine qR func65 rfl ntmps65 rfl (fun E=>(zAA (qM _ rfl (qV (zAK underlying24 rfl) (qV (zEX (c:=(-1)) rfl rfl qD) (qA _ rfl (qA _ rfl (zAB (zAT (zAo (fun nn_ σ W1=>(∃jj_,σ=zCT jj_ [(0,(.slice a 0 c)),(2,(I6 0)),(3,(I6 (-1)))])∧Chg zAe w0 W1∧nn_=0) (n:=0) ?_ ?_))))))))))
 ·exact ⟨zAs.out ⟨rfl,rfl,rfl,trivial⟩,E,rfl⟩
 ·clear E;rintro _ _ W1 ⟨⟨j1,rfl⟩,E,rfl⟩;refine zAH (zAA (qM _ rfl (qM _ rfl (qV (zBA rfl rfl) (zAB (zAN rfl (zAl (zAV (zAV (zAf (zET results65 ?_)))))))))));exact E
theorem zBU.reverse {S:Nat→Prop} {w:World}:∀{ts:List Re} {rows:List (List Value)},zBU S w ts rows→zBU S w ts.reverse rows.reverse
  | [],_,h=>by simp only[zBU] at h;subst h;rfl
  | t::ts,rows,h=>by
    obtain ⟨r,rs,rfl,h2,h3⟩:=h;rw[List.reverse_cons,List.reverse_cons];exact zBU.append (zBU.single h2) (zBU.reverse h3)
theorem zZA:∀(n:Nat) (t:Re) (w0:World) (vs:List Value) (Z L:Nat→Prop),t.size≤n→t.size≤1000000→zFF Z w0 t vs L→(∀y,Z y→¬L y)→(∀y,Z y∨L y→y<w0.heap.size)→
    Ret prog 32 #[.agg vs.toArray] w0 fun v w=>zLZ (fun y=>Z y∨L y∨w0.heap.size≤y) (zBy t) v w∧Chg L w0 w:=by
  intro n
  induction n with
  | zero=>intro t w0 vs Z L hn;have:=t.size_pos;omega
  | succ n ih=>
  intro t w0 vs Z L hn hM hT hz hb;obtain ⟨sa,sc,aa,ac,rfl,au,aq,bd⟩:=hT.form;have hal:=zLf t.args;have bm:=t.size_eq;refine zDE func32 rfl ntmps32 (leT rfl) ?_;have E:Chg L w0 w0:=Chg.refl _ _;have E5:Chg zAe w0 w0:=Chg.refl _ _;refine zAA (zBY (v:=(.agg (R6 t sa sc aa ac))) (c:=(R6 t sa sc aa ac)) qD rfl rfl ?_);intro br wr Nr;have Fr:=Nr.ge E;have Fr_E5:=Nr.ge E5;replace E:=E.ext Nr.ext;have Br:=Nr.blk;replace E5:=E5.ext Nr.ext;refine zBB (c:=#[(I6 0),(.slice none 0 0),(.slice none 0 0),(I6 0),(I6 0),(.bool false)]) qD zDg rfl ?_;intro bo wo No;have Fo:=No.ge E;have Fo_E5:=No.ge E5;have Oo_br:=No.lt Br;replace Br:=No.keep Br;replace E:=E.ext No.ext;have Bo:=No.blk;replace E5:=E5.ext No.ext;refine zAB (zAH (zAA (qF br 0 2 rfl underlying26 rfl zDn rfl (qV (zAG rfl zCr (Br.cell rfl)) (qV (zAK underlying24 rfl) (qM _ rfl (zAB (zAT ?_))))))));obtain ⟨n1,bh⟩:∃n1,n1=wo.heap.size:=⟨_,rfl⟩;have hbo:bo<n1:=by rw[bh];exact Bo.lt
  have hbr:br<n1:=qO
  have ai:NSt zBy Z L n1 wo aa t.args 0:=NSt.ext (zQr bd) E5;have ax:∀y,Z y∨L y→y<n1:=fun y hy=>by have:=hb y hy;omega
  have bb:∀y,Z y∨L y∨n1≤y→¬y=bo:=by
    rintro y (h|h|h) he
    · have:=hb y (.inl h);omega
    · have:=hb y (.inr h);omega
    · omega
  have bn:∀y,Z y∨L y∨n1≤y→Z y∨L y∨w0.heap.size≤y:=by
    rintro y (h|h|h)
    · exact .inl h
    · exact .inr (.inl h)
    · exact .inr (.inr qO)
  refine zAo (fun nn_ σ W1=>∃(k:Nat),(∃jj_,σ=zCT jj_ [(1,(P6 br 0)),(2,(P6 bo 0)),(6,(.slice aa t.args.length ac)),(7,(I6 (t.args.length:Int))),(8,(I6 (k:Int)))])∧Chg L w0 W1∧Blk W1 br (R6 t sa sc aa ac) 26∧Blk W1 bo #[(I6 0),(.slice none 0 0),(.slice none 0 0),(I6 0),(I6 0),(.bool false)] 26∧(k≤t.args.length)∧(NSt zBy Z L n1 W1 aa t.args k)∧(n1≤W1.heap.size)∧nn_=t.args.length - k) (n:=t.args.length - 0) ?_ ?_
  · exact ⟨0,zAs.out ⟨rfl,rfl,rfl,rfl,rfl,trivial⟩,E,Br,Bo,Nat.zero_le _,ai,qO,rfl⟩
  · clear E Br Bo;rintro _ _ W1 ⟨k,⟨j1,rfl⟩,E,Br,Bo,hk,ai,bk,rfl⟩;refine zAA (qV (zBA rfl rfl) (zAB (zAH (qC rfl (fun bg=>?_) (fun bg=>?_)))))
    · obtain ⟨x,hx⟩:=zAJ (l:=t.args) (i:=k) qO;obtain ⟨b,rows,rest,D,K,rfl,ag,hB,hR,hT,hl,h6,hD,hK⟩:=ai.resolve_left (fun h=>by rw[h] at hx;simp at hx);have bf:=hb b (.inr ag);rw[zFO hx] at hT;simp only[zBg] at hT;obtain ⟨xs,rs2,L1,K2,ah,ay,a6,h1,h2⟩:=hT;obtain ⟨a4,rfl⟩:=zRk ah;have av:=ay;obtain ⟨am,ak,an,ao,rfl,_,_,_⟩:=ay.form;have af:∀y,L1 y→L y:=fun y hy=>(hK y (h1 y hy).1).1;have E4:Chg zAe W1 W1:=Chg.refl _ _;refine zAO (zAC (zAH (zAT (zAA (qM _ rfl (qV (zAD (b:=b) (o:=0) (len:=t.args.length) (cap:=ac) (i:=k) (o':=0+k*6) rfl rfl rfl underlying24 zAp qO qO) (qV (zAP rfl zBZ zAp rfl (by rw[Nat.zero_add];exact zIE hB h6 a4)) (zBB (c:=#[(I6 0),(.slice none 0 0),(.slice none 0 0),(I6 0),(I6 0),(.bool false)]) qD zDg rfl ?_))))))));intro bs ws Ns;have Fs:=Ns.ge E;have Fs_E4:=Ns.ge E4;have Os_br:=Ns.lt Br;have Os_bo:=Ns.lt Bo;have Os_b:=Ns.lt hB;replace Br:=Ns.keep Br;replace Bo:=Ns.keep Bo;replace hB:=Ns.keep hB;replace E:=E.ext Ns.ext;have Bs:=Ns.blk;replace E4:=E4.ext Ns.ext;refine qA _ rfl (zAa (b:=bs) (o:=0) (c':=(R6 x am ak an ao)) rfl rfl qS zAp rfl Bs qL rfl ?_);intro w3 S3;replace Br:=S3.keep qO Br;replace Bo:=S3.keep qO Bo;replace hB:=S3.keep qO hB;replace E:=S3.step E qQ;replace E4:=S3.step E4 (Or.inl qO);replace Bs:=S3.blk;refine zAB ?_;obtain ⟨a5,ad⟩:∃Fs:List (FactT (L1)),Fs=[.eq (P6 br 2),.eq (.slice (some ⟨b,0,none⟩) t.args.length ac),.eq (I6 (k:Int)),.eq (.agg (R6 x am ak an ao)),.own (zLZ (fun y=>Z y∨L1 y∨n1≤y) (zBy x)) (zIP _ _)]:=⟨_,rfl⟩;refine zFW (L1) 5 4 [13,14,15,16,17] [[],[0],[],[],[3]] a5 ad rfl mixed qK qK qK ?_ ?_
      · intro wd X0;refine DagStepsT.cons (fun s' w' X U H=>?_) ?_
        · exact zAQ (zAY (U 1 rfl) underlying26 rfl zDn rfl) (Chg.refl _ _) rfl
        refine DagStepsT.cons (fun s' w' X U H=>?_) ?_
        · have a1:s' 13=(.pointer (some ⟨br,2,none⟩)):=H 0 rfl 13 (.eq (.pointer (some ⟨br,2,none⟩))) rfl (by rw[ad];rfl);exact zAQ (zAG a1 zCr ((Chg.keep X (fun h=>by have:=hb br (.inr (af _ h));omega) (X0.keep Br)).cell rfl)) (Chg.refl _ _) rfl
        refine DagStepsT.cons (fun s' w' X U H=>?_) ?_
        · exact zAQ (zAj (U 3 rfl)) (Chg.refl _ _) rfl
        refine DagStepsT.cons (fun s' w' X U H=>?_) ?_
        · exact zAQ (zAP (U 4 rfl) zBZ zAp rfl ((Chg.keep X (fun f=>f) (X0.keep Bs)).cells rfl)) (Chg.refl _ _) rfl
        refine DagStepsT.cons (fun s' w' X U H=>?_) ?_
        · have bc:s' 16=(.agg #[(.int .i64 x.kind),(.slice am x.set.length ak),(.slice an x.args.length ao),(.int .i64 x.mn),(.int .i64 x.mx),(.bool x.neg)]):=H 3 rfl 16 (.eq (.agg #[(.int .i64 x.kind),(.slice am x.set.length ak),(.slice an x.args.length ao),(.int .i64 x.mn),(.int .i64 x.mx),(.bool x.neg)])) rfl (by rw[ad];rfl);exact zCS (zAU func32 kQ kQ (zPI bc)) ((ih x _ _ Z L1 (by have:=Re.size_arg hx;omega) (by have:=Re.size_arg hx;omega) (zFF.ext ((Ext.trans E4 X0).trans X) x av) (fun y hy h=>hz y hy (af y h)) (fun y hy=>by have:=ax y (hy.imp id (af y));have:=E4.size;have:=X0.size;have:=X.size;omega)).mono (fun v w2 h=>⟨zPD (by rintro y (h|h|h);exact .inl h;exact .inr (.inl h);exact .inr (.inr (by have:=E4.size;have:=X0.size;have:=X.size;omega))) h.1,h.2⟩))
        exact DagStepsT.nil
      · intro s' wd4 w4 X0 X4 U H;have a7:s' 14=(.slice (some ⟨b,0,none⟩) t.args.length ac):=H 1 14 (.eq (.slice (some ⟨b,0,none⟩) t.args.length ac)) rfl (by rw[ad];rfl);have a9:s' 15=(.int .i64 ((k:Nat):Int)):=H 2 15 (.eq (.int .i64 ((k:Nat):Int))) rfl (by rw[ad];rfl);obtain ⟨ap,be,al⟩:=(show (.own (zLZ (fun y=>Z y∨L1 y∨n1≤y) (zBy x)) (zIP _ _):FactT (L1)).In (s' 17) w4 from H 4 17 (.own (zLZ (fun y=>Z y∨L1 y∨n1≤y) (zBy x)) (zIP _ _)) rfl (by rw[ad];rfl));obtain ⟨j4,rfl⟩:=zAs.out (σ:=s') (l:=[(1,(.pointer (some ⟨br,0,none⟩))),(2,(.pointer (some ⟨bo,0,none⟩))),(6,(.slice (some ⟨b,0,none⟩) t.args.length ac)),(7,(.int .i64 ((t.args.length:Nat):Int))),(8,(.int .i64 ((k:Nat):Int))),(14,(.slice (some ⟨b,0,none⟩) t.args.length ac)),(15,(.int .i64 ((k:Nat):Int))),(17,(.agg ap.toArray))]) ⟨U 1 rfl,U 2 rfl,U 6 rfl,U 7 rfl,U 8 rfl,a7,a9,be,trivial⟩;clear U H;replace Br:=Chg.keep X4 (fun h=>by have:=hb br (.inr (af _ h));omega) (X0.keep Br);replace Bo:=Chg.keep X4 (fun h=>by have:=hb bo (.inr (af _ h));omega) (X0.keep Bo);replace hB:=Chg.keep X4 (fun h=>(hK b (h1 b h).1).2 rfl) (X0.keep hB);replace Bs:=Chg.keep X4 (fun h=>by have:=hb bs (.inr (af _ h));omega) (X0.keep Bs);have az:=X4;replace E:=(E.ext X0).step X4 (fun y _ hy=>af y hy);have aw:True:=trivial;refine qV (zAD (b:=b) (o:=0) (len:=t.args.length) (cap:=ac) (i:=k) (o':=0+k*6) rfl rfl rfl underlying24 zAp qO qO) (zAa (b:=b) (o:=0+k*6) (n:=6) (c':=((rows.set k ap).flatten++rest).toArray) (vs:=ap.toArray) rfl rfl (by simpa using zBm.one (zBs.at _ al)) zAp (by simpa using al.len) hB (by have:=zHp h6;simp only[List.size_toArray,List.length_append];omega) (by rw[Nat.zero_add];exact congrArg List.toArray (zHo (k:=6) (v:=ap) (rows:=rows) (i:=k) (rest:=rest) al.len h6 qO)) ?_);intro w5 S5;replace aw:=S5;replace Br:=S5.keep qO Br;replace Bo:=S5.keep qO Bo;replace Bs:=S5.keep qO Bs;replace E:=S5.step E qQ;replace hB:=S5.blk;refine zAB (zAS (zAC (zAF (qV (zAw rfl rfl (zBf qO)) (qM _ rfl (zAB (zAC ?_)))))));exact ⟨t.args.length - (k+1),qO,k+1,zAs.out ⟨rfl,rfl,rfl,rfl,rfl,trivial⟩,E,Br,Bo,qO,zTS hz ax ag hx (zBU.ext (Ext.trans E4 X0) hR) (zBg.ext (Ext.trans E4 X0) _ a6) hl h6 hD hK h1 h2 az al aw,(by have:=aw.size;have:=az.size;have:=X0.size;have:=E4.size;omega),rfl⟩
    · have bp:k=t.args.length:=qO
      subst bp;refine zAl (zAV (zAV (zAf (zAC (zFq (fun σ W6=>(∃jj_,σ=zCT jj_ [(1,(P6 br 0)),(2,(P6 bo 0))])∧Chg L w0 W6∧Blk W6 br (R6 t sa sc aa ac) 26∧Blk W6 bo #[(I6 0),(.slice none 0 0),(.slice none 0 0),(I6 0),(I6 0),(.bool false)] 26∧(zVK (fun y=>Z y∨L y∨n1≤y) W6 (.slice aa t.args.length ac) (zJD t.kind (t.args.map zBy)))) ?_ ?_)))))
      · skip
        refine zAA (qF br 0 0 rfl underlying26 rfl zAv rfl (qV (zAG rfl zAm (Br.cell rfl)) (qV (zAq rfl rfl) (zAB (qC rfl (fun h3=>?_) (fun h3=>?_))))))
        · have a2:t.args=[]∨t.args≠[]:=Classical.em _;rcases Bool.eq_false_or_eq_true (decide (t.args=[])) with ae|ae
          · have ab:=ae;replace ab:=of_decide_eq_true ab;have ar:zVK (fun y=>Z y∨L y∨n1≤y) (W1) (.slice aa t.args.length ac) (zJD t.kind (t.args.map zBy)):=⟨aa,ac,by rw[ab,show zJD t.kind ([].map zBy)=[] from by unfold zJD;split<;>rfl],by rw[ab,show zJD t.kind ([].map zBy)=[] from by unfold zJD;split<;>rfl];exact ⟨Nat.zero_le _,aq.2⟩,.inl (by rw[ab,show zJD t.kind ([].map zBy)=[] from by unfold zJD;split<;>rfl])⟩;refine zAF (qF br 0 2 rfl underlying26 rfl zDn rfl (qV (zAG rfl zCr (Br.cell rfl)) (qE rfl (zAU func65 kQ kQ rfl) ((zVp _ aa ac _ (by rw[ab];rfl))) ?_)));rintro _ w9 X9;replace Br:=X9.keep Br;replace Bo:=X9.keep Bo;replace E:=E.ext X9;refine zAB (zAC ?_);exact ⟨zAs.out ⟨rfl,rfl,trivial⟩,E,Br,Bo,zVK.ext ar X9⟩
          · have ab:=ae;replace ab:=of_decide_eq_false ab;obtain ⟨b,rows,rest,D,K,rfl,ag,hB,hR,hT,hl,h6,hD,hK⟩:=ai.resolve_left ab;have bf:=hb b (.inr ag);rw[List.take_length,List.take_of_length_le qO] at hR;refine zAF (qF br 0 2 rfl underlying26 rfl zDn rfl (qV (zAG rfl zCr (Br.cell rfl)) (qE rfl (zAU func65 kQ kQ rfl) (zXi _ b ac _ rows rest hB qO h6 (fun r hr u hu=>hR.one u (List.mem_flatten.2 ⟨r,hr,hu⟩)) hl) ?_)));rintro _ w9 ⟨bj,C9⟩;replace Br:=C9.keep qO Br;replace Bo:=C9.keep qO Bo;replace E:=E.step C9 (fun y _ hy=>by rw[hy];exact ag);refine zAB (zAC ?_);exact ⟨zAs.out ⟨rfl,rfl,trivial⟩,E,Br,Bo,⟨some ⟨b,0,none⟩,ac,by rw[show t.kind=3 from h3,zJZ];simp,by rw[show t.kind=3 from h3,zJZ];simpa using aq,.inr ⟨b,0,.inr (.inl ag),rfl,by rw[show t.kind=3 from h3,zJZ];refine zKJ fun i u hu=>?_;obtain ⟨r,a8,ba⟩:=(zBU.reverse (zBU.chg C9 (fun y hy he=>by have bi:y=b:=he;subst bi;rcases hy with h|h|h;exact hz y h ag;exact (hD y h).2.1 rfl;omega) hR)).get hu;exact ⟨r,by rw[Nat.zero_add];exact zIE bj (fun r hr=>h6 r (List.mem_reverse.1 hr)) a8,zBs.mono (fun y hy=>by rcases hy with h|h|h;exact .inl h;exact .inr (.inl (hD y h).1);exact .inr (.inr h)) u ba⟩⟩⟩⟩
        · refine zAO (zAC ?_);exact ⟨zAs.out ⟨rfl,rfl,trivial⟩,E,Br,Bo,(by have h:=zWK ai aq;rw[zKI h3];exact h)⟩
      · clear E Br Bo;rintro _ W6 ⟨⟨j6,rfl⟩,E,Br,Bo,a3⟩;have a0:Chg (fun y=>y=bo) (W6) (W6):=Chg.refl _ _;have aj:=zDk.chg au E (fun y hy=>hz y hy);refine zAA (qV (zAP (vs:=[(I6 t.kind),(.slice sa t.set.length sc),(.slice aa t.args.length ac),(I6 t.mn),(I6 t.mx),(.bool t.neg)]) rfl zBZ zAp rfl (Br.cells rfl)) (zAa (b:=bo) (o:=0) (c':=(R6 t sa sc aa ac)) rfl rfl qS zAp rfl Bo qL rfl ?_));intro w8 S8;replace a0:=S8.chg;replace Br:=S8.keep qO Br;replace E:=S8.step E qQ;replace Bo:=S8.blk;refine zAB (zAW (zBb results32 (vs:=[(.int .i64 t.kind),(.slice sa t.set.length sc),(.slice aa t.args.length ac),(.int .i64 t.mn),(.int .i64 t.mx),(.bool t.neg)]) (b:=bo) rfl zBZ zAp rfl (Bo.cells rfl) (⟨⟨_,rfl,?_⟩,E⟩)));rw[zMl];exact zXm aj (fun y hy=>.inl hy) a3 a0 bb bn
end Go.Proofs
namespace Go.Proofs
open Go Go.Eng
set_option maxRecDepth 100000
mutual
theorem zQj:∀(t:Re),zDo t→zGL t
  | .mk k set args mn mx ng,h=>by
    have h1:=zED h;have h2:=zLX h;have h3:=zEE h;simp only[zGL];refine ⟨?_,zOC args h3⟩;obtain ⟨ha,hb,hf⟩:=h2;by_cases hk:k=2
    · unfold zCU at h1;simp only[Re.kind] at ha hb;rw[if_neg (by simp only[Re.kind];omega),if_neg (by simp[hf]),if_pos (by simp only[Re.kind];exact hk)] at h1;split at h1
      · omega
      · rename_i hc
        simp only[Re.set] at hc;unfold zBO at hc;split at hc
        · omega
        · omega
    · simp only[zFE,Bool.and_eq_true,Bool.or_eq_true,decide_eq_true_eq,Re.kind,Re.set] at hf;have:=hf.1.1.1.2.resolve_left (by simp[hk]);simp at this;rw[this];simp
theorem zOC:∀(ts:List Re),zEC ts→zGp ts
  | [],_=>by simp only[zGp]
  | t::ts,h=>by simp only[zEC] at h;simp only[zGp];exact ⟨zQj t h.1,zOC ts h.2⟩
end
end Go.Proofs
namespace Go.Proofs
open Go Go.Eng
set_option maxRecDepth 100000
theorem zOj (ks:List Int) (ts:List Re):zFA ks ts=ts.any (zDv ks):=by
  induction ts with
  | nil=>rfl
  | cons t ts ih=>simp[zFA,ih]
mutual
theorem zNW (ks:List Int):∀(t:Re),zDv ks (zBy t)=zDv ks t
  | .mk k set args mn mx ng=>by
    have h:=zLE ks args;rw[zGq];simp only[zDv];congr 1;rw[zOj] at h⊢;unfold zJD;split
    · rw[List.any_reverse];exact h
    · exact h
theorem zLE (ks:List Int):∀(ts:List Re),zFA ks (ts.map zBy)=zFA ks ts
  | []=>rfl
  | t::ts=>by simp only[List.map_cons,zFA,zNW ks t,zLE ks ts]
end
theorem zOv (w0:World) (t:Re) (vs:List Value) (ht:zBm w0 t vs) (hf0:zCv t 40=0) (hu:zDv [10] t=false) :
  Ret prog 9 #[.agg vs.toArray] w0 fun v w=>∃us,v=.tuple #[.agg us.toArray,.int .i64 0]∧zBm w (zBy t) us∧Ext w0 w:=by
 have ag:=ht;obtain ⟨sa,sc,aa,ac,rfl,_,_,_⟩:=ht.form;obtain ⟨aq,hsz⟩:=(zDP qD qD).1 hf0;refine qR func9 rfl ntmps9 rfl (fun E=>(zAA (zBY (v:=(.agg (R6 t sa sc aa ac))) (c:=(R6 t sa sc aa ac)) qD rfl rfl ?_)));intro br wr Nr;have Fr:=Nr.ge E;replace E:=E.ext Nr.ext;have Br:=Nr.blk;refine zBB (c:=#[(I6 0),(.slice none 0 0),(.slice none 0 0),(I6 0),(I6 0),(.bool false)]) qD zDg rfl ?_;intro bo wo No;have Fo:=No.ge E;have Oo_br:=No.lt Br;replace Br:=No.keep Br;replace E:=E.ext No.ext;have Bo:=No.blk;refine qA _ rfl (zAB (zAH (zAA (qV (zAP (vs:=[(I6 t.kind),(.slice sa t.set.length sc),(.slice aa t.args.length ac),(I6 t.mn),(I6 t.mx),(.bool t.neg)]) rfl zBZ zAp rfl (Br.cells rfl)) (qE rfl (zAU func30 kQ kQ rfl) ((zNK _ t _ (zBm.ext E t ag)).mono (R':=fun v w=>v=.int .i64 0∧Ext wo w) (fun v w h=>⟨by rw[h.1,hf0],h.2⟩)) ?_)))));rintro _ w9 ⟨rfl,X9⟩;replace Br:=X9.keep Br;replace Bo:=X9.keep Bo;replace E:=E.ext X9;refine qA _ rfl (zAB (zAA (qM _ rfl (qV (zEY rfl rfl) (zAB (zAN rfl (zAO (zAC (zAH (zAA (qV (zAP (vs:=[(I6 t.kind),(.slice sa t.set.length sc),(.slice aa t.args.length ac),(I6 t.mn),(I6 t.mx),(.bool t.neg)]) rfl zBZ zAp rfl (Br.cells rfl)) (zAc (ps:=[(0,(I6 10))]) (c:=#[(I6 10)]) qD rfl underlying22 zAv zDJ qD qD qK ?_))))))))))));intro bk wk Nk;have Fk:=Nk.ge E;have Ok_br:=Nk.lt Br;have Ok_bo:=Nk.lt Bo;replace Br:=Nk.keep Br;replace Bo:=Nk.keep Bo;replace E:=E.ext Nk.ext;have Bk:=Nk.blk;refine qE rfl (zAU func31 kQ kQ rfl) ((zUg _ t _ [10] _ (zBm.ext E t ag) (zEv [10] Bk qP qP)).mono (R':=fun v w=>v=.bool false∧Ext wk w) (fun v w h=>⟨by rw[h.1,hu],h.2⟩)) ?_;rintro _ ax ⟨rfl,ae⟩;replace Br:=ae.keep Br;replace Bo:=ae.keep Bo;replace Bk:=ae.keep Bk;replace E:=E.ext ae;refine zAB (zAN rfl (zAO (zAC (zAA (qV (zAP (vs:=[(I6 t.kind),(.slice sa t.set.length sc),(.slice aa t.args.length ac),(I6 t.mn),(I6 t.mx),(.bool t.neg)]) rfl zBZ zAp rfl (Br.cells rfl)) ?_)))));obtain ⟨n1,ar⟩:∃n1,n1=ax.heap.size:=⟨_,rfl⟩;have hbo:=Bo.lt;refine qE rfl (zAU func33 kQ kQ rfl) (zYQ t.size t _ _ (Nat.le_refl _) qO (zQj t aq) (zBm.ext E t ag)) ?_;rintro _ w29 ⟨⟨us,Z,L,rfl,av,aw,ab⟩,ad⟩;replace Br:=ad.keep Br;replace Bo:=ad.keep Bo;replace Bk:=ad.keep Bk;replace E:=E.ext ad;have au:=ad.size;rw[←ar] at ab;have hbk:=Bk.lt;refine qE rfl (zAU func32 kQ kQ rfl) (zZA t.size t _ _ Z L (Nat.le_refl _) qO av aw (fun y hy=>(ab y hy).2)) ?_;rintro _ ai ⟨⟨us2,rfl,am⟩,af⟩;replace Br:=af.keep (fun h=>by have:=ab _ (.inr h);omega) Br;replace Bo:=af.keep (fun h=>by have:=ab _ (.inr h);omega) Bo;replace E:=E.step af (fun y hy h=>by have:=ab y (.inr h);omega);have ah:=am;obtain ⟨aj,ao,an,al,rfl,_,_,_⟩:=am.form;have ak:Chg (fun y=>y=bo) (ai) (ai):=Chg.refl _ _;refine zAa (b:=bo) (o:=0) (c':=#[(I6 ((zBy t).kind)),(.slice aj ((zBy t).set.length) ao),(.slice an ((zBy t).args.length) al),(I6 ((zBy t).mn)),(I6 ((zBy t).mx)),(.bool ((zBy t).neg))]) rfl rfl qS zAp rfl Bo qL rfl ?_;intro w1 S1;replace ak:=S1.chg;replace Br:=S1.keep qO Br;replace E:=S1.step E qQ;replace Bo:=S1.blk;refine qA _ rfl (zAB (zAW (zBG results9 (vs:=[(.int .i64 ((zBy t).kind)),(.slice aj ((zBy t).set.length) ao),(.slice an ((zBy t).args.length) al),(.int .i64 ((zBy t).mn)),(.int .i64 ((zBy t).mx)),(.bool ((zBy t).neg))]) (b:=bo) (v':=(.int .i64 0)) rfl zBZ zAp rfl (Bo.cells rfl) rfl (⟨_,rfl,?_,E⟩))));refine zBs.at _ (zBs.chg ak ?_ _ ah);rintro y (h|h|h) he
 ·have ap:y=bo:=he;have:=ab y (.inl h);omega
 ·have ap:y=bo:=he;have:=ab y (.inr h);omega
 ·have ap:y=bo:=he;omega
end Go.Proofs
namespace Go.Proofs
open Go Go.Eng Go.Sort
set_option maxRecDepth 100000
theorem zOl (w0:World) (v fv:Value) (ll:List (List Sp)) (p:List Sp→Bool) (h:zBl w0 v ll) (hf:∀(w:World) (u:Value) (l:List Sp),Ext w0 w→zBc w u l→l∈ll→zCJ prog fv #[u] w fun r w'=>r=.bool (p l)∧Ext w w') :
  Ret prog 84 #[v,fv] w0 fun r w=>r=.int .i64 (idx p ll)∧Ext w0 w:=by
 obtain ⟨a,c,rfl,_,hle⟩:=h.form;refine qR func84 rfl ntmps84 rfl (fun E=>(zAA (qA _ rfl (zAB (zAH (zAA (qM _ rfl (qV (zAK underlying35 rfl) (qM _ rfl (zAB (zAT (zAo (fun nn_ σ W1=>∃(k:Nat),(∃jj_,σ=zCT jj_ [(0,(.slice a ll.length c)),(1,fv),(7,(I6 (ll.length:Int))),(8,(I6 (k:Int)))])∧Chg zAe w0 W1∧(k≤ll.length)∧(∀(i:Nat) (y:List Sp),i<k→ll[i]?=some y→p y=false)∧nn_=ll.length - k) (n:=ll.length - 0) ?_ ?_))))))))))))
 ·exact ⟨0,zAs.out ⟨rfl,rfl,rfl,rfl,trivial⟩,E,Nat.zero_le _,(fun i y h=>absurd h (Nat.not_lt_zero _)),rfl⟩
 ·clear E;rintro _ _ W1 ⟨k,⟨j1,rfl⟩,E,hk,ab,rfl⟩;refine zAA (qV (zBA rfl rfl) (zAB (zAH (qC rfl (fun ad=>?_) (fun ad=>?_)))))
  ·obtain ⟨l,hx⟩:=zAJ (l:=ll) (i:=k) qO;obtain ⟨b,o,rfl,af⟩:=zDK h qO;obtain ⟨ra,rc,aa,ac⟩:=af k l hx;refine zAO (zAC (zAH (zAT (zAA (qM _ rfl (qA _ rfl (zAB (zAA (qM _ rfl (qM _ rfl (qM _ rfl (qV (zAD (b:=b) (o:=o) (len:=ll.length) (cap:=c) (i:=k) (o':=o+k) rfl rfl rfl underlying35 zCi qO qO) (qV (zAG rfl zCs (E.cell (fun f=>f) aa)) (zDD qD rfl rfl (hf _ _ l E (ac.ext E) (List.mem_of_getElem? hx)) ?_))))))))))))));rintro _ w9 ⟨rfl,X9⟩;replace E:=E.ext X9;refine zAB (zAx rfl (fun hp=>?_) (fun hp=>?_))
   ·have ae:=hp;refine zAA (qM _ rfl (qA _ rfl (zAB (zAW (zAh (zAX (zAX (zAh (zAX (zAZ results84 (v:=(.int .i64 ((k:Nat):Int))) rfl ?_))))))))));exact ⟨zBM (zKW hx hp ab).symm,E⟩
   ·have ae:=hp;refine zAO (zAS (zAC (zAF (qV (zAw rfl rfl (zBf qO)) (qM _ rfl (zAB (zAC ?_)))))));exact ⟨ll.length - (k+1),qO,k+1,zAs.out ⟨rfl,rfl,rfl,rfl,trivial⟩,E,qO,zFi hx hp ab,rfl⟩
  ·have hkk:k=ll.length:=qO
   refine zAl (zAV (zAV (zAf (zAC (zAA (qA _ rfl (zAB (zAW (zAZ results84 (v:=(.int .i64 (-1))) rfl ?_)))))))));exact ⟨zBM (zHw fun i y hy=>ab i y (by have:=zAE hy;omega) hy).symm,E⟩
def clAt (ll:List (List Sp)) (r:Int):Int:=idx (fun l=>inS l r) ll
noncomputable def idxE (ll:List (List Sp)) (r:Int):Int:=if partE ll≠0 then partE ll else if zHh r then 0 else 1
noncomputable def leastP (ll:List (List Sp)):List Int:=if partE ll=0 then zYE ll else []
noncomputable def wordE (ll:List (List Sp)) (t:List Int):Int:=if partE ll≠0 then partE ll else if t.any (fun r=>!zHh r) then 1 else 0
noncomputable def wordL (ll:List (List Sp)) (t:List Int):List Int:=if wordE ll t=0 then t.map (clAt ll) else []
end Go.Proofs
namespace Go.Proofs
open Go Go.Eng Go.Sort
set_option maxRecDepth 100000
def zYh (l:List Sp):Nat×List Value:=(l.length,(l.map zBw).flatten)
theorem LSt.spss {w:World} {base:Nat} {vo:Value} {vs:List Value} {ll:List (List Sp)} (h:LSt TSs TSp 2 w base vo vs (ll.map zYh)):zBl w vo ll:=by
 have hl:vs.length=ll.length:=by simpa using h.len
 refine ⟨vs,?_,hl,fun i u l hu hl=>?_⟩
 ·have ho:=h.o;rw[show vs=(vs.map fun x=>[x]).flatten by simp[List.flatten_eq_flatMap,List.flatMap_map]] at ho;exact zCz ho (by intro r hr;simp only[List.mem_map] at hr;obtain ⟨x,_,rfl⟩:=hr;rfl) (by simp[hl]) qD
 ·have h1:=h.inn i u (zYh l) hu (by rw[List.getElem?_map,hl];rfl);exact zSO.at ⟨zBR h1,h1⟩
end Go.Proofs
namespace Go.Proofs
open Go Go.Eng Go.Sort
set_option maxRecDepth 100000
theorem zXU {S:Type} (F:S→Re→Bool×S) (Inv:S→(Nat→Prop)→World→Prop) (Pn:Re→Prop) (fv:Value) (wb:World)
    (hb:∀s D w,Inv s D w→∀b,D b→wb.heap.size≤b∧b<w.heap.size)
    (hst:∀s D w w',Inv s D w→Ext w w'→Inv s D w')
    (hP:∀t,Pn t→∀x∈t.args,Pn x)
    (hf:∀s D w t vs,Ext wb w→Pn t→Inv s D w→zBm wb t vs→zCJ prog fv #[.agg vs.toArray] w fun v w'=>∃D',v=.bool (F s t).1∧Chg D w w'∧Inv (F s t).2 D' w'∧∀b,D' b→D b∨w.heap.size≤b) :
    ∀n t,t.size≤n→Pn t→∀s (D:Nat→Prop) w0 vs,Ext wb w0→Inv s D w0→zBm wb t vs→
      Ret prog 42 #[.agg vs.toArray,fv] w0 fun v w'=>∃D',v=.bool (zCp F t s).1∧Chg D w0 w'∧Inv (zCp F t s).2 D' w'∧∀b,D' b→D b∨w0.heap.size≤b:=by
  have ad:∀{D:Nat→Prop} {w w':World},Ext wb w→(∀b,D b→wb.heap.size≤b)→Chg D w w'→Ext wb w':=fun e h c=>Chg.step e c fun x hx hm=>by have:=h x hm;omega
  intro n
  induction n with
  | zero=>intro t ht;have:=t.size_pos;omega
  | succ n ih=>
  intro t hn az s D w0 vs hE hI ht;obtain ⟨sa,sc,aa,ac,rfl,a2,a1,ae⟩:=ht.form;have ag:=hb s D w0 hI;rw[zEl];refine zDE func42 rfl ntmps42 (leT rfl) ?_;have E:Chg D w0 w0:=Chg.refl _ _;refine zAA (zBY (v:=(.agg (R6 t sa sc aa ac))) (c:=(R6 t sa sc aa ac)) qD rfl rfl ?_);intro br wr Nr;have Fr:=Nr.ge E;replace hI:=hst _ _ _ _ hI Nr.ext;replace E:=E.ext Nr.ext;have Br:=Nr.blk;refine qA _ rfl (zAB (zAH (zAA (qM _ rfl (qV (zAP (vs:=[(I6 t.kind),(.slice sa t.set.length sc),(.slice aa t.args.length ac),(I6 t.mn),(I6 t.mx),(.bool t.neg)]) rfl zBZ zAp rfl (Br.cells rfl)) (zDD qD rfl rfl (hf s D _ t _ (hE.trans Nr.ext) az hI ht) ?_))))));rintro _ w2 ⟨D1,rfl,C2,hI,ay⟩;replace Br:=C2.keep (fun h=>by have:=(ag _ h).2;omega) Br;replace E:=E.trans C2;have hE2:Ext wb w2:=ad hE (fun b h=>(ag b h).1) E;have af:∀b,D1 b→D b∨w0.heap.size≤b:=fun b h=>(ay b h).imp id (fun h=>by have:=Nr.size;omega);have am:∀b,D1 b→b≠br:=fun b h e=>by rcases ay b h with h|h;have:=(ag b h).2;have:=Nr.eq;omega;have:=Nr.size;have:=Nr.eq;omega
  refine qV (zCa rfl) (zAB (zAx rfl (fun h=>?_) (fun h=>?_)))
  · have kh:=h;replace h:=by simpa using h
    refine zAA (qA _ rfl (zAB (zAW (zAX (zAZ results42 (v:=(.bool false)) rfl ?_)))));exact ⟨D1,by rw[if_neg (by simp[h])],E,by rw[if_neg (by simp[h])];exact hI,af⟩
  · have kh:=h;replace h:=by simpa using h
    rw[if_pos (by simpa using h)];generalize (F s t).2=s1 at hI⊢;have z2:br<w2.heap.size:=by have:=C2.size;have:=Nr.size;have:=Nr.eq;omega
    refine zAO (zAC (zAH (zAA (qF br 0 2 rfl underlying26 rfl zDn rfl (qV (zAG rfl zCr (Br.cell rfl)) (qV (zAK underlying24 rfl) (qM _ rfl (zAB (zAT (zAo (fun nn_ σ W2=>∃(k:Nat) (s':S) (D2:Nat→Prop),(∃jj_,σ=zCT jj_ [(1,fv),(12,(.slice aa t.args.length ac)),(13,(I6 (t.args.length:Int))),(14,(I6 (k:Int)))])∧Chg D w0 W2∧Blk W2 br (R6 t sa sc aa ac) 26∧(k≤t.args.length)∧(Inv s' D2 W2)∧(zCZ F t.args s1=zCZ F (t.args.drop k) s')∧(∀b,D2 b→D b∨w0.heap.size≤b)∧(∀b,D2 b→b≠br)∧(br<W2.heap.size)∧nn_=t.args.length - k) (n:=t.args.length - 0) ?_ ?_))))))))))
    · exact ⟨0,s1,D1,zAs.out ⟨rfl,rfl,rfl,rfl,trivial⟩,E,Br,Nat.zero_le _,hI,rfl,af,am,z2,rfl⟩
    · clear E Br;rintro _ _ W2 ⟨k,s',D2,⟨j2,rfl⟩,E,Br,hk,hI,ab,al,ah,hz,rfl⟩;have ar:=hb s' D2 _ hI;have hE1:=E.size;refine zAA (qV (zBA rfl rfl) (zAB (zAH (qC rfl (fun a3=>?_) (fun a3=>?_)))))
      · obtain ⟨x,hx⟩:=zAJ (l:=t.args) (i:=k) qO;obtain ⟨b,o,rfl,ak⟩:∃b o,aa=some ⟨b,o,none⟩∧zDS wb b o t.args:=by
          rcases ae with h|h
          · rw[h] at hx;simp at hx
          · exact h
        obtain ⟨us,a0,aw⟩:=ak.get hx;have aj:=aw;obtain ⟨aq,ai,ao,ap,rfl,_,_,_⟩:=aw.form;have ax:Ext wb _:=ad hE (fun b h=>(ag b h).1) E;have hsz:=Re.size_arg hx;refine zAO (zAC (zAH (zAT (zAA (qV (zAD (b:=b) (o:=o) (len:=t.args.length) (cap:=ac) (i:=k) (o':=o+k*6) rfl rfl rfl underlying24 zAp qO qO) (qV (zAP rfl zBZ zAp rfl (a0.ext ax)) (zAd (v:=(.agg (R6 x aq ai ao ap))) (c:=(R6 x aq ai ao ap)) (n:=6) qD zDg rfl zAp rfl rfl rfl qS ?_)))))));intro bz wz Nz;have Fz:=Nz.ge E;have Oz_br:=Nz.lt Br;replace Br:=Nz.keep Br;replace hI:=hst _ _ _ _ hI Nz.ext;replace E:=E.ext Nz.ext;have Bz:=Nz.blk;refine zAB (zAA (qV (zAP (vs:=[(I6 x.kind),(.slice aq x.set.length ai),(.slice ao x.args.length ap),(I6 x.mn),(I6 x.mx),(.bool x.neg)]) rfl zBZ zAp rfl (Bz.cells rfl)) (qM _ rfl (qE rfl (zAU func42 kQ kQ rfl) (ih x qO (hP t az x (List.mem_of_getElem? hx)) s' D2 _ _ (ax.trans Nz.ext) hI aj) ?_))));rintro _ w9 ⟨D4,rfl,C9,hI,au⟩;replace Br:=C9.keep (fun h=>by have h1:=ah _ h;have h2:=(ar _ h).2;first|exact h1 rfl|(have:=Nz.eq;omega)) Br;replace Bz:=C9.keep (fun h=>by have h1:=ah _ h;have h2:=(ar _ h).2;first|exact h1 rfl|(have:=Nz.eq;omega)) Bz;replace E:=E.step C9 (fun y hy h=>(al y h).resolve_right qO);have a5:=zFO hx;rw[a5,zCo] at ab;have av:∀b,D4 b→D b∨w0.heap.size≤b:=fun b h=>by rcases au b h with h|h;exact al b h;exact .inr (by have:=Nz.size;omega)
        have an:∀b,D4 b→b≠br:=fun b h e=>by rcases au b h with h|h;exact ah b h e;have:=Nz.size;omega
        refine qV (zCa rfl) (zAB (zAx rfl (fun h2=>?_) (fun h2=>?_)))
        · have a4:=h2;replace h2:=by simpa using h2
          refine zAA (qA _ rfl (zAB (zAW (zAh (zAX (zAX (zAh (zAX (zAZ results42 (v:=(.bool false)) rfl ?_)))))))));exact ⟨D4,by rw[ab,if_neg (by simp[h2])],E,by rw[ab,if_neg (by simp[h2])];exact hI,av⟩
        · have a4:=h2;replace h2:=by simpa using h2
          rw[if_pos (by simpa using h2)] at ab;refine zAO (zAS (zAC (zAF (qV (zAw rfl rfl (zBf qO)) (qM _ rfl (zAB (zAC ?_)))))));exact ⟨t.args.length - (k+1),qO,k+1,(zCp F x s').2,D4,zAs.out ⟨rfl,rfl,rfl,rfl,trivial⟩,E,Br,qO,hI,ab,av,an,(by have:=C9.size;have:=Nz.size;omega),rfl⟩
      · have a6:k=t.args.length:=qO
        rw[a6,List.drop_length] at ab;refine zAl (zAV (zAV (zAf (zAC (zAA (qA _ rfl (zAB (zAW (zAZ results42 (v:=(.bool true)) rfl ?_)))))))));exact ⟨D2,by rw[ab];rfl,E,by rw[ab];exact hI,al⟩
end Go.Proofs
namespace Go.Proofs
open Go Go.Eng Go.Sort
set_option maxRecDepth 100000
abbrev zZg:Nat:=35
theorem zOm (w0:World) (v fv:Value) (ll:List (List Sp)) (p:List Sp→Bool) (h:zBl w0 v ll) (hf:∀(w:World) (u:Value) (l:List Sp),Ext w0 w→zBc w u l→l∈ll→zCJ prog fv #[u] w fun r w'=>r=.bool (p l)∧Ext w w') :
  Ret prog 50 #[v,fv] w0 fun r w=>r=.bool (ll.any p)∧Ext w0 w:=by
 refine qR func50 rfl ntmps50 rfl (fun E=>(zAA (qA _ rfl (zAB (zAA (qM v rfl (qM _ rfl (qE rfl (zAU func84 kQ kQ rfl) (zOl _ v fv ll p h hf) ?_))))))));rintro _ w9 ⟨rfl,X9⟩;replace E:=E.ext X9;refine qV (zDF rfl rfl) (qA _ rfl (zAB (zAW (zAZ results50 (v:=(.bool (decide ((0:Int)≤idx p ll)))) rfl ?_))));exact ⟨zBx (zKX p ll),E⟩
theorem zOn (w0:World) (v fv:Value) (ll:List (List Sp)) (p:List Sp→Bool) (h:zBl w0 v ll) (hf:∀(w:World) (u:Value) (l:List Sp),Ext w0 w→zBc w u l→zCJ prog fv #[u] w fun r w'=>r=.bool (p l)∧Ext w w') :
  Ret prog 50 #[v,fv] w0 fun r w=>r=.bool (ll.any p)∧Ext w0 w:=
 zOm w0 v fv ll p h fun w u l e hs _=>hf w u l e hs
theorem zWx (w0:World) (bz:Nat) (x:Re) (xs:List Value) (u:Value) (l:List Sp) (hB:Blk w0 bz xs.toArray 26) (hx:zBm w0 x xs) (hu:zBc w0 u l) :
  Ret prog 68 #[u,.pointer (some ⟨bz,0,none⟩)] w0 fun r w=>r=.bool (decide (l=x.set))∧Ext w0 w:=by
 obtain ⟨sa,sc,aa,ac,rfl,ab,_,_⟩:=hx.form;refine qR func68 rfl ntmps68 rfl (fun E=>(zAA (qA _ rfl (zAB (zAA (qM u rfl (qF bz 0 1 rfl underlying26 rfl zCi rfl (qV (zAG rfl zCs (hB.cell rfl)) (qE rfl (zAU func14 kQ kQ rfl) (zUh _ _ _ l x.set (hu.ext E) (zCQ.ext ab E)) ?_)))))))));rintro _ w9 ⟨rfl,X9⟩;replace hB:=X9.keep hB;replace E:=E.ext X9;refine qA _ rfl (zAB (zAW (zAZ results68 (v:=(.bool (decide (l=x.set)))) rfl ?_)));exact ⟨rfl,E⟩
def zXB (bo base:Nat) (SR:List (List Sp)) (s:List (List Sp)) (D:Nat→Prop) (w:World):Prop:=
 ∃(oa:Option Addr) (oc:Nat) (vs:List Value),Blk w bo #[.slice oa s.length oc] zZg∧LSt TSs TSp 2 w base (.slice oa s.length oc) vs (s.map zYh)∧(∀b,D b↔b=bo∨(Value.slice oa s.length oc).ownBlock=some b)∧bo<base∧base≤w.heap.size∧s.Nodup∧∀x∈s,x∈SR
def osG (base:Nat) (l:List Sp):Fct:=fun v w=>∃a c,v=.slice a l.length c∧w.ownsRow base TSp 2 (.slice a l.length c) l.length (l.map zBw).flatten
theorem zIN (base:Nat) (l:List Sp):zMX (osG base l):=by
 rintro v w w' e ⟨a,c,rfl,h⟩;exact ⟨a,c,rfl,zAg h e⟩
def zRB (l:List Sp) (base:Nat):Fct:=fun v w=>∃b a c,v=.slice (some ⟨b,0,none⟩) 1 1∧Blk w b #[.slice a l.length c] TSs∧base≤b∧w.ownsRow base TSp 2 (.slice a l.length c) l.length (l.map zBw).flatten
theorem zIU (l:List Sp) (base:Nat):zMX (zRB l base):=by
 rintro v w w' e ⟨b,a,c,rfl,h,h2,h3⟩;exact ⟨b,a,c,rfl,Ext.keep e h,h2,zAg h3 e⟩
theorem zPm {M:Nat→Prop} {N:Nat} {σ:Env} {w:World} {dst:Option Tmp} {ty:TypeId} {pos:String} {af:Array Edge} {g:Option (Nat×Bool)} {x:Operand} {a:Option Addr} {c base:Nat} {l:List Sp} (hx:ev σ x=.slice a l.length c) (hb:base≤w.heap.size) (hO:w.ownsRow base TSp 2 (.slice a l.length c) l.length (l.map zBw).flatten) :
  zCg M prog N ⟨dst,.buildSlice 35 1 #[(0,x)],ty,pos,af,g⟩ (zRB l base) σ w:=by
 have hn:=New.mk' w #[.slice a l.length c] TSs;exact zAQ (zDW (parts:=[(0,x)]) (ps:=[(0,.slice a l.length c)]) (by simp only[List.map,hx]) underlying35 zCi zSY qD qD qK) (Ext.chg hn.ext) ⟨_,_,_,rfl,hn.blk,hb,zAg hO hn.ext⟩
theorem zMT {s:List (List Sp)} {t:Re} (h:t.kind=2→t.set∈s):zMU s t=s:=by
 unfold zMU;rw[if_neg fun h2=>h2.2 (h h2.1)]
theorem zYc (w0:World) (bo base:Nat) (SR:List (List Sp)) (hSR:SR.length≤1000∧∀s∈SR,zBO s=0) (s:List (List Sp)) (D:Nat→Prop) (x:Re) (xs:List Value) (hI:zXB bo base SR s D w0) (hP:zIz (fun s=>s∈SR) x) (hx:zBm w0 x xs) :
  Ret prog 67 #[.agg xs.toArray,.pointer (some ⟨bo,0,none⟩)] w0 fun v w'=>∃D',v=.bool true∧Chg D w0 w'∧zXB bo base SR (zMU s x) D' w'∧∀b,D' b→D b∨w0.heap.size≤b:=by
 have bh:=hx;have hI0:=hI;obtain ⟨sa,sc,aa,ac,rfl,an,_,_⟩:=hx.form;obtain ⟨oa,oc,vs,hB,hL,hD,ao,ae,al,af⟩:=hI;have bg:=ae;have a2:D bo:=(hD bo).2 (.inl rfl);have hsl:s.length≤1000:=Nat.le_trans (zOG al af) hSR.1;have au:=fun k h=>(hL.o.lt k h).2;have hD0:∀b,D b→b<w0.heap.size:=fun b h=>by rcases (hD b).1 h with h|h;omega;exact au b h
 refine zDE func67 rfl ntmps67 (leT rfl) ?_;have E:Chg D w0 w0:=Chg.refl _ _;refine zAA (zBY (v:=(.agg (R6 x sa sc aa ac))) (c:=(R6 x sa sc aa ac)) qD rfl rfl ?_);intro bz wz Nz;replace hB:=Nz.keep hB;replace hL:=hL.ext Nz.ext;replace ae:=Nat.le_trans ae Nz.ext.size;replace E:=E.ext Nz.ext;have Bz:=Nz.blk;refine qA _ rfl (zAB (zAH (zAA (qF bz 0 0 rfl underlying26 rfl zAv rfl (qV (zAG rfl zAm (Bz.cell rfl)) (qV (zAq rfl rfl) (qM _ rfl ?_)))))));rcases Bool.eq_false_or_eq_true (decide ((x.kind:Int)=2)) with g1|g1
 ·have ah:=g1;replace ah:=of_decide_eq_true ah;refine zAL rfl rfl qD (cbk g1) (qV (zAG rfl zES (hB.cell rfl)) (zAL rfl rfl qD (cbk g1) (qV (zBQ rfl rfl) (zAL rfl rfl qD (cbk g1) (qE rfl (zAU func50 kQ kQ rfl) (zOn _ _ _ s (fun l=>decide (l=x.set)) hL.spss (fun w u l hE hu=>zCJ.mk (first:=#[]) (cap:=#[.pointer (some ⟨bz,0,none⟩)]) func68 kQ kQ rfl (zWx w bz x _ u l (hE.keep Bz) (zBm.ext (Nz.ext.trans hE) x bh) hu))) ?_)))));rintro _ w9 ⟨rfl,X9⟩;replace hB:=X9.keep hB;replace Bz:=X9.keep Bz;replace hL:=hL.ext X9;replace ae:=Nat.le_trans ae X9.size;replace E:=E.ext X9;refine zAL rfl rfl qD (cbk g1) (qV (zCa rfl) (qV (zAr (v:=(.bool (!(s.any fun l=>decide (l=x.set))))) rfl (by rw[g1];rfl)) (zAB (zAx rfl (fun g2=>?_) (fun g2=>?_)))))
  ·have a3:=g2;replace g2:=by simpa using g2
   have ar:x.set∉s:=fun h=>g2 _ h rfl;have aw:=hP.s ah;have ba:=(zKi (hSR.2 x.set aw)).2;have ab:zMU s x=s++[x.set]:=by unfold zMU;rw[if_pos ⟨ah,ar⟩]
   obtain ⟨n1,bd⟩:∃n,n=(w9).heap.size:=⟨_,rfl⟩;have hn0:w0.heap.size≤n1:=by rw[bd];have:=X9.size;have:=Nz.size;omega
   obtain ⟨be,ad⟩:∃Fs:List (FactT (zAe)),Fs=[.eq (.slice oa s.length oc),.eq (P6 bz 1),.eq (.slice sa x.set.length sc),.gen (osG n1 x.set) (zIN _ _),.gen (zRB x.set n1) (zIU _ _)]:=⟨_,rfl⟩;refine zFW (zAe) 5 3 [13,14,15,16,17] [[],[],[1],[2],[3]] be ad rfl mixed qK qK qK ?_ ?_
   ·intro wd X0;refine DagStepsT.cons (fun s' w' X U H=>?_) ?_
    ·exact zAQ (zAG (U 1 rfl) zES ((Chg.keep X (fun f=>f) (X0.keep hB)).cell rfl)) (Chg.refl _ _) rfl
    refine DagStepsT.cons (fun s' w' X U H=>?_) ?_
    ·exact zAQ (zAY (U 2 rfl) underlying26 rfl zCi rfl) (Chg.refl _ _) rfl
    refine DagStepsT.cons (fun s' w' X U H=>?_) ?_
    ·have a4:s' 14=(.pointer (some ⟨bz,1,none⟩)):=H 1 rfl 14 (.eq (.pointer (some ⟨bz,1,none⟩))) rfl (by rw[ad];rfl);exact zAQ (zAG a4 zCs ((Chg.keep X (fun f=>f) (X0.keep Bz)).cell rfl)) (Chg.refl _ _) rfl
    refine DagStepsT.cons (fun s' w' X U H=>?_) ?_
    ·have a6:s' 15=(.slice sa x.set.length sc):=H 2 rfl 15 (.eq (.slice sa x.set.length sc)) rfl (by rw[ad];rfl);exact zCS (zAU func66 kQ kQ (zPI a6)) ((zOY _ _ x.set (zCQ.ext (zCQ.ext an (Nz.ext.trans X9)) (X0.trans X)) qO).mono (fun v w h=>⟨(by obtain ⟨⟨⟨a,c,h1⟩,h2⟩,_⟩:=h;subst h1;exact ⟨a,c,rfl,zFM h2 (by have:=X0.size;have:=X.size;omega)⟩:osG n1 x.set v w),h.2⟩))
    refine DagStepsT.cons (fun s' w' X U H=>?_) ?_
    ·obtain ⟨a8,a9,ax,az⟩:=(show (.gen (osG n1 x.set) (zIN _ _):FactT (zAe)).In (s' 16) w' from H 3 rfl 16 (.gen (osG n1 x.set) (zIN _ _)) rfl (by rw[ad];rfl));exact zPm ax (by have:=X0.size;have:=X.size;omega) az
    exact DagStepsT.nil
   ·intro s' wd3 w3 X0 X3 U H;have a1:s' 13=(.slice oa s.length oc):=H 0 13 (.eq (.slice oa s.length oc)) rfl (by rw[ad];rfl);obtain ⟨a8,a9,ax,az⟩:=(show (.gen (osG n1 x.set) (zIN _ _):FactT (zAe)).In (s' 16) w3 from H 3 16 (.gen (osG n1 x.set) (zIN _ _)) rfl (by rw[ad];rfl));obtain ⟨a7,ap,a0,bc,bf,h17,a5⟩:=(show (.gen (zRB x.set n1) (zIU _ _):FactT (zAe)).In (s' 17) w3 from H 4 17 (.gen (zRB x.set n1) (zIU _ _)) rfl (by rw[ad];rfl));obtain ⟨j3,rfl⟩:=zAs.out (σ:=s') (l:=[(1,(.pointer (some ⟨bo,0,none⟩))),(13,(.slice oa s.length oc)),(17,(.slice (some ⟨a7,0,none⟩) 1 1))]) ⟨U 1 rfl,a1,bc,trivial⟩;clear U H;replace hB:=Chg.keep X3 (fun f=>f) (X0.keep hB);replace Bz:=Chg.keep X3 (fun f=>f) (X0.keep Bz);replace hL:=hL.ext X0;replace hL:=hL.ext X3;replace ae:=Nat.le_trans ae X0.size;replace ae:=Nat.le_trans ae X3.size;replace E:=(E.ext X0).step X3 (fun _ _ f=>f.elim);have hw3:=E.size;have av:=hL.on (n:=s.length) qP;refine zBt (base:=base) (n:=s.length) (m:=1) (xs:=vs) (news:=[(.slice ap x.set.length a0)]) (size:=1) (bytes:=24) (v:=(.slice oa s.length oc)) qD underlying35 zCi zYY zSY rfl qD rfl av rfl (rfl) (bf.cells rfl) qS (by unfold maxLen;omega) qO (ae) ?_;intro v9 w29 ay ak aq;replace hB:=ak.keep (fun h=>by have:=(av.lt _ h).1;omega) hB;replace E:=E.step ak (fun y hy h=>(hD y).2 (.inr h));obtain ⟨ai,aj,rfl⟩:=zBR ay;have am:=hL.push (n:=s.length) qP a5 qO (fun k h=>by have:=au k h;omega) ay ak aq;have ag:=Nat.le_trans ae ak.size;have bb:∀b,(Value.slice ai (s.length+1) aj).ownBlock=some b→D b∨w0.heap.size≤b:=fun b h=>by rcases aq b h with h|h;exact .inl ((hD b).2 (.inr h));exact .inr qO
    refine zAt (b:=bo) (o:=0) (c':=#[(.slice ai (s.length+1) aj)]) (v:=(.slice ai (s.length+1) aj)) rfl rfl rfl zHg hB qP rfl ?_;intro w4 S4;replace am:=am.chg S4.chg (fun b hb _ h=>by have h2:b=bo:=h;omega);replace ag:=Nat.le_trans ag S4.chg.size;replace E:=S4.step E qQ;replace hB:=S4.blk;refine zAB (zAC (zAA (qA _ rfl (zAB (zAW (zAZ results67 (v:=(.bool true)) rfl (⟨fun b=>b=bo∨(Value.slice ai (s.length+1) aj).ownBlock=some b,rfl,E,⟨ai,aj,vs++[.slice ap x.set.length a0],?_,?_,?_,ao,ag,?_,?_⟩,?_⟩)))))))
    ·rw[ab,List.length_append];exact hB
    ·rw[ab,List.length_append,List.map_append];exact am
    ·intro b;rw[ab,List.length_append];exact Iff.rfl
    ·rw[ab,List.nodup_append];exact ⟨al,qP,fun a ha b hb=>by rw[List.mem_singleton.1 hb];rintro rfl;exact ar ha⟩
    ·intro y hy;rw[ab] at hy;rcases List.mem_append.1 hy with h|h
     ·exact af y h
     ·rw[List.mem_singleton.1 h];exact aw
    ·rintro b (rfl|h)
     ·exact .inl a2
     ·exact bb b h
  ·have a3:=g2;replace g2:=by simpa using g2
   have ab:zMU s x=s:=zMT fun _=>g2;refine zAO (zAC (zAA (qA _ rfl (zAB (zAW (zAZ results67 (v:=(.bool true)) rfl ?_))))));exact ⟨D,rfl,E,by rw[ab];exact ⟨oa,oc,vs,hB,hL,hD,ao,ae,al,af⟩,fun b h=>.inl h⟩
 ·have ah:=g1;replace ah:=of_decide_eq_false ah;have ab:zMU s x=s:=zMT fun h=>by simp[h] at g1
  refine zAM rfl rfl qD (v:=.bool false) (cbk g1) (Or.inl rfl) (zAM rfl rfl qD (v:=.bool false) (cbk g1) (Or.inl rfl) (zAM rfl rfl qD (v:=.bool false) (cbk g1) (Or.inl rfl) (zAM rfl rfl qD (v:=.bool false) (cbk g1) (Or.inl rfl) (qV (zAr (v:=(.bool false)) rfl (by rw[g1];rfl)) (zAB (zAN rfl (zAO (zAC (zAA (qA _ rfl (zAB (zAW (zAZ results67 (v:=(.bool true)) rfl ?_)))))))))))));exact ⟨D,rfl,E,by rw[ab];exact ⟨oa,oc,vs,hB,hL,hD,ao,ae,al,af⟩,fun b h=>.inl h⟩
theorem zXB.ext {bo base:Nat} {SR s:List (List Sp)} {D:Nat→Prop} {w w':World} (h:zXB bo base SR s D w) (e:Ext w w'):zXB bo base SR s D w':=by
 obtain ⟨oa,oc,vs,hB,hL,hD,ab,ac,ad,aa⟩:=h;exact ⟨oa,oc,vs,e.keep hB,hL.ext e,hD,ab,Nat.le_trans ac e.size,ad,aa⟩
theorem zJQ {S:Type} (f:S→Re→S):∀(l:List Re) (s:S),zGG (fun s t=>(true,f s t)) l s=(true,l.foldl f s)
  | [],s=>rfl
  | t::l,s=>by simp only[zGG,if_true,List.foldl_cons];exact zJQ f l _
theorem zZY (w0:World) (t:Re) (vs:List Value) (ht:zBm w0 t vs) (hv:zIz (fun s=>zBO s=0) t) (hs:t.size≤1000) :
  Ret prog 34 #[.agg vs.toArray] w0 fun v w=>zBl w v (zCq t)∧Ext w0 w:=by
 have ai:=ht;obtain ⟨sa,sc,aa,ac,rfl,ab,_,_⟩:=ht.form;have ae:(zCq t).length≤1000∧∀s∈zCq t,zBO s=0:=⟨Nat.le_trans (zNd t) hs,zHz hv⟩;have hw:zCp (fun s t=>(true,zMU s t)) t []=(true,zCq t):=by rw[zJR,zJQ];rfl
 have ah:zIz (fun s=>s∈zCq t) t:=zNe fun s h=>h;refine qR func34 rfl ntmps34 rfl (fun E=>(zAA (zBY (v:=(.agg (R6 t sa sc aa ac))) (c:=(R6 t sa sc aa ac)) qD rfl rfl ?_)));intro br wr Nr;have Fr:=Nr.ge E;replace E:=E.ext Nr.ext;have Br:=Nr.blk;refine qA _ rfl (zAB (zAA (zBB (c:=#[(.slice none 0 0)]) qD zYr rfl ?_)));intro bo wo No;have Fo:=No.ge E;have Oo_br:=No.lt Br;replace Br:=No.keep Br;replace E:=E.ext No.ext;have Bo:=No.blk;refine zAB (zAA (qV (zAP (vs:=[(I6 t.kind),(.slice sa t.set.length sc),(.slice aa t.args.length ac),(I6 t.mn),(I6 t.mx),(.bool t.neg)]) rfl zBZ zAp rfl (Br.cells rfl)) (qV (zBQ rfl rfl) ?_)));have ad:=Bo.lt;have ag:zXB bo wo.heap.size (zCq t) [] (fun b=>b=bo) wo:=⟨none,0,[],Bo,LSt.start _ _ _ _ _,fun b=>⟨.inl,fun h=>h.elim id (fun h=>by cases h)⟩,Bo.lt,Nat.le_refl _,List.nodup_nil,fun x hx=>by cases hx⟩;refine qE rfl (zAU func42 kQ kQ rfl) ((zXU (fun s t=>(true,zMU s t)) (zXB bo wo.heap.size (zCq t)) (zIz (fun s=>s∈zCq t)) _ wr (fun s D w hI b hb=>by obtain ⟨oa,oc,vs,hB,hL,hD,h1,h2,_,_⟩:=hI;rcases (hD b).1 hb with h|h;exact ⟨by have:=No.eq;omega,qO⟩;exact ⟨by have:=(hL.o.lt b h).1;have:=No.size;omega,(hL.o.lt b h).2⟩) (fun s D w w' hI e=>hI.ext e) (fun t h x hx=>h.a x hx) (fun s D w t vs hE hP hI hx=>zCJ.mk (first:=#[]) (cap:=#[.pointer (some ⟨bo,0,none⟩)]) func67 kQ kQ rfl (zYc w bo wo.heap.size _ ae s D t vs hI hP (zBm.ext hE t hx))) t.size t (Nat.le_refl _) ah [] (fun b=>b=bo) _ _ No.ext ag (zBm.ext Nr.ext t ai)).mono (R':=fun v w=>v=.bool true∧(∃oa oc vs,Blk w bo #[.slice oa (zCq t).length oc] zZg∧LSt TSs TSp 2 w wo.heap.size (.slice oa (zCq t).length oc) vs ((zCq t).map zYh))∧Chg (fun b=>b=bo) wo w) (fun v w h=>by obtain ⟨D',h1,h2,h3,_⟩:=h;rw[hw] at h1 h3;obtain ⟨oa,oc,vs,hB,hL,_⟩:=h3;exact ⟨h1,⟨oa,oc,vs,hB,hL⟩,h2⟩)) ?_;rintro _ w9 ⟨rfl,⟨oa,oc,us,af,hL⟩,C9⟩;replace Br:=C9.keep qO Br;replace E:=E.step C9 (by intro x hx hm;omega);refine zAB (zAA (qV (zAG rfl zES (af.cell rfl)) (qA _ rfl (zAB (zAW (zAZ results34 (v:=(.slice oa ((zCq t).length) oc)) rfl ?_))))));exact ⟨hL.spss,E⟩
end Go.Proofs
namespace Go.Proofs
open Go Go.Eng Go.Sort
set_option maxRecDepth 100000
mutual
theorem zFJ:∀{t:Re},zDo t→zIz (fun s=>zBO s=0) t
  | .mk k s a m x g,h=>⟨fun hk=>((zXq (t:=.mk k s a m x g) h (by show k≠9;omega) (by show k≠10;omega) rfl).k2 hk).2,zGH (zEE h)⟩
theorem zGH:∀{ts:List Re},zEC ts→zMY (fun s=>zBO s=0) ts
  | [],_=>trivial
  | t::ts,h=>by
    simp only[zEC] at h;exact ⟨zFJ h.1,zGH h.2⟩
end
end Go.Proofs
namespace Go.Proofs
open Go Go.Eng Go.Sort
set_option maxRecDepth 100000
structure RRow (S:Nat→Prop) (w:World) where
 t:Re
 vs:List Value
 h:zBs S w t vs
instance {S:Nat→Prop} {w:World}:Inhabited (RRow S w):=⟨⟨_,_,zTB S w 0⟩⟩
end Go.Proofs
namespace Go.Proofs
open Go Go.Eng Go.Sort
set_option maxRecDepth 100000
theorem zUA {ll out:List (List Sp)} {e:Int} (h:zNJ ll out e) (hv:∀l∈ll,zBO l=0) (he:e≠0):e=2:=by
 rcases h with ⟨h1,_⟩|⟨_,cs,_,⟨_,h2,_⟩|⟨_,h2,_⟩⟩
 ·exact absurd (zHJ hv) h1
 ·exact h2
 ·exact absurd h2 he
theorem zWl {ll out:List (List Sp)} {e:Int} (h:zNJ ll out e) (hv:∀l∈ll,zBO l=0) (he:e=0):zPW ll out∧out.length≤16:=by
 rcases h with ⟨h1,_⟩|⟨_,cs,h0,⟨_,h2,_⟩|⟨h3,h2,rfl⟩⟩
 ·exact absurd (zHJ hv) h1
 ·omega
 ·refine ⟨h0,?_⟩;unfold zOK at h3;exact Nat.le_of_not_lt fun h=>h3 (.inr h)
end Go.Proofs
