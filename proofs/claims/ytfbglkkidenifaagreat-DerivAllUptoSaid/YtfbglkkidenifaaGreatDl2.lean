/- Contracts and plain lemmas, part 2. -/
import Derived.Test.YtfbglkkidenifaaGreatDl1
open Go.Proofs.Tryz
set_option maxHeartbeats 16000000
set_option linter.unusedVariables false
namespace Go.Proofs
open Go Go.Eng
set_option maxRecDepth 100000
theorem zVa (w0:World) (v:Value) (l:List (Int×Int)) (h:zBQ w0 v l) (hl:l.length≤2000000) :
  Ret prog 114 #[v] w0 fun r w=>∃a c,r=.slice a l.length c∧zDK (fun b=>w0.heap.size≤b∧b<w.heap.size) w 2 r (l.map zBh)∧Ext w0 w:=by
 obtain ⟨a,c,rfl⟩:=zBq.form h;simp only[List.length_map] at h⊢;obtain ⟨base,af⟩:∃base,base=w0.heap.size:=⟨_,rfl⟩;refine qR func114 rfl ntmps114 rfl (fun E=>(zAA (qA _ rfl (zAB (zAK (zAA (qM _ rfl (zCJ (v:=(.bool a.isNone)) rfl rfl qD (zKH underlying22 rfl rfl) (zAB (zAt rfl (fun hn=>?_) (fun hn=>?_)))))))))))
 ·have ag:=hn;have ae:l.length=0:=by rcases Nat.eq_zero_or_pos l.length with h0|h0;exact h0;obtain ⟨b,o,rfl,_⟩:=zBN h h0;simp at hn
  have ad:l=[]:=List.eq_nil_of_length_eq_zero ae;refine zAA (qA _ rfl (zAB (zAR (zAI (zAW results114 (v:=(.slice none 0 0)) rfl ?_)))));exact ⟨none,0,by rw[ae],by subst ad;exact zDK.nil _ _ _ _ _,E⟩
 ·have ag:=hn;rcases Bool.eq_false_or_eq_true (decide (l.length=0)) with hz|hz
  ·have aa:=hz;replace aa:=of_decide_eq_true aa;refine zAP (zAC (zAA (zGM qD underlying22 zBB ?_)));intro bq wq Nq;have Fq:=Nq.ge E;replace E:=E.ext Nq.ext;have Bq:=Nq.blk;refine qM _ rfl (qV (zII underlying22 zBB (a':=a) (c':=c) rfl (Nat.le_refl _) (by show Value.slice a l.length c=_;rw[aa])) (qA _ rfl (zAB (zAR (zAW results114 (v:=(.slice (some ⟨bq,0,none⟩) 0 0)) rfl ?_)))));have ad:l=[]:=List.eq_nil_of_length_eq_zero aa;exact ⟨some ⟨bq,0,none⟩,0,by rw[aa],by subst ad;exact zDK.nil _ _ _ _ _,E⟩
  ·have aa:=hz;replace aa:=of_decide_eq_false aa;obtain ⟨b,o,rfl,ah⟩:=zBN h qO;refine zAP (zAC (zAA (zGM qD underlying22 zBB ?_)));intro bq wq Nq;have Fq:=Nq.ge E;replace E:=E.ext Nq.ext;have Bq:=Nq.blk;refine qM _ rfl ?_;have ab:=zGS (base:=base) (size:=2) Bq qO;have ai:base≤wq.heap.size:=by have:=Nq.ext.size;omega
   refine zBC (base:=base) (n:=0) (m:=l.length) (xs:=[]) (news:=(l.map zBh).flatten) (size:=2) (bytes:=16) (v:=(.slice (some ⟨bq,0,none⟩) 0 0)) qD underlying22 zBB zIl zCb rfl qD rfl ab rfl (zEV l) ((zJP ah).ext Nq.ext) (zKt l) (by unfold maxLen;omega) qO (ai) ?_;intro v9 w29 ac aj Dv9;replace E:=E.step aj (fun x hx h=>absurd (ab.lt x h).1 qO);obtain ⟨la,lc,rfl⟩:=zAw ac;refine qA _ rfl (zAB (zAR (zAW results114 (v:=(.slice la (0+l.length) lc)) rfl ?_)));simp only[Nat.zero_add,List.nil_append] at ac;have ak:=zDC ac (by intro r hr;simp only[List.mem_map] at hr;obtain ⟨p,_,rfl⟩:=hr;rfl) qP qD;obtain ⟨gq,rfl,hgq,_⟩:=zCn ac qO;simp only[Nat.zero_add];exact ⟨some ⟨gq,0,none⟩,lc,rfl,zDK.mk ak ⟨qO,(ac.lt gq rfl).2⟩,E⟩
mutual
def zGL:Re→Prop
  | .mk _ set args _ _ _=>set.length≤2000000∧zHB args
def zHB:List Re→Prop
  | []=>True
  | t::ts=>zGL t∧zHB ts
end
theorem zOV {t:Re} (h:zGL t):t.set.length≤2000000:=by cases t;simp only[zGL] at h;exact h.1
theorem zOW {t:Re} (h:zGL t) {i:Nat} {x:Re} (hx:t.args[i]?=some x):zGL x:=by
  cases t with
  | mk k set args mn mx ng=>
  simp only[zGL] at h;replace h:=h.2;simp only[Re.args] at hx
  induction args generalizing i with
  | nil=>simp at hx
  | cons u us ih=>
    simp only[zHB] at h;cases i with
    | zero=>simp at hx;subst hx;exact h.1
    | succ i=>simp at hx;exact ih hx h.2
def zHS (n0:Nat) (t:Re):Fct:=fun v w=>∃vs Z L,v=.agg vs.toArray∧zFA Z w t vs L∧(∀x,Z x→¬L x)∧(∀x,Z x∨L x→n0≤x∧x<w.heap.size)
theorem zFO (n0:Nat) (t:Re):∀v w w',Chg zAo w w'→zHS n0 t v w→zHS n0 t v w':=by
 rintro v w w' e ⟨vs,Z,L,h1,h2,h3,h4⟩;exact ⟨vs,Z,L,h1,zFA.ext e t h2,h3,fun x hx=>⟨(h4 x hx).1,Nat.lt_of_lt_of_le (h4 x hx).2 e.size⟩⟩
def zOw (n0:Nat) (t:Re):Fct:=fun v w=>∃b vs Z L,v=.slice (some ⟨b,0,none⟩) 1 1∧Blk w b vs.toArray TRe∧zFA Z w t vs L∧(∀x,Z x→¬L x)∧(∀x,Z x∨L x→n0≤x∧x<w.heap.size)
theorem zIg (n0:Nat) (t:Re):∀v w w',Chg zAo w w'→zOw n0 t v w→zOw n0 t v w':=by
 rintro v w w' e ⟨b,vs,Z,L,h0,h1,h2,h3,h4⟩;exact ⟨b,vs,Z,L,h0,Ext.keep e h1,zFA.ext e t h2,h3,fun x hx=>⟨(h4 x hx).1,Nat.lt_of_lt_of_le (h4 x hx).2 e.size⟩⟩
theorem zRf {N n0:Nat} {σ:Env} {w:World} {dst:Option Tmp} {ty:TypeId} {pos:String} {af:Array Edge} {g:Option (Nat×Bool)} {x:Operand} {t:Re} {vs:List Value} {Z L:Nat→Prop} (hx:ev σ x=.agg vs.toArray) (h2:zFA Z w t vs L) (h3:∀x,Z x→¬L x) (h4:∀x,Z x∨L x→n0≤x∧x<w.heap.size) :
  zMw zAo prog N ⟨dst,.buildSlice 23 1 #[(0,x)],ty,pos,af,g⟩ (zOw n0 t) σ w:=by
 have ab:=h2;obtain ⟨sa,sc,aa,ac,rfl,_⟩:=h2.form;have hn:=New.mk' w #[.int .i64 t.kind,.slice sa t.set.length sc,.slice aa t.args.length ac,.int .i64 t.mn,.int .i64 t.mx,.bool t.neg] TRe;refine zBb (zCM (parts:=[(0,x)]) (ps:=[(0,.agg #[.int .i64 t.kind,.slice sa t.set.length sc,.slice aa t.args.length ac,.int .i64 t.mn,.int .i64 t.mx,.bool t.neg])]) (by simp only[List.map,hx]) underlying23 zAO zAu qD qD qK) hn.ext ?_;exact ⟨_,_,Z,L,rfl,hn.blk,zFA.ext hn.ext t ab,h3,fun x hx=>⟨(h4 x hx).1,Nat.lt_of_lt_of_le (h4 x hx).2 hn.ext.size⟩⟩
theorem zRH {w1 w2 w3:World} {base n1 b3:Nat} {v v':Value} {x:Re} {vs:List Value} {ts:List Re} {rows:List (List Value)} {Z L Z1 L1:Nat→Prop}
  (hTs:zBn Z w1 ts rows L) (hT:zFA Z1 w1 x vs L1) (hd1:∀y,Z y→¬L y) (hd2:∀y,Z y∨L y→base≤y∧y<n1) (hd3:∀q,v.ownBlock=some q→(¬Z q∧¬L q)∧(base≤q∧q<n1)) (he1:∀y,Z1 y→¬L1 y) (he2:∀y,Z1 y∨L1 y→n1≤y∧y<w1.heap.size)
  (C:Chg (fun y=>v.ownBlock=some y) w1 w2) (hD:∀q,v'.ownBlock=some q→v.ownBlock=some q∨w1.heap.size≤q) (C3:Chg (fun y=>y=b3) w2 w3) (hb3:b3<base) (hbn:base≤n1) (hnw:n1≤w1.heap.size) :
  zBn (fun y=>Z y∨Z1 y) w3 (ts++[x]) (rows++[vs]) (fun y=>L y∨L1 y)∧(∀y,(Z y∨Z1 y)→¬(L y∨L1 y))∧(∀y,(Z y∨Z1 y)∨(L y∨L1 y)→base≤y∧y<w3.heap.size)∧(∀q,v'.ownBlock=some q→¬(Z q∨Z1 q)∧¬(L q∨L1 q)):=by
 have hs2:=C.size;have hs3:=C3.size;have kz:∀y,Z y→¬v.ownBlock=some y:=fun y hy h=>(hd3 y h).1.1 hy;have kl:∀y,L y→¬v.ownBlock=some y:=fun y hy h=>(hd3 y h).1.2 hy;have aa:∀y,Z1 y→¬v.ownBlock=some y:=fun y hy h=>by have:=(hd3 y h).2;have:=he2 y (.inl hy);omega
 have kl1:∀y,L1 y→¬v.ownBlock=some y:=fun y hy h=>by have:=(hd3 y h).2;have:=he2 y (.inr hy);omega
 have mz:∀y,Z y→¬y=b3:=fun y hy h=>by have:=hd2 y (.inl hy);omega
 have ml:∀y,L y→¬y=b3:=fun y hy h=>by have:=hd2 y (.inr hy);omega
 have ab:∀y,Z1 y→¬y=b3:=fun y hy h=>by have:=he2 y (.inl hy);omega
 have ac:∀y,L1 y→¬y=b3:=fun y hy h=>by have:=he2 y (.inr hy);omega
 have h1:=zBn.chg C3 mz ts ml (zBn.chg C kz ts kl hTs);have h2:=zFA.chg C3 ab x ac (zFA.chg C aa x kl1 hT);refine ⟨zBn.snoc (zFA.mono (fun _ h=>.inr h) x (fun _ h=>h) h2) (zBn.mono (fun _ h=>.inl h) ts (fun _ h=>h) h1) (fun y a b=>by have:=hd2 y (.inr a);have:=he2 y (.inr b);omega),?_,?_,?_⟩
 ·rintro y (a|a) (b|b)
  ·exact hd1 y a b
  ·have:=hd2 y (.inl a);have:=he2 y (.inr b);omega
  ·have:=hd2 y (.inr b);have:=he2 y (.inl a);omega
  ·exact he1 y a b
 ·rintro y ((a|a)|(a|a))
  ·have:=hd2 y (.inl a);omega
  ·have:=he2 y (.inl a);omega
  ·have:=hd2 y (.inr a);omega
  ·have:=he2 y (.inr a);omega
 ·intro q hq;rcases hD q hq with h|h
  ·refine ⟨?_,?_⟩
   ·rintro (a|a);exact kz q a h;exact aa q a h
   ·rintro (a|a);exact kl q a h;exact kl1 q a h
  ·refine ⟨?_,?_⟩
   ·rintro (a|a);have:=hd2 q (.inl a);omega;have:=he2 q (.inl a);omega
   ·rintro (a|a);have:=hd2 q (.inr a);omega;have:=he2 q (.inr a);omega
theorem zRI {w:World} {base n0 sc lc:Nat} {t:Re} {sa la:Option Addr} {rows:List (List Value)} {Z L Z0:Nat→Prop} (hown:w.ownsRow base TRe 6 (.slice la t.args.length lc) t.args.length rows.flatten) (hTs:zBn Z w t.args rows L)
    (hset:zDK Z0 w 2 (.slice sa t.set.length sc) (t.set.map zBh)) (hd1:∀x,Z x→¬L x) (hd2:∀x,Z x∨L x→base≤x∧x<w.heap.size) (hd3:∀q,(Value.slice la t.args.length lc).ownBlock=some q→¬Z q∧¬L q) (hz0:∀x,Z0 x→n0≤x∧x<base) (hn0:n0≤base) (hbs:base≤w.heap.size) :
    zHS n0 t (.agg #[.int .i64 t.kind,.slice sa t.set.length sc,.slice la t.args.length lc,.int .i64 t.mn,.int .i64 t.mx,.bool t.neg]) w:=by
  refine ⟨[.int .i64 t.kind,.slice sa t.set.length sc,.slice la t.args.length lc,.int .i64 t.mn,.int .i64 t.mx,.bool t.neg],fun x=>Z x∨Z0 x,fun x=>L x∨(Value.slice la t.args.length lc).ownBlock=some x,rfl,?_,?_,?_⟩
  · have hlt:=hown.lt;cases t with
    | mk k set args mn mx ng=>
    simp only[Re.kind,Re.set,Re.args,Re.mn,Re.mx,Re.neg] at *;simp only[zFA];refine ⟨sa,sc,la,lc,rfl,hset.mono fun _ h=>.inr h,?_,?_⟩
    · rcases hown.2 with ⟨h1,h2⟩|⟨q,ab,aa,h1,h2,h3,h4,h5,h6,h7⟩
      · simp at h1;omega
      · simp only[Value.slice.injEq] at h1;obtain ⟨_,_,rfl⟩:=h1;simp only[maxLen] at h5;exact ⟨h4,qO⟩
    · rcases hown.2 with ⟨h1,h2⟩|⟨q,ab,aa,h1,h2,h3,h4,h5,h6,h7⟩
      · exact .inl (List.eq_nil_of_length_eq_zero h2)
      · simp only[Value.slice.injEq] at h1;obtain ⟨rfl,_,rfl⟩:=h1;refine .inr ⟨q,rows,aa.toList.drop (args.length*6),L,.inr rfl,rfl,?_,zBn.six hTs,zBn.mono (fun _ h=>.inl h) args (fun _ h=>h) hTs,fun x hx=>⟨.inl hx,fun h=>?_⟩⟩
        · have:(rows.flatten++aa.toList.drop (args.length*6)).toArray=aa:=by rw[←h7,List.take_append_drop]
          rw[this];exact h3
        · subst h;exact (hd3 x rfl).2 hx
  · rintro x (a|a) (b|b)
    · exact hd1 x a b
    · exact (hd3 x b).1 a
    · have:=hz0 x a;have:=hd2 x (.inr b);omega
    · have:=hz0 x a;have:=hown.lt x b;omega
  · rintro x ((a|a)|(a|a))
    · have:=hd2 x (.inl a);omega
    · have:=hz0 x a;omega
    · have:=hd2 x (.inr a);omega
    · have:=hown.lt x a;omega
theorem zNz {n0 n1:Nat} (h:n1≤n0) {t:Re} {v:Value} {w:World} (hc:zHS n0 t v w):zHS n1 t v w:=by
 obtain ⟨vs,Z,L,h1,h2,h3,h4⟩:=hc;exact ⟨vs,Z,L,h1,h2,h3,fun x hx=>⟨Nat.le_trans h (h4 x hx).1,(h4 x hx).2⟩⟩
theorem zRJ {n0 b:Nat} {t:Re} {v:Value} {w w':World} (c:Chg (fun y=>y=b) w w') (hb:b<n0) (hc:zHS n0 t v w):zHS n0 t v w':=by
 obtain ⟨vs,Z,L,h1,h2,h3,h4⟩:=hc;exact ⟨vs,Z,L,h1,zFA.chg c (fun x hx h=>by have:=h4 x (.inl hx);omega) t (fun x hx h=>by have:=h4 x (.inr hx);omega) h2,h3,fun x hx=>⟨(h4 x hx).1,Nat.lt_of_lt_of_le (h4 x hx).2 c.size⟩⟩
theorem zTt:∀(n:Nat) (t:Re) (w0:World) (vs:List Value),t.size≤n→t.size≤1000000→zGL t→zBG w0 t vs→
    Ret prog 57 #[.agg vs.toArray] w0 fun v w=>zHS w0.heap.size t v w∧Ext w0 w:=by
  intro n
  induction n with
  | zero=>intro t w0 vs hn;have:=t.size_pos;omega
  | succ n ih=>
  intro t w0 vs hn hM bf ht;have bk:=ht;obtain ⟨sa,sc,aa,ac,rfl,bx,hac,_⟩:=ht.form;have hal:t.args.length≤t.size:=by
    have h1:=t.size_eq;have:∀ts:List Re,ts.length≤Re.sizes ts:=by
      intro ts
      induction ts with
      | nil=>simp
      | cons x xs ih=>have:=x.size_pos;simp only[List.length_cons,Re.sizes];omega
    have:=this t.args;omega
  refine qR func57 rfl ntmps57 rfl (fun E=>(zAA (zBL (v:=(.agg (R6 t sa sc aa ac))) (c:=(R6 t sa sc aa ac)) qD rfl rfl ?_)));intro br wr Nr;have Fr:=Nr.ge E;replace E:=E.ext Nr.ext;have Br:=Nr.blk;refine zBJ (c:=#[(I6 0),(.slice none 0 0),(.slice none 0 0),(I6 0),(I6 0),(.bool false)]) qD zAu rfl ?_;intro bp wp Np;have Fp:=Np.ge E;have Op_br:=Np.lt Br;replace Br:=Np.keep Br;replace E:=E.ext Np.ext;have Bp:=Np.blk;refine zAB (zAA (qV (zAG (vs:=[(I6 t.kind),(.slice sa t.set.length sc),(.slice aa t.args.length ac),(I6 t.mn),(I6 t.mx),(.bool t.neg)]) rfl zAc zAO rfl (Br.cells rfl)) (zAg (v:=(.agg (R6 t sa sc aa ac))) (c:=(R6 t sa sc aa ac)) (n:=6) qD zAu rfl zAO rfl rfl rfl qS ?_)));intro bq wq Nq;have Fq:=Nq.ge E;have Oq_br:=Nq.lt Br;have Oq_bp:=Nq.lt Bp;replace Br:=Nq.keep Br;replace Bp:=Nq.keep Bp;replace E:=E.ext Nq.ext;have Bq:=Nq.blk;refine zAB (zAA (qF br 0 1 rfl underlying25 rfl zBm rfl (qV (zAL rfl zBe (Br.cell rfl)) ?_)));obtain ⟨n3,b6⟩:∃n3,n3=wq.heap.size:=⟨_,rfl⟩;have hq3:=Bq.lt;refine qE rfl (zAV func114 zVA zVm rfl) (zVa _ _ t.set (zBq.ext bx E) (zOV bf)) ?_;rintro _ w9 ⟨al,ak,rfl,ab,X9⟩;replace Br:=X9.keep Br;replace Bp:=X9.keep Bp;replace Bq:=X9.keep Bq;replace E:=E.ext X9;obtain ⟨base,av⟩:∃base,base=w9.heap.size:=⟨_,rfl⟩;have hs9:=X9.size;rw[←av,←b6] at ab;have af:base≤w9.heap.size:=qO
  refine qF bq 0 1 rfl underlying25 rfl zBm rfl (zBr (b:=bq) (o:=1) (c':=(R6 t al ak aa ac)) (v:=(.slice al t.set.length ak)) rfl rfl rfl zBm Bq qP rfl ?_);intro w1 S1;replace af:=Nat.le_trans af S1.chg.size;replace ab:=zDK.chg ab S1.chg (fun x hx hm=>by have bg:=hx;have a4:x=bq:=hm;omega);replace Br:=S1.keep qO Br;replace Bp:=S1.keep qO Bp;replace E:=S1.step E qQ;replace Bq:=S1.blk;refine qF bq 0 2 rfl underlying25 rfl zBS rfl (zBr (b:=bq) (o:=2) (c':=#[(I6 t.kind),(.slice al t.set.length ak),(.slice none 0 0),(I6 t.mn),(I6 t.mx),(.bool t.neg)]) (v:=(.slice none 0 0)) rfl rfl rfl zBS Bq qP rfl ?_);intro w2 S2;replace af:=Nat.le_trans af S2.chg.size;replace ab:=zDK.chg ab S2.chg (fun x hx hm=>by have bg:=hx;have a4:x=bq:=hm;omega);replace Br:=S2.keep qO Br;replace Bp:=S2.keep qO Bp;replace E:=S2.step E qQ;replace Bq:=S2.blk;refine zAB (zAK (zAA (qF br 0 2 rfl underlying25 rfl zBS rfl (qV (zAL rfl zBE (Br.cell rfl)) (qV (zAM underlying23 rfl) (qM _ rfl (zAB (zAT (zAq (fun nn_ σ W3=>∃(k:Nat) (la:Option Addr) (lc:Nat) (aj:List (List Value)) (Z:Nat→Prop) (L:Nat→Prop),(∃jj_,σ=zCH jj_ [(2,(P6 bp 0)),(3,(P6 bq 0)),(13,(.slice aa t.args.length ac)),(14,(I6 (t.args.length:Int))),(15,(I6 (k:Int)))])∧Chg zAo w0 W3∧Blk W3 br (R6 t sa sc aa ac) 25∧Blk W3 bp #[(I6 0),(.slice none 0 0),(.slice none 0 0),(I6 0),(I6 0),(.bool false)] 25∧Blk W3 bq (#[(I6 t.kind),(.slice al t.set.length ak),(.slice la k lc),(I6 t.mn),(I6 t.mx),(.bool t.neg)]) 25∧(k≤t.args.length)∧(W3.ownsRow base TRe 6 (.slice la k lc) k aj.flatten)∧(zBn Z W3 (t.args.take k) aj L)∧(∀x,Z x→¬L x)∧(∀x,Z x∨L x→base≤x∧x<W3.heap.size)∧(∀x,(Value.slice la k lc).ownBlock=some x→¬Z x∧¬L x)∧(base≤W3.heap.size)∧(zDK (fun b=>n3≤b∧b<base) W3 2 (.slice al t.set.length ak) (t.set.map zBh))∧nn_=t.args.length - k) (n:=t.args.length - 0) ?_ ?_)))))))))
  · exact ⟨0,none,0,[],(fun _=>False),(fun _=>False),zBA.out ⟨rfl,rfl,rfl,rfl,rfl,trivial⟩,E,Br,Bp,Bq,Nat.zero_le _,World.ownsRow_nil _ _ _ _,(by simp only[List.take_zero,zBn]),(fun _ f _=>f),(by rintro x (f|f)<;>exact f.elim),(by simp[Value.ownBlock]),af,ab,rfl⟩
  · clear E Br Bp Bq;rintro _ _ W3 ⟨k,la,lc,aj,Z,L,⟨j3,rfl⟩,E,Br,Bp,Bq,hk,ad,am,be,a1,ba,af,ab,rfl⟩;refine zAA (qV (zBH rfl rfl) (zAB (zAK (qC rfl (fun cb=>?_) (fun cb=>?_)))))
    · obtain ⟨x,hx⟩:=zAU (l:=t.args) (i:=k) qO;obtain ⟨b,o,rfl,bt⟩:=(zBG.rs bk).cells qO;obtain ⟨xs,b4,a6⟩:=bt k x hx;have ay:=a6;obtain ⟨aq,ar,ap,au,rfl,_,_,_⟩:=a6.form;obtain ⟨nk,bm⟩:∃nk,nk=(W3).heap.size:=⟨_,rfl⟩;have ae:nk≤(W3).heap.size:=qO
      have ao:=ad.lt;rw[←bm] at a1 ao;refine zAP (zAC (zAK (zAT (zAA (qV (zAH (b:=b) (o:=o) (len:=t.args.length) (cap:=ac) (i:=k) (o':=o+k*6) rfl rfl rfl underlying23 zAO qO qO) (qV (zAG rfl zAc zAO rfl (b4.ext E)) (zAg (v:=(.agg (R6 x aq ar ap au))) (c:=(R6 x aq ar ap au)) (n:=6) qD zAu rfl zAO rfl rfl rfl qS ?_)))))));intro bs ws Ns;have Fs:=Ns.ge E;have Os_br:=Ns.lt Br;have Os_bp:=Ns.lt Bp;have Os_bq:=Ns.lt Bq;replace Br:=Ns.keep Br;replace Bp:=Ns.keep Bp;replace Bq:=Ns.keep Bq;replace ab:=zDK.chg ab Ns.ext (fun _ _ f=>f);replace af:=Nat.le_trans af Ns.ext.size;replace ae:=Nat.le_trans ae Ns.ext.size;replace ad:=zAn ad Ns.ext;replace am:=zBn.ext Ns.ext _ am;replace E:=E.ext Ns.ext;have Bs:=Ns.blk;refine zAB ?_;obtain ⟨n1,a9⟩:∃n1,n1=ws.heap.size:=⟨_,rfl⟩;have b7:nk≤n1:=by rw[a9];exact ae
      have ag:n1≤ws.heap.size:=qO
      have a5:base≤n1:=by rw[a9];exact af
      obtain ⟨b1,ah⟩:∃Fs:List (FactT (zAo)),Fs=[.eq (P6 bq 2),.eq (.slice la k lc),.eq (.agg (R6 x aq ar ap au)),.gen (zHS n1 x) (zFO n1 x),.gen (zOw n1 x) (zIg n1 x)]:=⟨_,rfl⟩;refine zKf (zAo) 5 3 [19,20,21,22,23] [[],[0],[],[2],[3]] b1 ah rfl mixed qK qK qK ?_ ?_
      · intro wd X0;refine DagStepsT.cons (fun s' w' X U H=>?_) ?_
        · exact zBb (zAQ (U 3 rfl) underlying25 rfl zBS rfl) (Chg.refl _ _) rfl
        refine DagStepsT.cons (fun s' w' X U H=>?_) ?_
        · have bw:s' 19=(.pointer (some ⟨bq,2,none⟩)):=H 0 rfl 19 (.eq (.pointer (some ⟨bq,2,none⟩))) rfl (by rw[ah];rfl);exact zBb (zAL bw zBE ((Chg.keep X (fun f=>f) (X0.keep Bq)).cell rfl)) (Chg.refl _ _) rfl
        refine DagStepsT.cons (fun s' w' X U H=>?_) ?_
        · exact zBb (zAG (U 5 rfl) zAc zAO rfl ((Chg.keep X (fun f=>f) (X0.keep Bs)).cells rfl)) (Chg.refl _ _) rfl
        refine DagStepsT.cons (fun s' w' X U H=>?_) ?_
        · have bj:s' 21=(.agg #[(.int .i64 x.kind),(.slice aq x.set.length ar),(.slice ap x.args.length au),(.int .i64 x.mn),(.int .i64 x.mx),(.bool x.neg)]):=H 2 rfl 21 (.eq (.agg #[(.int .i64 x.kind),(.slice aq x.set.length ar),(.slice ap x.args.length au),(.int .i64 x.mn),(.int .i64 x.mx),(.bool x.neg)])) rfl (by rw[ah];rfl);exact zIv (zAV func57 zYM zZS (zOj bj)) ((ih x _ _ (by have:=Re.size_arg hx;omega) (by have:=Re.size_arg hx;omega) (zOW bf hx) (zBG.ext ((Ext.trans E X0).trans X) x ay)).mono (fun v w2 h=>⟨zNz (by have:=X0.size;have:=X.size;omega) h.1,h.2⟩))
        refine DagStepsT.cons (fun s' w' X U H=>?_) ?_
        · obtain ⟨bz,bv,b8,a7,bc,bh,bb⟩:=(show (.gen (zHS n1 x) (zFO n1 x):FactT (zAo)).In (s' 22) w' from H 3 rfl 22 (.gen (zHS n1 x) (zFO n1 x)) rfl (by rw[ah];rfl));exact (zRf a7 bc bh bb)
        exact DagStepsT.nil
      · intro s' wd5 w5 X0 X5 U H;have b5:s' 20=(.slice la k lc):=H 1 20 (.eq (.slice la k lc)) rfl (by rw[ah];rfl);obtain ⟨bz,bv,b8,a7,bc,bh,bb⟩:=(show (.gen (zHS n1 x) (zFO n1 x):FactT (zAo)).In (s' 22) w5 from H 3 22 (.gen (zHS n1 x) (zFO n1 x)) rfl (by rw[ah];rfl));obtain ⟨bi,bd,bl,b0,b2,bn,az,bo,bu⟩:=(show (.gen (zOw n1 x) (zIg n1 x):FactT (zAo)).In (s' 23) w5 from H 4 23 (.gen (zOw n1 x) (zIg n1 x)) rfl (by rw[ah];rfl));obtain ⟨j5,rfl⟩:=zBA.out (σ:=s') (l:=[(2,(.pointer (some ⟨bp,0,none⟩))),(3,(.pointer (some ⟨bq,0,none⟩))),(13,(.slice (some ⟨b,o,none⟩) t.args.length ac)),(14,(.int .i64 ((t.args.length:Nat):Int))),(15,(.int .i64 ((k:Nat):Int))),(20,(.slice la k lc)),(23,(.slice (some ⟨bi,0,none⟩) 1 1))]) ⟨U 2 rfl,U 3 rfl,U 13 rfl,U 14 rfl,U 15 rfl,b5,b2,trivial⟩;clear U H;replace Br:=Chg.keep X5 (fun f=>f) (X0.keep Br);replace Bp:=Chg.keep X5 (fun f=>f) (X0.keep Bp);replace Bq:=Chg.keep X5 (fun f=>f) (X0.keep Bq);replace Bs:=Chg.keep X5 (fun f=>f) (X0.keep Bs);replace ab:=zDK.chg ab X0 (fun _ _ f=>f);replace ab:=zDK.chg ab X5 (fun _ _ f=>f);replace af:=Nat.le_trans af X0.size;replace af:=Nat.le_trans af X5.size;replace ae:=Nat.le_trans ae X0.size;replace ae:=Nat.le_trans ae X5.size;replace ad:=zAn ad X0;replace ad:=zAn ad X5;replace am:=zBn.ext X0 _ am;replace am:=zBn.ext X5 _ am;replace ag:=Nat.le_trans ag X0.size;replace ag:=Nat.le_trans ag X5.size;replace E:=(E.ext X0).step X5 (fun _ _ f=>f.elim);refine zBC (base:=base) (n:=k) (m:=1) (xs:=aj.flatten) (news:=bd) (size:=6) (bytes:=80) (v:=(.slice la k lc)) qD underlying23 zAO zEu zAu rfl qD rfl ad rfl (by rw[az.len]) (bn.cells qP) (az.one) (by unfold maxLen;omega) qO (af) ?_;intro v9 a8 ax an ca;replace Br:=an.keep (fun h=>by have:=(ad.lt _ h).1;omega) Br;replace Bp:=an.keep (fun h=>by have:=(ad.lt _ h).1;omega) Bp;replace Bq:=an.keep (fun h=>by have:=(ad.lt _ h).1;omega) Bq;replace E:=E.step an (fun x hx h=>absurd (ad.lt x h).1 qO);obtain ⟨a0,a2,rfl⟩:=zAw ax;have a3:Chg (fun y=>y=bq) a8 a8:=Chg.refl _ _;replace ab:=zDK.chg ab an (fun y hy hm=>by have:=(ad.lt y hm).1;have hy':=hy;omega);replace af:=Nat.le_trans af an.size;refine qF bq 0 2 rfl underlying25 rfl zBS rfl (zBr (b:=bq) (o:=2) (c':=#[(I6 t.kind),(.slice al t.set.length ak),(.slice a0 (k+1) a2),(I6 t.mn),(I6 t.mx),(.bool t.neg)]) (v:=(.slice a0 (k+1) a2)) rfl rfl rfl zBS Bq qP rfl ?_);intro w6 S6;replace af:=Nat.le_trans af S6.chg.size;replace ab:=zDK.chg ab S6.chg (fun x hx hm=>by have bg:=hx;have a4:x=bq:=hm;omega);replace a3:=S6.chg;replace Br:=S6.keep qO Br;replace Bp:=S6.keep qO Bp;replace E:=S6.step E qQ;replace Bq:=S6.blk;refine zAB (zAS (zAC (zAN (qV (zAy rfl rfl (zBV qO)) (qM _ rfl (zAB (zAC ?_)))))));have ai:=zRH (base:=base) (n1:=n1) (b3:=bq) am az be (fun y hy=>by have:=a1 y hy;omega) (fun q hq=>⟨ba q hq,by have:=ao q hq;omega⟩) bo bu an ca a3 qO a5 ag;exact ⟨t.args.length - (k+1),qO,k+1,a0,a2,aj++[bd],(fun y=>Z y∨bl y),(fun y=>L y∨b0 y),zBA.out ⟨rfl,rfl,rfl,rfl,rfl,trivial⟩,E,Br,Bp,Bq,qO,(by have h:=zBi ax a3 (fun q hq hm=>by have:=(ax.lt q hq).1;have a4:q=bq:=hm;omega);simpa using h),(by rw[List.take_add_one,hx];exact ai.1),ai.2.1,ai.2.2.1,ai.2.2.2,af,ab,rfl⟩
    · have b9:k=t.args.length:=qO
      subst b9;rw[List.take_length] at am;have aw:=zRI (n0:=n3) ad am ab be a1 ba (fun x h=>h) qO af;refine zAp (zAX (zAX (zAj (zAC (zAA (qV (zAG (vs:=[(I6 t.kind),(.slice al t.set.length ak),(.slice la t.args.length lc),(I6 t.mn),(I6 t.mx),(.bool t.neg)]) rfl zAc zAO rfl (Bq.cells rfl)) (zAY (b:=bp) (o:=0) (c':=(R6 t al ak la lc)) rfl rfl qS zAO rfl Bp qL rfl ?_)))))));intro w7 S7;replace aw:=zRJ S7.chg qO aw;replace Br:=S7.keep qO Br;replace Bq:=S7.keep qO Bq;replace E:=S7.step E qQ;replace Bp:=S7.blk;refine zAB (zAR (zAr results57 (vs:=[(.int .i64 t.kind),(.slice al t.set.length ak),(.slice la t.args.length lc),(.int .i64 t.mn),(.int .i64 t.mx),(.bool t.neg)]) (b:=bp) rfl zAc zAO rfl (Bp.cells rfl) ?_));exact ⟨zNz qO aw,E⟩
end Go.Proofs
namespace Go.Proofs
open Go Go.Eng
set_option maxRecDepth 100000
def zAm (S:Nat→Prop) (w:World):List Re→List (List Value)→Prop
  | [],rows=>rows=[]
  | t::ts,rows=>∃r rs,rows=r::rs∧zAe S w t r∧zAm S w ts rs
theorem zAm.ext {S:Nat→Prop} {w w':World} (e:Ext w w'):∀{ts:List Re} {rows:List (List Value)},zAm S w ts rows→zAm S w' ts rows
  | [],_,h=>h
  | t::ts,rows,h=>by
    obtain ⟨r,rs,h1,h2,h3⟩:=h;exact ⟨r,rs,h1,zAe.ext e t h2,zAm.ext e h3⟩
theorem zAm.len {S:Nat→Prop} {w:World}:∀{ts:List Re} {rows:List (List Value)},zAm S w ts rows→rows.length=ts.length
  | [],_,h=>by simp only[zAm] at h;subst h;rfl
  | t::ts,rows,h=>by
    obtain ⟨r,rs,rfl,_,h3⟩:=h;simp[zAm.len h3]
theorem zAm.six {S:Nat→Prop} {w:World}:∀{ts:List Re} {rows:List (List Value)},zAm S w ts rows→∀r∈rows,r.length=6
  | [],_,h=>by simp only[zAm] at h;subst h;simp
  | t::ts,rows,h=>by
    obtain ⟨r,rs,rfl,h2,h3⟩:=h;intro q hq;rcases List.mem_cons.1 hq with rfl|hq
    · exact h2.len
    · exact zAm.six h3 q hq
theorem zAm.one {S:Nat→Prop} {w:World}:∀{ts:List Re} {rows:List (List Value)},zAm S w ts rows→∀u∈rows.flatten,u.oneCell'=true
  | [],_,h=>by simp only[zAm] at h;subst h;simp
  | t::ts,rows,h=>by
    obtain ⟨r,rs,rfl,h2,h3⟩:=h;intro u hu;rw[List.flatten_cons,List.mem_append] at hu;rcases hu with hu|hu
    · exact zBG.one (zAe.at t h2) u hu
    · exact zAm.one h3 u hu
theorem zAm.get {S:Nat→Prop} {w:World}:∀{ts:List Re} {rows:List (List Value)},zAm S w ts rows→∀{i:Nat} {t:Re},ts[i]?=some t→∃r,rows[i]?=some r∧zAe S w t r
  | [],_,_,i,t,hi=>by simp at hi
  | t::ts,rows,h,i,u,hi=>by
    obtain ⟨r,rs,rfl,h2,h3⟩:=h;cases i with
    | zero=>simp at hi;subst hi;exact ⟨r,rfl,h2⟩
    | succ i=>simp at hi;obtain ⟨q,h4,h5⟩:=zAm.get h3 hi;exact ⟨q,by simpa using h4,h5⟩
theorem zAm.append {S:Nat→Prop} {w:World} {us:List Re} {qs:List (List Value)} (hu:zAm S w us qs):∀{ts:List Re} {rows:List (List Value)},zAm S w ts rows→zAm S w (ts++us) (rows++qs)
  | [],_,h=>by simp only[zAm] at h;subst h;simpa using hu
  | t::ts,rows,h=>by
    obtain ⟨r,rs,rfl,h2,h3⟩:=h;exact ⟨r,rs++qs,rfl,h2,zAm.append hu h3⟩
theorem zAm.single {S:Nat→Prop} {w:World} {t:Re} {r:List Value} (h:zAe S w t r):zAm S w [t] [r]:=⟨r,[],rfl,h,rfl⟩
theorem zBX.rows {S:Nat→Prop} {w:World} {b:Nat}:∀{ts:List Re} {o:Nat},zBX S w b o ts→∃rows,zAm S w ts rows∧zBD w b o rows.flatten
  | [],_,_=>⟨[],rfl,fun i v hv=>by simp at hv⟩
  | t::ts,o,h=>by
    simp only[zBX] at h;obtain ⟨⟨vs,h1,h2⟩,h3⟩:=h;obtain ⟨rows,h4,h5⟩:=zBX.rows h3;refine ⟨vs::rows,⟨vs,rows,rfl,h2,h4⟩,fun i v hv=>?_⟩;have hl:=h2.len;rw[List.flatten_cons] at hv;rcases Nat.lt_or_ge i 6 with hi|hi
    · rw[List.getElem?_append_left qO] at hv;exact h1 i v hv
    · rw[List.getElem?_append_right qO] at hv;have:=h5 (i - vs.length) v hv
      rwa [show o+6+(i - vs.length)=o+i from qO] at this
def zCU (S:Nat→Prop) (w:World) (v:Value) (ts:List Re):Prop:=∃aa ac,v=.slice aa ts.length ac∧(ts.length≤ac∧ac≤9223372036854775807)∧(ts=[]∨∃b o,S b∧aa=some ⟨b,o,none⟩∧zBX S w b o ts)
theorem zCU.cells {S:Nat→Prop} {w:World} {aa:Option Addr} {n ac:Nat} {ts:List Re} (h:zCU S w (.slice aa n ac) ts) (hn:0<n):∃b o,aa=some ⟨b,o,none⟩∧∀i t,ts[i]?=some t→∃vs,zBD w b (o+i*6) vs∧zAe S w t vs:=by
 obtain ⟨aa',ac',h1,h2,h3⟩:=h;simp only[Value.slice.injEq] at h1;obtain ⟨rfl,rfl,rfl⟩:=h1;rcases h3 with rfl|⟨b,o,_,h4,h5⟩
 ·simp at hn
 ·exact ⟨b,o,h4,fun i t ht=>zBX.get h5 ht⟩
/-- Rows of one's own, read as expressions. -/
theorem zDs {S:Nat→Prop} {w:World} {base n:Nat} {a:Option Addr} {c:Nat} {ts:List Re} {rows:List (List Value)} (h:w.ownsRow base TRe 6 (.slice a n c) n rows.flatten) (hr:zAm S w ts rows) (hn:ts.length=n):(n≤c∧c≤9223372036854775807)∧(ts=[]∨∃b,base≤b∧b<w.heap.size∧a=some ⟨b,0,none⟩∧∀i t,ts[i]?=some t→∃vs,zBD w b (0+i*6) vs∧zAe S w t vs):=by
 rcases h.2 with ⟨h1,h2⟩|⟨g,cap,aa,h1,h2,h3,h4,h5,h6,h7⟩
 ·simp only[Value.slice.injEq] at h1;obtain ⟨rfl,rfl,rfl⟩:=h1;exact ⟨qP,.inl (List.eq_nil_of_length_eq_zero hn)⟩
 ·simp only[Value.slice.injEq] at h1;obtain ⟨rfl,_,rfl⟩:=h1;simp only[maxLen] at h5;refine ⟨⟨h4,qO⟩,.inr ⟨g,h2,(h.lt g rfl).2,rfl,fun i t ht=>?_⟩⟩;obtain ⟨r,h8,h9⟩:=hr.get ht;have hb:Blk w g (rows.flatten++aa.toList.drop (n*6)).toArray TRe:=by
   have:(rows.flatten++aa.toList.drop (n*6)).toArray=aa:=by rw[←h7,List.take_append_drop]
   rw[this];exact h3
  exact ⟨r,by rw[Nat.zero_add];exact zFy hb hr.six h8,h9⟩
theorem zTf {S:Nat→Prop} {w:World} {base n:Nat} {a:Option Addr} {c:Nat} {ts:List Re} {rows:List (List Value)} (h:w.ownsRow base TRe 6 (.slice a n c) n rows.flatten) (hr:zAm S w ts rows) (hn:ts.length=n):zIs w (.slice a n c) ts:=by
 obtain ⟨h1,h2⟩:=zDs h hr hn;refine ⟨a,c,by rw[hn],by rw[hn];exact h1,?_⟩;rcases h2 with h|⟨b,_,_,h4,h5⟩
 ·exact .inl h
 ·exact .inr ⟨b,0,h4,zCO.mk fun i t ht=>by obtain ⟨vs,h6,h7⟩:=h5 i t ht;exact ⟨vs,h6,zAe.at t h7⟩⟩
theorem zDD:∀ts:List Re,ts.length≤Re.sizes ts
  | []=>qP
  | x::xs=>by have:=x.size_pos;have:=zDD xs;simp only[List.length_cons,Re.sizes];omega
theorem zQp (k:Int) (ts:List Re) (x:Re):zBY k (ts++[x])=zBY k ts++(if x.kind=k then x.args else [x]):=by simp[zBY]
theorem zQo {k:Int} {ts:List Re} {j:Nat} {x:Re} (hx:ts[j]?=some x):zBY k (ts.take (j+1))=zBY k (ts.take j)++(if x.kind=k then x.args else [x]):=by
 rw[List.take_add_one,hx];exact zQp k _ x
theorem zKQ (k:Int) (ts:List Re) (j:Nat):(zBY k (ts.take j)).length≤Re.sizes ts:=by
 have h1:=zDD (zBY k (ts.take j));have h2:=zFY k (ts.take j);have h3:Re.sizes ts=Re.sizes (ts.take j)+Re.sizes (ts.drop j):=by rw[←Re.sizes_append,List.take_append_drop]
 omega
theorem zTq (w0:World) (S:Nat→Prop) (k:Int) (v:Value) (ts:List Re) (h:zCU S w0 v ts) (hne:∀x∈ts,x.kind=k→x.args≠[]) (hsz:Re.sizes ts≤1000000) :
  Ret prog 167 #[.int .i64 k,v] w0 fun r w=>∃la lc rows,r=.slice la (zBY k ts).length lc∧w.ownsRow w0.heap.size TRe 6 r (zBY k ts).length rows.flatten∧zAm S w0 (zBY k ts) rows∧Ext w0 w:=by
 have h0:=h;obtain ⟨aa,ac,rfl,hac,_⟩:=h;have hls:=zDD ts;obtain ⟨base,an⟩:∃base,base=w0.heap.size:=⟨_,rfl⟩;refine qR func167 rfl ntmps167 rfl (fun E=>(zAA (qA _ rfl (zAB (zAA (qA _ rfl (zAB (zAK (zAA (qM _ rfl (qV (zAM underlying23 rfl) (qM _ rfl (zAB (zAT (zAq (fun nn_ σ W1=>∃(j:Nat) (la:Option Addr) (lc:Nat) (m:Nat) (rows:List (List Value)),(∃jj_,σ=zCH jj_ [(0,(I6 k)),(8,(.slice aa ts.length ac)),(9,(I6 (ts.length:Int))),(10,(I6 (j:Int))),(5,(.slice la m lc))])∧Chg zAo w0 W1∧(j≤ts.length)∧(W1.ownsRow base TRe 6 (.slice la m lc) m rows.flatten)∧(m=(zBY k (ts.take j)).length)∧(zAm S w0 (zBY k (ts.take j)) rows)∧(base≤W1.heap.size)∧nn_=ts.length - j) (n:=ts.length - 0) ?_ ?_)))))))))))))))
 ·exact ⟨0,none,0,0,[],zBA.out ⟨rfl,rfl,rfl,rfl,rfl,trivial⟩,E,Nat.zero_le _,World.ownsRow_nil _ _ _ _,rfl,rfl,qO,rfl⟩
 ·clear E;rintro _ _ W1 ⟨j,la,lc,m,rows,⟨j1,rfl⟩,E,hj,ab,hm,aq,ae,rfl⟩;refine zAA (qV (zBH rfl rfl) (zAB (zAK (qC rfl (fun a5=>?_) (fun a5=>?_)))))
  ·obtain ⟨x,hx⟩:=zAU (l:=ts) (i:=j) qO;obtain ⟨b,o,rfl,a2⟩:=h0.cells qO;obtain ⟨xs,ax,aw⟩:=a2 j x hx;have ar:=aw;obtain ⟨af,ag,aj,ah,rfl,_,_,az⟩:=aw.form;have ai:=zQo (k:=k) hx;have ap:=zKQ k ts (j+1);rcases Bool.eq_false_or_eq_true (decide ((x.kind:Int)=k)) with ak|ak
   ·have ad:=ak;replace ad:=of_decide_eq_true ad;rw[if_pos ad] at ai;obtain ⟨xb,xo,_,rfl,ay⟩:=az.resolve_left (hne x (List.mem_of_getElem? hx) ad);obtain ⟨qs,ao,a3⟩:=zBX.rows ay;rw[ai,List.length_append] at ap;refine zAP (zAC (zAK (zAT (zAA (qV (zAH (b:=b) (o:=o) (len:=ts.length) (cap:=ac) (i:=j) (o':=o+j*6) rfl rfl rfl underlying23 zAO qO qO) (qV (zAG rfl zAc zAO rfl (ax.ext E)) (zAg (v:=(.agg (R6 x af ag (some ⟨xb,xo,none⟩) ah))) (c:=(R6 x af ag (some ⟨xb,xo,none⟩) ah)) (n:=6) qD zAu rfl zAO rfl rfl rfl qS ?_)))))));intro b3 w3 N3;have F3:=N3.ge E;replace ab:=zAn ab N3.ext;replace ae:=Nat.le_trans ae N3.ext.size;replace E:=E.ext N3.ext;have B3:=N3.blk;refine zAB (zAA (qF b3 0 0 rfl underlying25 rfl zAv rfl (qV (zAL rfl zAf (B3.cell rfl)) (qM _ rfl (qV (zAk rfl rfl) (zAB (zAl (cbk ak) (zAN (qM _ rfl (qF b3 0 2 rfl underlying25 rfl zBS rfl (qV (zAL rfl zBE (B3.cell rfl)) (zBC (base:=base) (n:=m) (m:=x.args.length) (xs:=rows.flatten) (news:=qs.flatten) (size:=6) (bytes:=80) (v:=(.slice la m lc)) qD underlying23 zAO zEu zAu rfl qD rfl ab rfl (by rw[zCE ao.six,ao.len]) (a3.ext E) (ao.one) (by unfold maxLen;omega) qO (ae) ?_))))))))))));intro v9 a0 am al a4;replace E:=E.step al (fun x hx h=>absurd (ab.lt x h).1 qO);obtain ⟨au,av,rfl⟩:=zAw am;refine qA _ rfl (zAB (zAS (zAC (zAN (qV (zAy rfl rfl (zBV qO)) (qM _ rfl (zAB (zAC ?_))))))));exact ⟨ts.length - (j+1),qO,j+1,au,av,m+x.args.length,rows++qs,zBA.out ⟨rfl,rfl,rfl,rfl,rfl,trivial⟩,E,qO,(by simpa using am),(by rw[ai,List.length_append,hm]),(by rw[ai];exact zAm.append ao aq),Nat.le_trans ae al.size,rfl⟩
   ·have ad:=ak;replace ad:=of_decide_eq_false ad;rw[if_neg ad] at ai;rw[ai,List.length_append] at ap;refine zAP (zAC (zAK (zAT (zAA (qV (zAH (b:=b) (o:=o) (len:=ts.length) (cap:=ac) (i:=j) (o':=o+j*6) rfl rfl rfl underlying23 zAO qO qO) (qV (zAG rfl zAc zAO rfl (ax.ext E)) (zAg (v:=(.agg (R6 x af ag aj ah))) (c:=(R6 x af ag aj ah)) (n:=6) qD zAu rfl zAO rfl rfl rfl qS ?_)))))));intro b4 w4 N4;have F4:=N4.ge E;replace ab:=zAn ab N4.ext;replace ae:=Nat.le_trans ae N4.ext.size;replace E:=E.ext N4.ext;have B4:=N4.blk;refine zAB (zAA (qF b4 0 0 rfl underlying25 rfl zAv rfl (qV (zAL rfl zAf (B4.cell rfl)) (qM _ rfl (qV (zAk rfl rfl) (zAB (zAb (cbk ak) (zAN (qM _ rfl (qV (zAG (vs:=[(I6 x.kind),(.slice af x.set.length ag),(.slice aj x.args.length ah),(I6 x.mn),(I6 x.mx),(.bool x.neg)]) rfl zAc zAO rfl (B4.cells rfl)) (zAh (ps:=[(0,(.agg (R6 x af ag aj ah)))]) (c:=(R6 x af ag aj ah)) qD rfl underlying23 zAO zAu qD qD qK ?_)))))))))));intro b5 w5 N5;have F5:=N5.ge E;have O5_b4:=N5.lt B4;replace B4:=N5.keep B4;replace ab:=zAn ab N5.ext;replace ae:=Nat.le_trans ae N5.ext.size;replace E:=E.ext N5.ext;have B5:=N5.blk;refine zBC (base:=base) (n:=m) (m:=1) (xs:=rows.flatten) (news:=[(I6 x.kind),(.slice af x.set.length ag),(.slice aj x.args.length ah),(I6 x.mn),(I6 x.mx),(.bool x.neg)]) (size:=6) (bytes:=80) (v:=(.slice la m lc)) qD underlying23 zAO zEu zAu rfl qD rfl ab rfl (rfl) (B5.cells rfl) qS (by simp at ap;unfold maxLen;omega) (by simp at ap;omega) (ae) ?_;intro v9 a0 am al a4;replace E:=E.step al (fun x hx h=>absurd (ab.lt x h).1 qO);obtain ⟨au,av,rfl⟩:=zAw am;refine qA _ rfl (zAB (zAS (zAC (zAN (qV (zAy rfl rfl (zBV qO)) (qM _ rfl (zAB (zAC ?_))))))));exact ⟨ts.length - (j+1),qO,j+1,au,av,m+1,rows++[[.int .i64 x.kind,.slice af x.set.length ag,.slice aj x.args.length ah,.int .i64 x.mn,.int .i64 x.mx,.bool x.neg]],zBA.out ⟨rfl,rfl,rfl,rfl,rfl,trivial⟩,E,qO,(by simpa using am),(by rw[ai,List.length_append,hm];rfl),(by rw[ai];exact zAm.append (zAm.single ar) aq),Nat.le_trans ae al.size,rfl⟩
  ·have a1:j=ts.length:=qO
   refine zAp (zAX (zAX (zAj (zAC (zAA (qM _ rfl (qA _ rfl (zAB (zAR (zAW results167 (v:=(.slice la m lc)) rfl ?_))))))))));rw[a1,List.take_length] at aq hm;subst hm;subst an;exact ⟨la,lc,rows,rfl,ab,aq,E⟩
end Go.Proofs
namespace Go.Proofs
open Go Go.Eng
set_option maxRecDepth 100000
theorem zMy {m:Nat}:∀v∈(Builtin.zeroCells (Value.cells (.agg #[(.int .i64 0),(.slice none 0 0),(.slice none 0 0),(.int .i64 0),(.int .i64 0),(.bool false)])) m).toList,v.oneCell'=true:=by
  intro v hv;simp only[Builtin.zeroCells,Value.cells,Array.toList_map,List.mem_map] at hv;obtain ⟨i,_,rfl⟩:=hv;have h:i % 6<6:=Nat.mod_lt _ qD;show (#[(Value.int .i64 0),(.slice none 0 0),(.slice none 0 0),(.int .i64 0),(.int .i64 0),(.bool false)][i % 6]!).oneCell'=true;generalize i % 6=q at h
  match q,h with
  | 0,_=>rfl
  | 1,_=>rfl
  | 2,_=>rfl
  | 3,_=>rfl
  | 4,_=>rfl
  | 5,_=>rfl
theorem zTR {P:Program} {N:Nat} {Q:zGJ} {σ:Env} {w:World} {K:Env→World→Prop} {ops:Array Oper} {rest:List Oper} {o:Oper} (hg:o.guard=none) (hd:o.dst=none) {v:Value} {w':World}
  (hr:(execOp (ev σ) o).run P w=.ok (.value v) w') (k:WpL P N ops K Q rest σ w'):WpL P N ops K Q (o::rest) σ w:=by
 intro a ha he;refine wpList_plain hg fun K' hK=>?_;unfold Oper.wp;rw[zDG,he,hr];simp only[Oper.upon,hd];exact hK _ _ (k a ha he)
theorem zPq {P:Program} {N:Nat} {Q:zGJ} {σ:Env} {w:World} {K:Env→World→Prop} {ops:Array Oper} {rest:List Oper} {ty:TypeId} {pos:String} {af:Array Edge} {t e:TypeId} {x:Operand} {b o m cc:Nat} {c c':Array Value} {z:Value} (hu:P.underlying t=some (.slice e)) (hz:Zer P e z) (hx:ev σ x=.slice (some ⟨b,o,none⟩) m cc) (hm:0<m) (hB:Blk w b c e) (h1:∀v∈(Builtin.zeroCells z.cells m).toList,v.oneCell'=true)
  (ho:o+m*z.cells.size≤c.size) (hc:(c.toList.take o++(Builtin.zeroCells z.cells m).toList++c.toList.drop (o+m*z.cells.size)).toArray=c')
  (k:∀w',Put w w' b c' e→WpL P N ops K Q rest σ w'):WpL P N ops K Q (⟨none,.call ⟨.builtin .clear,#[x],#[t]⟩,ty,pos,af,none⟩::rest) σ w:=by
 subst hc;have hl:(Builtin.zeroCells z.cells m).toList.length=m*z.cells.size:=by simp[Builtin.zeroCells]
 have aa:=run_storeCells_at P b o e (Builtin.zeroCells z.cells m).toList 0 c w hB (by rw[hl];simpa using ho) h1;simp only[Nat.add_zero,hl] at aa;refine zTR (v:=.tuple #[]) (w':=w.setRow b _) rfl rfl ?_ (k _ (Put.of_setRow hB _));obtain ⟨m',rfl⟩:∃m',m=m'+1:=⟨m - 1,qO⟩;simp[execOp,resolve,invoke,builtin,Builtin.clear_,hx,run_underlying hu,hz.run,aa]
theorem zSf {α:Type} {p:α→Bool} {l:List α} (h:idx p l = -1):l.filter (fun x=>!p x)=l:=by
 have h1:=zGB p l;rw[h] at h1;have h2:l.any p=false:=by rw[←h1];decide
 rw[List.filter_eq_self];rw[List.any_eq_false] at h2;intro x hx;simp[h2 x hx]
theorem zSe {α:Type} {p:α→Bool} {l:List α} (h:idx p l≠-1):∃i:Nat,idx p l=(i:Int)∧i<l.length∧(l.take (i+1)).filter (fun x=>!p x)=l.take i:=by
  unfold idx at h⊢;cases hf:l.findIdx? p with
  | none=>rw[hf] at h;exact absurd rfl h
  | some i=>
    rw[List.findIdx?_eq_some_iff_getElem] at hf;obtain ⟨hi,hp,aa⟩:=hf;refine ⟨i,rfl,hi,?_⟩;have e1:(l.take i).filter (fun x=>!p x)=l.take i:=by
      rw[List.filter_eq_self];intro x hx;obtain ⟨j,hj,rfl⟩:=List.getElem_of_mem hx;simp at hj;have:=aa j qO;simpa using this
    rw[List.take_add_one,List.getElem?_eq_getElem hi,List.filter_append,e1];simp[hp]
theorem zMl {α:Type} {p:α→Bool} {l:List α} {j:Nat} {x:α} (hx:l[j]?=some x):(l.take (j+1)).filter (fun x=>!p x)=(l.take j).filter (fun x=>!p x)++(if p x then [] else [x]):=by
 rw[List.take_add_one,hx,List.filter_append];congr 1;cases hp:p x<;>simp[hp]
theorem zKW {α:Type} {l m:List α} {j:Nat} (h:l.drop j=m.drop j) {i:Nat} (hi:j≤i):l[i]?=m[i]?:=by
 have:=congrArg (fun q=>q[i - j]?) h;simp only[List.getElem?_drop] at this
 rwa [show j+(i - j)=i from qO] at this
theorem zAm.take {S:Nat→Prop} {w:World}:∀{ts:List Re} {rows:List (List Value)} (i:Nat),zAm S w ts rows→zAm S w (ts.take i) (rows.take i)
  | [],_,i,h=>by simp only[zAm] at h;subst h;cases i<;>rfl
  | t::ts,rows,0,h=>rfl
  | t::ts,rows,i+1,h=>by
    obtain ⟨r,rs,rfl,h2,h3⟩:=h;exact ⟨r,rs.take i,rfl,h2,zAm.take i h3⟩
theorem zXC (wb w0:World) (base:Nat) (S:Nat→Prop) (v fv:Value) (ts:List Re) (rows:List (List Value)) (p:Re→Bool) (hE:Ext wb w0) (hown:w0.ownsRow base TRe 6 v ts.length rows.flatten) (hr:zAm S wb ts rows) (hS:∀x,S x→x<base) (hlen:ts.length≤1000000)
  (hf:∀(w:World) (x:Re) (vs:List Value),x∈ts→zBG w x vs→zCD prog fv #[.agg vs.toArray] w fun r w'=>r=.bool (p x)∧Ext w w') :
  Ret prog 166 #[v,fv] w0 fun r w=>∃la lc rows',r=.slice la (ts.filter fun x=>!p x).length lc∧w.ownsRow base TRe 6 r (ts.filter fun x=>!p x).length rows'.flatten∧zAm S wb (ts.filter fun x=>!p x) rows'∧Chg (fun x=>base≤x) w0 w:=by
 have af:=hown;obtain ⟨a,c,rfl⟩:=zAw hown;obtain ⟨q,hq⟩:∃q:Int,q=idx p ts:=⟨_,rfl⟩;have bm:zIs w0 (.slice a ts.length c) ts:=zTf af (hr.ext hE) rfl;refine zGr func166 rfl ntmps166 (leT rfl) ?_;have E:Chg (fun x=>base≤x) w0 w0:=Chg.refl _ _;refine zAA (qA _ rfl (zAB (zAA (qM _ rfl (qM _ rfl (qE rfl (zAV func82 zXf zXk rfl) ((zGP _ _ fv ts p bm (fun w x vs _ hm hx=>hf w x vs hm hx)).mono (R':=fun r w=>r=.int .i64 q∧Ext w0 w) (by rintro v w ⟨rfl,h⟩;exact ⟨by rw[hq],h⟩)) ?_))))));rintro _ w9 ⟨rfl,X9⟩;replace E:=E.ext X9;refine qA _ rfl (zAB (zAK (zAA (qM _ rfl (qV (zAk rfl rfl) (zAB (qC rfl (fun h1=>?_) (fun h1=>?_))))))))
 ·have bj:(ts.filter fun x=>!p x)=ts:=zSf (by rw[←hq];exact h1);refine zAA (qM _ rfl (qA _ rfl (zAB (zAR (zAI (zAW results166 (v:=(.slice a ts.length c)) rfl ?_))))));rw[bj];exact ⟨a,c,rows,rfl,zAn af X9,hr,E⟩
 ·obtain ⟨i0,bg,bc,al⟩:=zSe (p:=p) (l:=ts) (by rw[←hq];exact h1);obtain rfl:q=((i0:Nat):Int):=by rw[hq,bg]
  rcases af.2 with ⟨_,bk⟩|⟨g,cap,ay,a6,bb,a9,a4,am,ak,ag⟩
  ·omega
  simp only[Value.slice.injEq] at a6;obtain ⟨rfl,_,rfl⟩:=a6;obtain ⟨rest,ai⟩:∃rest,rest=ay.toList.drop (ts.length*6):=⟨_,rfl⟩;have ab:Blk w9 g (rows.flatten++rest).toArray TRe:=X9.keep (by rw[ai,←ag,List.take_append_drop];exact a9);have ax:(rows.flatten++rest).length=c*6:=by rw[ai,←ag,List.take_append_drop];simpa using ak
  have a8:=hr.len;have a3:=hr.six;have aw:rest.length=c*6 - ts.length*6:=by rw[List.length_append,zCE a3,a8] at ax;omega
  refine zAP (zAC (zAK (zAA (qM _ rfl (qV (zAy rfl rfl (zBV qO)) (qA _ rfl (zAB (zAT (zAq (fun nn_ σ W2=>∃(j:Nat) (i:Nat) (ad:List (List Value)),(∃jj_,σ=zCH jj_ [(0,(.slice (some ⟨g,0,none⟩) ts.length c)),(1,fv),(6,(I6 (j:Int))),(5,(I6 (i:Int)))])∧Chg (fun x=>base≤x) w0 W2∧Blk W2 g ((ad.flatten++rest).toArray) TRe∧(i<j∧j≤ts.length)∧(ad.length=ts.length)∧(∀r∈ad,r.length=6)∧(ad.drop j=rows.drop j)∧(zAm S wb ((ts.take j).filter fun x=>!p x) (ad.take i))∧(i=((ts.take j).filter fun x=>!p x).length)∧nn_=ts.length - j) (n:=ts.length - (i0+1)) ?_ ?_)))))))))
  ·exact ⟨i0+1,i0,rows,zBA.out ⟨rfl,rfl,rfl,rfl,trivial⟩,E,ab,⟨qO,qO⟩,a8,a3,rfl,(by rw[al];exact hr.take i0),(by rw[al];simp;omega),rfl⟩
  ·clear E ab;rintro _ _ W2 ⟨j,i,ad,⟨j2,rfl⟩,E,ab,hij,ao,ah,a7,ap,aj,rfl⟩;refine zAK (zAA (qM _ rfl (qM _ rfl (qV (zAM underlying23 rfl) (qV (zBH rfl rfl) (zAB (qC rfl (fun bn=>?_) (fun bn=>?_))))))))
   ·obtain ⟨x,hx⟩:=zAU (l:=ts) (i:=j) qO;obtain ⟨r,be,au⟩:=hr.get hx;have bh:ad[j]?=some r:=by rw[zKW a7 (Nat.le_refl _)];exact be
    have aq:=zMl (p:=p) hx;have an:ad.drop (j+1)=rows.drop (j+1):=by rw[←List.drop_drop,←List.drop_drop,a7]
    have ae:zBG (W2) x r:=zAe.at x (zAe.chg E (fun y hy hb=>by have:=hS y hy;have hb':base≤y:=hb;omega) x (zAe.ext hE x au));have bf:=au.len;obtain ⟨sa,sc,aa,ac,rfl,_,_,_⟩:=ae.form;refine zAP (zAC (zAK (zAT (zAA (qM (.slice (some ⟨g,0,none⟩) ts.length c) rfl (qM _ rfl (qV (zAH (b:=g) (o:=0) (len:=ts.length) (cap:=c) (i:=j) (o':=0+j*6) rfl rfl rfl underlying23 zAO qO qO) (qV (zAG rfl zAc zAO rfl (by rw[Nat.zero_add];exact zFy ab ah bh)) (zAg (v:=(.agg (R6 x sa sc aa ac))) (c:=(R6 x sa sc aa ac)) (n:=6) qD zAu rfl zAO rfl rfl rfl qS ?_)))))))));intro bs ws Ns;have Fs:=Ns.ge E;have Os_g:=Ns.lt ab;replace ab:=Ns.keep ab;replace ae:=zBG.ext Ns.ext x ae;replace E:=E.ext Ns.ext;have Bs:=Ns.blk;refine zAB (zAA (qM _ rfl (qV (zAG (vs:=[(I6 x.kind),(.slice sa x.set.length sc),(.slice aa x.args.length ac),(I6 x.mn),(I6 x.mx),(.bool x.neg)]) rfl zAc zAO rfl (Bs.cells rfl)) (zCZ qD rfl rfl (hf _ x _ (List.mem_of_getElem? hx) ae) ?_))));rintro _ w19 ⟨rfl,ar⟩;replace ab:=ar.keep ab;replace Bs:=ar.keep Bs;replace ae:=zBG.ext ar x ae;replace E:=E.ext ar;refine qV (zCf rfl) (zAB (zAt rfl (fun hp=>?_) (fun hp=>?_)))
    ·have bd:=hp;replace hp:=by simpa using hp
     refine zAA (qM _ rfl (qM _ rfl (qV (zAG (vs:=[(I6 x.kind),(.slice sa x.set.length sc),(.slice aa x.args.length ac),(I6 x.mn),(I6 x.mx),(.bool x.neg)]) rfl zAc zAO rfl (Bs.cells rfl)) (qV (zAH (b:=g) (o:=0) (len:=ts.length) (cap:=c) (i:=i) (o':=0+i*6) rfl rfl rfl underlying23 zAO qO qO) (zAY (b:=g) (o:=0+i*6) (n:=6) (c':=((ad.set i [.int .i64 x.kind,.slice sa x.set.length sc,.slice aa x.args.length ac,.int .i64 x.mn,.int .i64 x.mx,.bool x.neg]).flatten++rest).toArray) (vs:=(R6 x sa sc aa ac)) rfl rfl qS zAO (rfl) ab (by have:=zCE ah;simp only[List.size_toArray,List.length_append];omega) (by rw[Nat.zero_add];exact congrArg List.toArray (zKD (k:=6) (v:=[.int .i64 x.kind,.slice sa x.set.length sc,.slice aa x.args.length ac,.int .i64 x.mn,.int .i64 x.mx,.bool x.neg]) (rows:=ad) (i:=i) (rest:=rest) rfl ah qO)) ?_)))));intro w5 S5;replace Bs:=S5.keep qO Bs;replace E:=S5.step E qQ;replace ab:=S5.blk;refine zAB (zAN (qM _ rfl (qV (zAy rfl rfl (zBV qO)) (qA _ rfl (zAB (zAS (zAC (zAN (qM _ rfl (qV (zAy (k:=.i64) (a:=(j:Int)) (b:=1) (c:=(j:Int)+1) rfl rfl (zBV qO)) (qA (I6 ((j:Int)+1)) rfl (zAB (zAC ?_)))))))))))));exact ⟨ts.length - (j+1),qO,j+1,i+1,ad.set i [.int .i64 x.kind,.slice sa x.set.length sc,.slice aa x.args.length ac,.int .i64 x.mn,.int .i64 x.mx,.bool x.neg],zBA.out ⟨rfl,rfl,rfl,rfl,trivial⟩,E,ab,⟨qO,qO⟩,(by simpa using ao),(fun r hr=>by rcases List.mem_or_eq_of_mem_set hr with h|h;exact ah r h;rw[h];rfl),(by rw[List.drop_set_of_lt qO];exact an),(by rw[aq,hp,List.take_add_one,List.take_set_of_le (Nat.le_refl _),List.getElem?_set_self qO];exact zAm.append (zAm.single au) ap),(by rw[aq,hp,List.length_append,←aj];rfl),rfl⟩
    ·have bd:=hp;replace hp:=by simpa using hp
     refine zAP (zAS (zAC (zAN (qM _ rfl (qV (zAy (k:=.i64) (a:=(j:Int)) (b:=1) (c:=(j:Int)+1) rfl rfl (zBV qO)) (qA (I6 ((j:Int)+1)) rfl (zAB (zAC ?_))))))));exact ⟨ts.length - (j+1),qO,j+1,i,ad,zBA.out ⟨rfl,rfl,rfl,rfl,trivial⟩,E,ab,⟨qO,qO⟩,ao,ah,an,(by rw[aq,hp];simpa using ap),(by rw[aq,hp];simpa using aj),rfl⟩
   ·have bl:j=ts.length:=qO
    rw[bl,List.take_length] at ap aj;refine zAp (zAX (zAX (zAj (zAC (zAA (qM (.slice (some ⟨g,0,none⟩) ts.length c) rfl (qM (I6 (i:Int)) rfl ?_)))))));obtain ⟨sl,a2⟩:∃a':Option Addr,(if c=i then (some ⟨g,0,none⟩) else Option.map (fun q:Addr=>q.add (i*6)) (some ⟨g,0,none⟩))=a':=⟨_,rfl⟩;refine qV (zDq (a:=(some ⟨g,0,none⟩)) (len:=ts.length) (cap:=c) (lo:=i) (l:=(i:Int)) (n':=(ts.length - i)) (c':=(c - i)) underlying23 zAO rfl rfl qO qO a2 qO qO) ?_;have az:sl=some ⟨g,i*6,none⟩:=by rw[←a2,if_neg qO];simp[Addr.add];omega
    subst az;obtain ⟨cz,a0⟩:∃cz,cz=((ad.flatten++rest).toArray.toList.take (i*6)++(Builtin.zeroCells (Value.cells (.agg #[(.int .i64 0),(.slice none 0 0),(.slice none 0 0),(.int .i64 0),(.int .i64 0),(.bool false)])) (ts.length - i)).toList++(ad.flatten++rest).toArray.toList.drop (i*6+(ts.length - i)*6)).toArray:=⟨_,rfl⟩;refine zPq (b:=g) (o:=i*6) (m:=(ts.length - i)) (cc:=(c - i)) (c':=cz) underlying23 zAu rfl qO ab zMy (by show i*6+(ts.length - i)*6≤_;simp only[List.size_toArray,List.length_append,zCE ah,ao];omega) (a0.symm) ?_;intro w6 S6;replace E:=S6.step E qQ;replace ab:=S6.blk;refine zAB (zAA (qM (.slice (some ⟨g,0,none⟩) ts.length c) rfl (qM (I6 (i:Int)) rfl ?_)));obtain ⟨sm,a5⟩:∃a':Option Addr,(if c=0 then (some ⟨g,0,none⟩) else Option.map (fun q:Addr=>q.add (0*6)) (some ⟨g,0,none⟩))=a':=⟨_,rfl⟩;refine qV (zIH (hi:=i) underlying23 zAO rfl rfl qO qO a5) (qA _ rfl (zAB (zAR (zAW results166 (v:=(.slice sm i c)) rfl ?_))));have av:sm=some ⟨g,0,none⟩:=by rw[←a5];split<;>simp[Addr.add]
    subst av;have ba:(ad.take i).flatten.length=i*6:=by rw[zCE (fun r hr=>ah r (List.mem_of_mem_take hr))];simp;omega
    have bi:(ad.flatten++rest).take (i*6)=(ad.take i).flatten:=by
     have:ad.flatten=(ad.take i).flatten++(ad.drop i).flatten:=by rw[←List.flatten_append,List.take_append_drop]
     rw[this,List.append_assoc,List.take_append_of_le_length qO,List.take_of_length_le qO]
    have hz:(Builtin.zeroCells (Value.cells (.agg #[(.int .i64 0),(.slice none 0 0),(.slice none 0 0),(.int .i64 0),(.int .i64 0),(.bool false)])) (ts.length - i)).toList.length=(ts.length - i)*6:=by simp[Builtin.zeroCells,Value.cells]
    have a1:(ad.flatten++rest).length=c*6:=by rw[List.length_append,zCE ah,ao];omega
    refine ⟨some ⟨g,0,none⟩,c,ad.take i,by rw[←aj],⟨by rw[ba,←aj],.inr ⟨g,c,cz,by rw[←aj],bb,ab,qO,am,?_,?_⟩⟩,ap,E⟩
    ·rw[a0];simp only[List.size_toArray,List.length_append,List.length_take,List.length_drop,hz];simp only[List.length_append] at a1;omega
    ·rw[a0,←aj];show List.take (i*6) (List.take (i*6) (ad.flatten++rest)++_++_)=_;rw[bi,List.append_assoc,List.take_append_of_le_length qO,List.take_of_length_le qO]
end Go.Proofs
namespace Go.Proofs
open Go Go.Eng
set_option maxRecDepth 100000
theorem zCU.ext {S:Nat→Prop} {w w':World} {v:Value} {ts:List Re} (h:zCU S w v ts) (e:Ext w w'):zCU S w' v ts:=by
 obtain ⟨aa,ac,h1,h2,h3⟩:=h;refine ⟨aa,ac,h1,h2,?_⟩;rcases h3 with h|⟨b,o,hb,h4,h5⟩
 ·exact .inl h
 ·exact .inr ⟨b,o,hb,h4,zBX.chg e (fun _ _ f=>f) ts hb h5⟩
theorem zBg (S:Nat→Prop) (w:World) (k:Int):zAe S w (.mk k [] [] 0 0 false) [.int .i64 k,.slice none 0 0,.slice none 0 0,.int .i64 0,.int .i64 0,.bool false]:=
 zAe.of (zDK.nil _ _ _ _ _) qP (.inl rfl)
theorem zNn {α:Type} {l:List α} (h:l.length=1) {x:α} (hx:l[0]?=some x):l=[x]:=by
  match l,h with
  | [y],_=>simp at hx;rw[hx]
end Go.Proofs
namespace Go.Proofs
open Go Go.Eng
set_option maxRecDepth 100000
theorem zAm.chg {S M:Nat→Prop} {w w':World} (c:Chg M w w') (hm:∀b,S b→¬M b):∀{ts:List Re} {rows:List (List Value)},zAm S w ts rows→zAm S w' ts rows
  | [],_,h=>h
  | t::ts,rows,h=>by
    obtain ⟨r,rs,h1,h2,h3⟩:=h;exact ⟨r,rs,h1,zAe.chg c hm t h2,zAm.chg c hm h3⟩
theorem zAm.mono {S S':Nat→Prop} {w:World} (hs:∀b,S b→S' b):∀{ts:List Re} {rows:List (List Value)},zAm S w ts rows→zAm S' w ts rows
  | [],_,h=>h
  | t::ts,rows,h=>by
    obtain ⟨r,rs,h1,h2,h3⟩:=h;exact ⟨r,rs,h1,zAe.mono hs t h2,zAm.mono hs h3⟩
theorem zDK.lt {S:Nat→Prop} {w:World} {v:Value} {l:List (Int×Int)} (h:zDK S w 2 v (l.map zBh)):zDK (fun b=>S b∧b<w.heap.size) w 2 v (l.map zBh):=by
  obtain ⟨a,aa,h1,h2,h3,h4⟩:=h;refine ⟨a,aa,h1,h2,h3,?_⟩;rcases h4 with h|⟨b,o,hb,h5,h6⟩
  · exact .inl h
  · cases l with
    | nil=>exact .inl rfl
    | cons s r=>
      have:=h6 0 (zBh s) rfl 0 _ rfl;exact .inr ⟨b,o,⟨hb,World.block_lt_of_cell? w _ this⟩,h5,h6⟩
mutual
theorem zAe.lt {S:Nat→Prop} {w:World}:∀(t:Re) {vs:List Value},zAe S w t vs→zAe (fun b=>S b∧b<w.heap.size) w t vs
  | .mk k set args mn mx ng,vs,h=>by
    simp only[zAe] at h⊢;obtain ⟨sa,sc,aa,ac,hv,hs,hl,ha⟩:=h;refine ⟨sa,sc,aa,ac,hv,zDK.lt hs,hl,?_⟩;rcases ha with h|⟨b,o,hb,h1,h2⟩
    · exact .inl h
    · match args,h2 with
      | [],_=>exact .inl rfl
      | t::ts,h2=>
        have h3:=h2;simp only[zBX] at h3;obtain ⟨⟨us,h4,h5⟩,_⟩:=h3;obtain ⟨_,_,_,_,rfl,_⟩:=h5.form;have:=h4 0 _ rfl;exact .inr ⟨b,o,⟨hb,World.block_lt_of_cell? w _ this⟩,h1,zBX.lt (t::ts) h2⟩
theorem zBX.lt {S:Nat→Prop} {w:World} {b:Nat}:∀(ts:List Re) {o:Nat},zBX S w b o ts→zBX (fun b=>S b∧b<w.heap.size) w b o ts
  | [],_,_=>by simp only[zBX]
  | t::ts,o,h=>by
    simp only[zBX] at h⊢;obtain ⟨⟨vs,h1,h2⟩,h3⟩:=h;exact ⟨⟨vs,h1,zAe.lt t h2⟩,zBX.lt ts h3⟩
end
theorem zCU.lt {S:Nat→Prop} {w:World} {v:Value} {ts:List Re} (h:zCU S w v ts):zCU (fun b=>S b∧b<w.heap.size) w v ts:=by
  obtain ⟨aa,ac,h1,h2,h3⟩:=h;refine ⟨aa,ac,h1,h2,?_⟩;rcases h3 with h|⟨b,o,hb,h4,h5⟩
  · exact .inl h
  · match ts,h5 with
    | [],_=>exact .inl rfl
    | t::ts,h5=>
      have h6:=h5;simp only[zBX] at h6;obtain ⟨⟨us,h7,h8⟩,_⟩:=h6;obtain ⟨_,_,_,_,rfl,_⟩:=h8.form;have:=h7 0 _ rfl;exact .inr ⟨b,o,⟨hb,World.block_lt_of_cell? w _ this⟩,h4,zBX.lt (t::ts) h5⟩
theorem zCX {α:Type} {l:List α} {x d:α} (h:l[0]?=some x):l.headD d=x:=by
  cases l with
  | nil=>simp at h
  | cons y r=>simpa using h
end Go.Proofs
namespace Go.Proofs
open Go Go.Eng Go.Sort
set_option maxRecDepth 100000
/-- A node in similar form, of arguments in similar form. -/
structure SimN (k:Int) (s:List (Int×Int)) (a:List Re) (m x:Int) (g:Bool):Prop where
 ks:k=0∨k=1∨k=2∨k=3∨k=4∨k=5∨k=6∨k=7∨k=8
 ng:g=false
 st:k≠2→s=[]
 mm:k≠6→m=0∧x=0
 k2:k=2→s≠[]∧zBR s=0
 none:k=0∨k=1∨k=2→a=[]
 k3:k=3→2≤a.length∧∀y∈a,y.kind≠0∧y.kind≠1∧y.kind≠3
 k4:k=4→2≤a.length∧(∀y∈a,y.kind≠0∧y.kind≠4∧zCw y=false)∧a.Pairwise fun y z=>zCm y z<0
 k7:k=7→2≤a.length∧(∀y∈a,y.kind≠0∧y.kind≠7∧zCw y=false)∧a.Pairwise fun y z=>zCm y z<0
 k5:k=5→∃y,a=[y]∧y.kind≠0∧y.kind≠1∧y.kind≠5
 k6:k=6→∃y,a=[y]∧y.kind≠0∧y.kind≠1∧0≤m∧m≤x∧x≤8∧x≠0∧¬(m=1∧x=1)
 k8:k=8→∃y,a=[y]∧y.kind≠8
mutual
def zAz:Re→Prop
  | .mk k s a m x g=>SimN k s a m x g∧zDe a
def zDe:List Re→Prop
  | []=>True
  | t::ts=>zAz t∧zDe ts
end
theorem zCv {ts:List Re}:zDe ts↔∀t∈ts,zAz t:=by
  induction ts with
  | nil=>simp[zDe]
  | cons t ts ih=>simp[zDe,ih]
theorem zAz.n {t:Re} (h:zAz t):SimN t.kind t.set t.args t.mn t.mx t.neg:=by cases t;exact h.1
theorem zAz.a {t:Re} (h:zAz t):∀x∈t.args,zAz x:=by cases t;exact zCv.1 h.2
theorem zAz.mk' {k:Int} {s:List (Int×Int)} {a:List Re} {m x:Int} {g:Bool} (h:SimN k s a m x g) (ha:∀y∈a,zAz y):zAz (.mk k s a m x g):=⟨h,zCv.2 ha⟩
mutual
theorem zEZ:∀{t:Re},zAz t→zEn t=true
  | .mk k s a m x g,h=>by
    simp only[zEn,h.1.ng,Bool.not_false,Bool.true_and];exact zJS h.2
theorem zJS:∀{ts:List Re},zDe ts→zIS ts=true
  | [],_=>rfl
  | t::ts,h=>by simp only[zIS,zEZ h.1,zJS h.2];rfl
end
theorem zDQ:zAz zBa:=by unfold zBa;exact .mk' ⟨qP,rfl,qP,qP,qP,qP,qP,qP,qP,qP,qP,qP⟩ qP
theorem zDp:zAz zBT:=by unfold zBT;exact .mk' ⟨qP,rfl,qP,qP,qP,qP,qP,qP,qP,qP,qP,qP⟩ qP
theorem zUb:zAz zGK:=by
 unfold zGK;exact .mk' ⟨qP,rfl,qP,qP,qP,qP,qP,qP,qP,qP,qP,fun _=>⟨zBa,rfl,qD⟩⟩ (by intro y hy;simp at hy;subst hy;exact zDQ)
theorem zDE {k:Int} {l:List Re} {x:Re}:x∈zBY k l↔∃y∈l,(y.kind=k∧x∈y.args)∨(y.kind≠k∧x=y):=by
 unfold zBY;rw[List.mem_flatMap];constructor
 ·rintro ⟨y,hy,h⟩;split at h
  ·rename_i hk;exact ⟨y,hy,.inl ⟨hk,h⟩⟩
  ·rename_i hk;simp at h;exact ⟨y,hy,.inr ⟨hk,h⟩⟩
 ·rintro ⟨y,hy,⟨hk,h⟩|⟨hk,h⟩⟩
  ·exact ⟨y,hy,by rw[if_pos hk];exact h⟩
  ·exact ⟨y,hy,by rw[if_neg hk];simp[h]⟩
theorem zMi {k:Int} {l:List Re} (h:∀x∈l,x.kind≠k):zBY k l=l:=by
  unfold zBY
  induction l with
  | nil=>rfl
  | cons x l ih=>rw[List.flatMap_cons,if_neg (h x qP),ih fun y hy=>h y (by simp[hy])];rfl
theorem zRB {p:Re→Bool} {l:List Re} (h:∀x∈l,p x=false):zFq p l=l:=List.filter_eq_self.2 fun x hx=>by rw[h x hx];rfl
theorem zGE {p:Re→Bool} {l:List Re} {x:Re}:x∈zFq p l↔x∈l∧p x=false:=by unfold zFq;rw[List.mem_filter];simp
theorem zMG {k:Int} {z:Re} {l:List Re} (h:2≤l.length):zCL k z l=.mk k [] l 0 0 false:=by
  match l,h with
  | x::y::l,_=>rfl
theorem zVg {l:List Re} (h:2≤l.length) (h2:∀y∈l,y.kind≠0∧y.kind≠1∧y.kind≠3):zEz l=.mk 3 [] l 0 0 false:=by
 have e:zFq zCF (zBY 3 l)=l:=by rw[zMi fun y hy=>(h2 y hy).2.2,zRB fun y hy=>by simp[zCF,(h2 y hy).2.1]]
 unfold zEz;rw[e,if_neg,zMG h];rw[List.any_eq_true];rintro ⟨y,hy,hk⟩;simp[zBc] at hk;exact (h2 y hy).1 hk
theorem zIk {l:List Re} (h:∀x∈l,zAz x):zAz (zEz l):=by
  unfold zEz;split
  · exact zDQ
  · rename_i hn
    have hm:∀y∈zFq zCF (zBY 3 l),zAz y∧y.kind≠0∧y.kind≠1∧y.kind≠3:=fun y hy=>by
      have h0:y.kind≠0:=fun hk=>hn (List.any_eq_true.2 ⟨y,hy,by simp[zBc,hk]⟩);obtain ⟨h1,h2⟩:=zGE.1 hy;have h3:y.kind≠1:=by simpa[zCF] using h2
      obtain ⟨z,hz,⟨hk,h4⟩|⟨hk,rfl⟩⟩:=zDE.1 h1
      · exact ⟨(h z hz).a y h4,h0,h3,(((h z hz).n.k3 hk).2 y h4).2.2⟩
      · exact ⟨h y hz,h0,h3,hk⟩
    generalize zFq zCF (zBY 3 l)=q at hm
    match q,hm with
    | [],_=>exact zDp
    | [x],hm=>exact (hm x qP).1
    | x::y::q,hm=>exact .mk' ⟨qP,rfl,qP,qP,qP,qP,fun _=>⟨qP,fun z hz=>(hm z hz).2⟩,qP,qP,qP,qP,qP⟩ fun z hz=>(hm z hz).1
theorem zHR:∀{l:List Re} {x:Re},x∈zGu l↔x∈l
  | [],x=>by simp[zGu]
  | [y],x=>by simp[zGu]
  | y::z::l,x=>by
    simp only[zGu];split
    · rename_i h
      rw[zHR,(zBP y z).1 h];simp
    · rw[List.mem_cons,zHR];simp
theorem zFg:∀{l:List Re},(∀x∈l,zEn x=true)→l.Pairwise (fun y z=>zCm y z≤0)→(zGu l).Pairwise fun y z=>zCm y z<0
  | [],_,_=>by simp[zGu]
  | [y],_,_=>by simp[zGu]
  | y::z::l,hn,h=>by
    obtain ⟨h1,h2⟩:=List.pairwise_cons.1 h;simp only[zGu];split
    · exact zFg (fun x hx=>hn x (by simp[List.mem_cons.1 hx])) h2
    · rename_i hne
      refine List.pairwise_cons.2 ⟨fun x hx=>?_,zFg (fun x hx=>hn x (by simp[List.mem_cons.1 hx])) h2⟩;have hyz:zCm y z<0:=by
        have h3:=h1 z qP;have h4:zCm y z≠0:=fun e=>hne ((zBP y z).2 ((zHr (hn y qP) (hn z qP)).1 e));omega
      rcases List.mem_cons.1 (zHR.1 hx) with rfl|hx
      · exact hyz
      · have h5:=(List.pairwise_cons.1 h2).1 x hx;have h6:=zBs x y;have h7:=zBs y x;by_cases h8:zCm y x<0
        · exact h8
        · exfalso;have h9:zCm x y≤0:=qO
          have h10:=zTg h5 h9;have h11:=zBs z y;omega
theorem zTr:∀{l:List Re},l.Pairwise (fun y z=>zCm y z<0)→zGu l=l
  | [],_=>rfl
  | [y],_=>rfl
  | y::z::l,h=>by
    obtain ⟨h1,h2⟩:=List.pairwise_cons.1 h;simp only[zGu];rw[if_neg,zTr h2];intro e;have e1:=(zBP y z).1 e;have h3:=h1 z qP;have h4:=zBs y y;rw[e1] at h3 h4;omega
theorem zFt (l:List Re):(zER l).Pairwise fun y z=>zCm y z≤0:=by
 have h:=List.pairwise_mergeSort (le:=leR) (fun a b c h1 h2=>by simp only[leR,decide_eq_true_eq] at *;exact zTg h1 h2) (fun a b=>by simp only[leR,Bool.or_eq_true,decide_eq_true_eq];exact zWY a b) l;exact h.imp fun {a b} h=>by simpa[leR] using h
theorem zFW {l:List Re} {x:Re}:x∈zER l↔x∈l:=List.mem_mergeSort
theorem zUT {l:List Re} (h:l.Pairwise fun y z=>zCm y z<0):zER l=l:=List.mergeSort_of_pairwise (le:=leR) (h.imp fun {a b} h=>by simp[leR];omega)
theorem zRO {k:Int} {l:List Re} {strong weak:Re→Bool} {z:Re} (h:2≤l.length) (hk:∀y∈l,y.kind≠k) (hs:∀y∈l,strong y=false) (hw:∀y∈l,weak y=false) (hp:l.Pairwise fun y z=>zCm y z<0):zJG k l strong weak z=.mk k [] l 0 0 false:=by
 unfold zJG;rw[List.find?_eq_none.2 fun y hy=>by rw[hs y hy];decide];show zCL k z _=_;rw[zMi hk,zRB hw,zUT hp,zTr hp,zMG h]
theorem zRN {k:Int} {l:List Re} {strong weak:Re→Bool} {z:Re} (h:∀x∈l,zAz x) (hz:zAz z)
    (hN:∀q:List Re,2≤q.length→(∀y∈q,y.kind≠k∧strong y=false∧weak y=false)→(q.Pairwise fun y z=>zCm y z<0)→SimN k [] q 0 0 false)
    (hi:∀x,zAz x→x.kind=k→∀y∈x.args,y.kind≠k∧strong y=false):zAz (zJG k l strong weak z):=by
  unfold zJG;cases hf:l.find? strong with
  | some x=>exact h x (List.mem_of_find?_eq_some hf)
  | none=>
    have aa:=List.find?_eq_none.1 hf;have hm:∀y∈zGu (zER (zFq weak (zBY k l))),zAz y∧y.kind≠k∧strong y=false∧weak y=false:=fun y hy=>by
      obtain ⟨h1,h2⟩:=zGE.1 (zFW.1 (zHR.1 hy));obtain ⟨x,hx,⟨hk,h4⟩|⟨hk,rfl⟩⟩:=zDE.1 h1
      · exact ⟨(h x hx).a y h4,(hi x (h x hx) hk y h4).1,(hi x (h x hx) hk y h4).2,h2⟩
      · exact ⟨h y hx,hk,by simpa using aa y hx,h2⟩
    have hp:=zFg (l:=zER (zFq weak (zBY k l))) (fun x hx=>by
      obtain ⟨h1,h2⟩:=zGE.1 (zFW.1 hx);obtain ⟨y,hy,⟨hk,h4⟩|⟨hk,rfl⟩⟩:=zDE.1 h1
      · exact zEZ ((h y hy).a x h4)
      · exact zEZ (h x hy)) (zFt _)
    show zAz (zCL k z _);generalize zGu (zER (zFq weak (zBY k l)))=q at hm hp
    match q,hm,hp with
    | [],_,_=>exact hz
    | [x],hm,_=>exact (hm x qP).1
    | x::y::q,hm,hp=>exact .mk' (hN _ qP (fun z hz=>(hm z hz).2) hp) fun z hz=>(hm z hz).1
theorem zXa {l:List Re} (h:∀x∈l,zAz x):zAz (zJG 4 l zCw zBc zBa):=
 zRN h zDQ (fun q h1 h2 h3=>⟨qP,rfl,qP,qP,qP,qP,qP,fun _=>⟨h1,fun y hy=>⟨by simpa[zBc] using (h2 y hy).2.2,(h2 y hy).1,(h2 y hy).2.1⟩,h3⟩,qP,qP,qP,qP⟩)
  fun x hx hk y hy=>⟨((hx.n.k4 hk).2.1 y hy).2.1,((hx.n.k4 hk).2.1 y hy).2.2⟩
theorem zXZ {l:List Re} (h:∀x∈l,zAz x):zAz (zJG 7 l zBc zCw zGK):=
 zRN h zUb (fun q h1 h2 h3=>⟨qP,rfl,qP,qP,qP,qP,qP,qP,fun _=>⟨h1,fun y hy=>⟨by simpa[zBc] using (h2 y hy).2.1,(h2 y hy).1,(h2 y hy).2.2⟩,h3⟩,qP,qP,qP⟩)
  fun x hx hk y hy=>⟨((hx.n.k7 hk).2.1 y hy).2.1,by simpa[zBc] using ((hx.n.k7 hk).2.1 y hy).1⟩
/-- What is asked of a node whose arguments are in similar form: it is valid, but for flattening. -/
structure PreN (k:Int) (s:List (Int×Int)) (a:List Re) (m x:Int) (g:Bool):Prop where
 ks:k=0∨k=1∨k=2∨k=3∨k=4∨k=5∨k=6∨k=7∨k=8
 ng:g=false
 st:k≠2→s=[]
 mm:k≠6→m=0∧x=0
 k2:k=2→s≠[]∧zBR s=0
 none:k=0∨k=1∨k=2→a=[]
 one:k=5∨k=6∨k=8→a.length=1
 rep:k=6→0≤m∧m≤x∧x≤8
theorem zHE {k:Int} {s:List (Int×Int)} {a:List Re} {m x:Int} {g:Bool} (h:PreN k s a m x g) (ha:∀y∈a,zAz y):zAz (zCr k s a m x g):=by
  unfold zCr;dsimp only;have one:k=5∨k=6∨k=8→∃y,a=[y]:=fun hk=>by
    match a,h.one hk with
    | [y],_=>exact ⟨y,rfl⟩
  split
  · exact zIk ha
  split
  · exact zXa ha
  split
  · exact zXZ ha
  split
  · rename_i h5
    obtain ⟨y,rfl⟩:=one (.inl h5);show zAz (if y.kind=0∨y.kind=1 then zBT else if y.kind=5 then y else Re.mk k s [y] m x g);split
    · exact zDp
    split
    · exact ha y qP
    · exact .mk' ⟨h.ks,h.ng,h.st,h.mm,h.k2,h.none,qO,qO,qO,fun _=>⟨y,rfl,qO,qO,qO⟩,qO,qO⟩ ha
  split
  · rename_i h6
    obtain ⟨y,rfl⟩:=one (.inr (.inl h6));have hr:=h.rep h6;show zAz (if x=0∨y.kind=1∨(y.kind=0∧m=0) then zBT else if y.kind=0∨(m=1∧x=1) then y else Re.mk k s [y] m x g);split
    · exact zDp
    split
    · exact ha y qP
    · exact .mk' ⟨h.ks,h.ng,h.st,h.mm,h.k2,h.none,qO,qO,qO,qO,fun _=>⟨y,rfl,qO,qO,qO,qO,qO,qO,qO⟩,qO⟩ ha
  split
  · rename_i h8
    obtain ⟨y,rfl⟩:=one (.inr (.inr h8));show zAz (if y.kind=8 then y.args.headD zBa else Re.mk k s [y] m x g);split
    · rename_i hy
      obtain ⟨z,hz,_⟩:=(ha y qP).n.k8 hy;rw[hz];exact (ha y qP).a z (by rw[hz];simp)
    · rename_i hy
      exact .mk' ⟨h.ks,h.ng,h.st,h.mm,h.k2,h.none,qO,qO,qO,qO,qO,fun _=>⟨y,rfl,hy⟩⟩ ha
  · exact .mk' ⟨h.ks,h.ng,h.st,h.mm,h.k2,h.none,qO,qO,qO,qO,qO,qO⟩ ha
theorem zUv {k:Int} {s:List (Int×Int)} {a:List Re} {m x:Int} {g:Bool} (h:SimN k s a m x g):zCr k s a m x g=.mk k s a m x g:=by
 unfold zCr;dsimp only;have ac:=h.st;have aa:=h.mm;have ab:=h.ng;split
 ·rename_i hk
  obtain ⟨h1,h2⟩:=h.k3 hk;rw[zVg h1 h2,ac qO,(aa qO).1,(aa qO).2,ab,hk]
 split
 ·rename_i hk
  obtain ⟨h1,h2,h3⟩:=h.k4 hk;rw[zRO h1 (fun y hy=>(h2 y hy).2.1) (fun y hy=>(h2 y hy).2.2) (fun y hy=>by simp[zBc,(h2 y hy).1]) h3,ac qO,(aa qO).1,(aa qO).2,ab,hk]
 split
 ·rename_i hk
  obtain ⟨h1,h2,h3⟩:=h.k7 hk;rw[zRO h1 (fun y hy=>(h2 y hy).2.1) (fun y hy=>by simp[zBc,(h2 y hy).1]) (fun y hy=>(h2 y hy).2.2) h3,ac qO,(aa qO).1,(aa qO).2,ab,hk]
 split
 ·rename_i hk
  obtain ⟨y,rfl,h1,h2,h3⟩:=h.k5 hk;show (if y.kind=0∨y.kind=1 then zBT else if y.kind=5 then y else Re.mk k s [y] m x g)=_;rw[if_neg qO,if_neg h3]
 split
 ·rename_i hk
  obtain ⟨y,rfl,h1,h2,h3,h4,h5,h6,h7⟩:=h.k6 hk;show (if x=0∨y.kind=1∨(y.kind=0∧m=0) then zBT else if y.kind=0∨(m=1∧x=1) then y else Re.mk k s [y] m x g)=_;rw[if_neg qO,if_neg qO]
 split
 ·rename_i hk
  obtain ⟨y,rfl,h1⟩:=h.k8 hk;show (if y.kind=8 then y.args.headD zBa else Re.mk k s [y] m x g)=_;rw[if_neg h1]
 ·rfl
mutual
/-- What is in similar form is its own similar form. -/
theorem zHA:∀{t:Re},zAz t→zCz t=t
  | .mk k s a m x g,h=>by simp only[zCz];rw[zKA h.2,zUv h.1]
theorem zKA:∀{ts:List Re},zDe ts→zCx ts=ts
  | [],_=>rfl
  | t::ts,h=>by simp only[zCx];rw[zHA h.1,zKA h.2]
end
end Go.Proofs
namespace Go.Proofs
open Go Go.Eng Go.Sort
set_option maxRecDepth 100000
theorem zPT {l:List Re} (h:∀x∈l,zAz x) (hk:∀y∈l,y.kind≠0∧y.kind≠1∧y.kind≠3):zAz (zCL 3 zBT l):=by
  match l,h,hk with
  | [],_,_=>exact zDp
  | [x],h,_=>exact h x qP
  | x::y::l,h,hk=>exact .mk' ⟨qP,rfl,qP,qP,qP,qP,fun _=>⟨qP,hk⟩,qP,qP,qP,qP,qP⟩ h
theorem zGy (c:Int):∀ts:List Re,(zBw c ts).length=ts.length
  | []=>rfl
  | t::ts=>by simp only[zBw,List.length_cons,zGy c ts]
theorem zJN (c:Int) (ts:List Re):zBw c ts=ts.map (zBK c):=by
  induction ts with
  | nil=>rfl
  | cons t ts ih=>simp[zBw,ih]
mutual
theorem zDZ (c:Int):∀{t:Re},zAz t→zAz (zBK c t)
  | .mk k s a m x g,h=>by
    have hn:=h.1;have ha:=zCv.1 h.2;have hs:=zNC c h.2;simp only[zBK];split
    · split
      · exact zDp
      · exact zDQ
    split
    · rename_i hk
      exact zNE c h.2 (hn.k3 hk).2
    split
    · rename_i h1 h2 hk
      refine zHE ⟨qO,rfl,fun _=>rfl,fun _=>⟨rfl,rfl⟩,qO,qO,fun h8=>?_,qO⟩ hs;rw[zGy];obtain ⟨y,rfl,_⟩:=hn.k8 qO;rfl
    split
    · rename_i hk
      obtain ⟨y,rfl,hy⟩:=hn.k5 hk;refine zIk fun z hz=>?_;simp only[zBw,List.headD_cons,List.mem_cons,List.not_mem_nil,or_false] at hz;rcases hz with rfl|rfl
      · exact hs _ (by simp[zBw])
      · exact h
    split
    · rename_i hk
      obtain ⟨y,rfl,hy1,hy2,h3,h4,h5,h6,h7⟩:=hn.k6 hk;refine zIk fun z hz=>?_;simp only[zBw,List.headD_cons,List.mem_cons,List.not_mem_nil,or_false] at hz;rcases hz with rfl|rfl
      · exact hs _ (by simp[zBw])
      · exact zHE ⟨qO,rfl,fun _=>rfl,qO,qO,qO,fun _=>rfl,fun _=>qO⟩ (by intro z hz;simp at hz;subst hz;exact ha _ qP)
    · exact zDQ
theorem zNC (c:Int):∀{ts:List Re},zDe ts→∀x∈zBw c ts,zAz x
  | [],_,x,hx=>by simp[zBw] at hx
  | t::ts,h,x,hx=>by
    simp only[zBw,List.mem_cons] at hx;rcases hx with rfl|hx
    · exact zDZ c h.1
    · exact zNC c h.2 x hx
theorem zNE (c:Int):∀{ts:List Re},zDe ts→(∀y∈ts,y.kind≠0∧y.kind≠1∧y.kind≠3)→zAz (zEx c ts)
  | [],_,_=>by simp only[zEx];exact zDQ
  | t::ts,h,hk=>by
    simp only[zEx];split
    · exact zDZ c h.1
    · have h1:zAz (zEz [zBK c t,zCL 3 zBT ts]):=zIk fun z hz=>by
        simp only[List.mem_cons,List.not_mem_nil,or_false] at hz;rcases hz with rfl|rfl
        · exact zDZ c h.1
        · exact zPT (zCv.1 h.2) fun y hy=>hk y (by simp[hy])
      split
      · exact zHE ⟨qO,rfl,fun _=>rfl,fun _=>⟨rfl,rfl⟩,qO,qO,qO,qO⟩ fun z hz=>by
          simp only[List.mem_cons,List.not_mem_nil,or_false] at hz;rcases hz with rfl|rfl
          · exact h1
          · exact zNE c h.2 fun y hy=>hk y (by simp[hy])
      · exact h1
end
theorem zID (p:Re→Bool):∀l:List Re,Re.sizes (zFq p l)≤Re.sizes l
  | []=>by simp[zFq]
  | x::l=>by
    have ih:=zID p l;unfold zFq at ih⊢;rw[List.filter_cons];split
    · simp only[Re.sizes];omega
    · simp only[Re.sizes];omega
theorem zIE (k:Int) (z:Re) (l:List Re):(zCL k z l).size≤if l=[] then z.size else Re.sizes l+1:=by
  match l with
  | []=>exact Nat.le_refl _
  | [x]=>simp[zCL,Re.sizes]
  | x::y::l=>simp[zCL,Re.sizes,Re.size]
theorem zFQ (l:List Re):(zEz l).size≤Re.sizes l+1:=by
 unfold zEz;have h1:=zID zCF (zBY 3 l);have h2:=zFY 3 l;split
 ·show 1≤_;omega
 ·have h3:=zIE 3 zBT (zFq zCF (zBY 3 l));split at h3
  ·have:zBT.size=1:=rfl;omega
  ·omega
theorem zKv:∀l:List Re,Re.sizes (zGu l)≤Re.sizes l
  | []=>Nat.le_refl _
  | [x]=>Nat.le_refl _
  | x::y::l=>by
    have ih:=zKv (y::l);simp only[zGu];split
    · simp only[Re.sizes] at ih⊢;omega
    · simp only[Re.sizes] at ih⊢;omega
theorem zOU {l m:List Re} (h:l.Perm m):Re.sizes l=Re.sizes m:=by
  induction h with
  | nil=>rfl
  | cons x _ ih=>simp only[Re.sizes,ih]
  | swap x y l=>simp only[Re.sizes];omega
  | trans _ _ ih1 ih2=>omega
theorem zFF {l:List Re} {x:Re} (h:x∈l):x.size≤Re.sizes l:=by
 obtain ⟨i,hi⟩:=List.mem_iff_getElem?.1 h;exact Re.sizes_get hi
theorem zLu (k:Int) (l:List Re) (strong weak:Re→Bool) (z:Re):(zJG k l strong weak z).size≤max (Re.sizes l+1) z.size:=by
  unfold zJG;cases hf:l.find? strong with
  | some x=>have:=zFF (List.mem_of_find?_eq_some hf);show x.size≤_;omega
  | none=>
    have h1:=zID weak (zBY k l);have h2:=zFY k l;have h3:=zOU (List.mergeSort_perm (zFq weak (zBY k l)) leR);have h4:=zKv (zER (zFq weak (zBY k l)));have h5:=zIE k z (zGu (zER (zFq weak (zBY k l))));unfold zER at h4 h5;show (zCL k z (zGu (zER (zFq weak (zBY k l))))).size≤_;unfold zER;split at h5<;>omega
theorem zEe {k:Int} {s:List (Int×Int)} {a:List Re} {m x:Int} {g:Bool} (h7:k=7→a≠[]) (h8:k=8→a≠[]):(zCr k s a m x g).size≤Re.sizes a+1:=by
  have hh:∀y,a.head?=some y→y.size≤Re.sizes a:=fun y hy=>zFF (List.mem_of_mem_head? (by rw[hy];rfl));have hd:(a.headD zBa).size≤Re.sizes a+1:=by
    cases a with
    | nil=>simp[zBa,Re.size,Re.sizes]
    | cons y r=>simp only[List.headD_cons,Re.sizes];omega
  have hM:(Re.mk k s a m x g).size=Re.sizes a+1:=by simp[Re.size]
  unfold zCr;dsimp only;split
  · exact zFQ a
  split
  · have:=zLu 4 a zCw zBc zBa;have:zBa.size=1:=rfl;omega
  split
  · rename_i hk
    have h1:=zLu 7 a zBc zCw zGK;have h2:zGK.size=2:=rfl;have h3:1≤Re.sizes a:=by
      cases a with
      | nil=>exact absurd rfl (h7 hk)
      | cons y r=>have:=y.size_pos;simp only[Re.sizes];omega
    omega
  split
  · split
    · show 1≤_;omega
    split
    · exact hd
    · exact Nat.le_of_eq hM
  split
  · split
    · show 1≤_;omega
    split
    · exact hd
    · exact Nat.le_of_eq hM
  split
  · rename_i hk
    split
    · cases a with
      | nil=>exact absurd rfl (h8 hk)
      | cons y r=>
        simp only[List.headD_cons,Re.sizes];have hy:=Re.size_eq y;cases hya:y.args with
        | nil=>simp[zBa,Re.size,Re.sizes]
        | cons z q=>rw[hya] at hy;simp only[List.headD_cons,Re.sizes] at hy⊢;omega
    · exact Nat.le_of_eq hM
  · exact Nat.le_of_eq hM
theorem zKj (l:List Re):(zCL 3 zBT l).size≤Re.sizes l+1:=by
 have h:=zIE 3 zBT l;split at h
 ·have:zBT.size=1:=rfl;omega
 ·exact h
theorem zJO (c:Int):∀(l:List Re) (M:Nat),Re.sizes l≤M→(zEx c l).size≤Re.sizes (zBw c l)+l.length*(M+4)+1
  | [],M,_=>by simp[zEx,zBa,Re.size,Re.sizes]
  | t::ts,M,hM=>by
    simp only[Re.sizes] at hM;have ih:=zJO c ts M qO;have h1:=zFQ [zBK c t,zCL 3 zBT ts];have h2:=zKj ts;simp only[Re.sizes] at h1;simp only[zEx,zBw,Re.sizes,List.length_cons,Nat.succ_mul];split
    · omega
    · split
      · have h3:=zEe (k:=4) (s:=[]) (a:=[zEz [zBK c t,zCL 3 zBT ts],zEx c ts]) (m:=0) (x:=0) (g:=false) qO qO;simp only[Re.sizes] at h3;omega
      · omega
mutual
theorem zKr (c:Int) (N:Nat):∀{t:Re},zAz t→t.size≤N→(zBK c t).size+(N+6)≤(N+6)*(2*t.size)
  | .mk k s a m x g,h,hN=>by
    have hn:=h.1;have hs0:(Re.mk k s a m x g).size=Re.sizes a+1:=by simp[Re.size]
    have ih:=zGx c N h.2 qO;have e:(N+6)*(2*(Re.sizes a+1))=(N+6)*(2*Re.sizes a)+2*(N+6):=by rw[Nat.mul_add 2,Nat.mul_add];omega
    have hone:1+(N+6)≤(N+6)*(2*(Re.sizes a+1)):=by rw[e];omega
    rw[hs0] at hN⊢;have hl:=zGy c a;simp only[zBK];split
    · split<;>exact hone
    split
    · have h3:=zJO c a N qO;have h4:a.length*(N+4)≤(N+6)*a.length:=by rw[Nat.mul_comm (N+6)];exact Nat.mul_le_mul_left _ qO
      rw[e];omega
    split
    · rename_i h1 h2 hk
      have h3:=zEe (k:=k) (s:=[]) (a:=zBw c a) (m:=0) (x:=0) (g:=false) (fun h7 e9=>by rw[e9] at hl;have:=(hn.k7 h7).1;simp at hl;rw[←hl] at this;simp at this) (fun h8 e9=>by rw[e9] at hl;obtain ⟨y,rfl,_⟩:=hn.k8 h8;simp at hl);rw[e];omega
    split
    · rename_i hk
      obtain ⟨y,rfl,_⟩:=hn.k5 hk;have h3:=zFQ [zBK c y,.mk k s [y] m x g];simp only[Re.sizes,Re.size,zBw,List.headD_cons,List.length_cons,List.length_nil] at h3 ih hN e⊢;rw[e];omega
    split
    · rename_i hk
      obtain ⟨y,rfl,_⟩:=hn.k6 hk;have h3:=zFQ [zBK c y,zCr 6 [] [y] (max 0 (m - 1)) (x - 1) false];have h4:=zEe (k:=6) (s:=[]) (a:=[y]) (m:=max 0 (m - 1)) (x:=x - 1) (g:=false) qO qO;simp only[Re.sizes,zBw,List.headD_cons,List.length_cons,List.length_nil] at h3 h4 ih hN e⊢;rw[e];omega
    · exact hone
theorem zGx (c:Int) (N:Nat):∀{ts:List Re},zDe ts→Re.sizes ts≤N→Re.sizes (zBw c ts)+(N+6)*ts.length≤(N+6)*(2*Re.sizes ts)
  | [],_,_=>by simp[zBw,Re.sizes]
  | t::ts,h,hN=>by
    simp only[Re.sizes] at hN;have h1:=zKr c N h.1 qO;have h2:=zGx c N h.2 qO;simp only[zBw,Re.sizes,List.length_cons];have e1:(N+6)*(2*(t.size+Re.sizes ts))=(N+6)*(2*t.size)+(N+6)*(2*Re.sizes ts):=by rw[Nat.mul_add 2,Nat.mul_add]
    have e2:(N+6)*(ts.length+1)=(N+6)*ts.length+(N+6):=by rw[Nat.mul_add,Nat.mul_one]
    omega
end
theorem zCu {c:Int} {t:Re} (h:zAz t) (hs:t.size≤300):(zBK c t).size≤200000:=by
 have h1:=zKr c 300 h hs;have h2:(300+6)*(2*t.size)≤(300+6)*600:=Nat.mul_le_mul_left _ qO;omega
mutual
theorem zLA:∀{t:Re},zEB t→(zCz t).size≤t.size
  | .mk k s a m x g,h=>by
    have ih:Re.sizes (zCx a)≤Re.sizes a:=zGz (zCR h);have hl:(zCx a).length=a.length:=by rw[zCh,List.length_map]
    have h2:=@zNf _ h;have h1:=@zFb _ h;simp only[Re.kind,Re.args] at h1 h2;have hn:=zEe (k:=k) (s:=s) (a:=zCx a) (m:=m) (x:=x) (g:=g) (fun h7 e9=>by have:=h2 qO;rw[e9] at hl;simp at hl;omega) (fun h8 e9=>by have:=h1 qO;rw[e9] at hl;simp at hl;omega);simp only[zCz,Re.size];omega
theorem zGz:∀{ts:List Re},zDJ ts→Re.sizes (zCx ts)≤Re.sizes ts
  | [],_=>Nat.le_refl _
  | t::ts,h=>by
    simp only[zDJ] at h;have h1:=zLA h.1;have h2:=zGz h.2;simp only[zCx,Re.sizes];omega
end
end Go.Proofs
namespace Go.Proofs
open Go Go.Eng
set_option maxRecDepth 100000
mutual
def zDI (ks:List Int):Re→Bool
  | .mk k _ args _ _ _=>ks.contains k || zCt ks args
def zCt (ks:List Int):List Re→Bool
  | []=>false
  | t::ts=>zDI ks t || zCt ks ts
end
def zPY (ks:List Int):Unit→Re→Bool×Unit:=fun _ t=>(!ks.contains t.kind,())
mutual
theorem zMz (ks:List Int):∀(t:Re),(zDA (zPY ks) t ()).1 = !zDI ks t
  | .mk k set args mn mx ng=>by
    have h:=zKl ks args;rw[zEH];split
    · rename_i hk
      have hk:ks.contains k=false:=by simpa only[zPY,Re.kind,Bool.not_eq_true'] using hk
      show (zCW (zPY ks) args ()).1=_;rw[h];simp only[zDI,hk,Bool.false_or]
    · rename_i hk
      have hk:ks.contains k=true:=by
        cases hc:ks.contains k with
        | true=>rfl
        | false=>exact absurd (show (zPY ks () (.mk k set args mn mx ng)).1=true by simp only[zPY,Re.kind,hc,Bool.not_false]) hk
      simp only[zDI,hk,Bool.true_or,Bool.not_true]
theorem zKl (ks:List Int):∀(ts:List Re),(zCW (zPY ks) ts ()).1 = !zCt ks ts
  | []=>rfl
  | t::ts=>by
    have h1:=zMz ks t;have h:=zKl ks ts;rw[zCg];split
    · rename_i hk
      rw[hk] at h1;have hu:zDI ks t=false:=by simpa using h1.symm
      show (zCW (zPY ks) ts ()).1=_;rw[h];simp only[zCt,hu,Bool.false_or]
    · rename_i hk
      have hu:zDI ks t=true:=by
        cases hc:zDI ks t with
        | true=>rfl
        | false=>rw[hc] at h1;exact absurd h1 hk
      simp only[zCt,hu,Bool.true_or,Bool.not_true]
end
theorem zUH (w0:World) (t:Re) (vs:List Value) (ks:List Int) (v:Value) (b:Nat) (ht:zBG w0 t vs) (hB:Blk w0 b #[v] 26) (hks:zBt w0 v ks) :
  Ret prog 127 #[.agg vs.toArray,.pointer (some ⟨b,0,none⟩)] w0 fun r w=>r=.bool (!ks.contains t.kind)∧Ext w0 w:=by
 obtain ⟨sa,sc,aa,ac,rfl,_,_,_⟩:=ht.form;refine qR func127 rfl ntmps127 rfl (fun E=>(zAA (zBL (v:=(.agg (R6 t sa sc aa ac))) (c:=(R6 t sa sc aa ac)) qD rfl rfl ?_)));intro b1 w1 N1;have F1:=N1.ge E;have O1_b:=N1.lt hB;replace hB:=N1.keep hB;replace E:=E.ext N1.ext;have B1:=N1.blk;refine qA _ rfl (zAB (zAA (qV (zAL rfl zGb (hB.cell rfl)) (qF b1 0 0 rfl underlying25 rfl zAv rfl (qV (zAL rfl zAf (B1.cell rfl)) (qE rfl (zAV func128 zYu zaA rfl) (zWw _ v t.kind ks (hks.ext E)) ?_))))));rintro _ w9 ⟨rfl,X9⟩;replace hB:=X9.keep hB;replace B1:=X9.keep B1;replace E:=E.ext X9;refine qV (zCf rfl) (qA _ rfl (zAB (zAR (zAW results127 (v:=(.bool (!(ks.contains t.kind)))) rfl ?_))));exact ⟨rfl,E⟩
theorem zWE (w0:World) (t:Re) (vs:List Value) (ks:List Int) (v:Value) (ht:zBG w0 t vs) (hks:zBt w0 v ks) :
  Ret prog 66 #[.agg vs.toArray,v] w0 fun r w=>r=.bool (zDI ks t)∧Ext w0 w:=by
 have ab:=ht;obtain ⟨sa,sc,aa,ac,rfl,_,_,_⟩:=ht.form;obtain ⟨ka,kc,rfl⟩:=zBq.form hks;simp only[List.length_map] at hks⊢;refine qR func66 rfl ntmps66 rfl (fun E=>(zAA (zBL (v:=(.agg (R6 t sa sc aa ac))) (c:=(R6 t sa sc aa ac)) qD rfl rfl ?_)));intro br wr Nr;have Fr:=Nr.ge E;replace E:=E.ext Nr.ext;have Br:=Nr.blk;refine zBL (v:=(.slice ka ks.length kc)) (c:=#[(.slice ka ks.length kc)]) qD rfl rfl ?_;intro bp wp Np;have Fp:=Np.ge E;have Op_br:=Np.lt Br;replace Br:=Np.keep Br;replace E:=E.ext Np.ext;have Bp:=Np.blk;refine qA _ rfl (zAB (zAA (qV (zAG (vs:=[(I6 t.kind),(.slice sa t.set.length sc),(.slice aa t.args.length ac),(I6 t.mn),(I6 t.mx),(.bool t.neg)]) rfl zAc zAO rfl (Br.cells rfl)) (qV (zCj rfl rfl) ?_))));have hf:∀(s:Unit) (w:World) (t:Re) (vs:List Value),bp+1≤w.heap.size→Ext wp w→Blk w bp #[.slice ka ks.length kc] 26→zBG wp t vs→zCD prog (.func (.func 127) #[] #[.pointer (some ⟨bp,0,none⟩)]) #[.agg vs.toArray] w fun r w'=>r=.bool (zPY ks s t).1∧Chg zAo w w'∧Blk w' bp #[.slice ka ks.length kc] 26:=fun s w t vs _ hE hI ht=>zCD.mk (first:=#[]) (cap:=#[.pointer (some ⟨bp,0,none⟩)]) func127 zYv zaB rfl ((zUH w t vs ks (.slice ka ks.length kc) bp (zBG.ext hE t ht) hI ((hks.ext E).ext hE)).mono fun r w' h=>⟨h.1,h.2,Ext.keep h.2 hI⟩);refine qE rfl (zAV func121 zOg zPD rfl) ((zPX (zPY ks) (fun _ w=>Blk w bp #[.slice ka ks.length kc] 26) zAo (bp+1) _ wp (fun b hb=>hb.elim) (fun s w w' hI e=>e.keep hI) hf t.size t (Nat.le_refl _) () _ _ (by have:=Bp.lt;omega) (Ext.refl _) Bp (zBG.ext E t ab)).mono (R':=fun r w=>r=.bool (zDA (zPY ks) t ()).1∧Ext wp w) (fun r w h=>⟨h.1,h.2.1⟩)) ?_;rintro _ w9 ⟨rfl,X9⟩;replace Br:=X9.keep Br;replace Bp:=X9.keep Bp;replace E:=E.ext X9;refine qV (zCf rfl) (qA _ rfl (zAB (zAR (zAW results66 (v:=(.bool (!((zDA (zPY ks) t ()).1)))) rfl ?_))));exact ⟨zAx (by rw[zMz];simp),E⟩
structure NodeI (t:Re):Prop where
 k:0≤t.kind∧t.kind≤10
 two:t.kind=3∨t.kind=4∨t.kind=7→2≤t.args.length
 one:t.kind=5∨t.kind=6∨t.kind=8∨t.kind=9∨t.kind=10→t.args.length=1
 rep:t.kind=6→0≤t.mn∧t.mn≤t.mx∧t.mx≤8
 grp:t.kind=9→0≤t.mn∧t.mn≤9
 sett:t.kind=2→t.set≠[]
theorem zSQ {t:Re} (h:zCS t=0):NodeI t:=by
 unfold zCS at h;split at h
 ·cases h
 rename_i h1
 split at h
 ·cases h
 rename_i h2
 have h3:zDb t=true:=by simpa using h2
 unfold zDb at h3;simp only[Bool.and_eq_true] at h3;have h4:=h3.1.1.1.1;unfold okB at h4;refine ⟨qO,fun hk=>?_,fun hk=>?_,fun hk=>?_,fun hk=>?_,fun hk=>?_⟩
 ·rw[if_pos hk] at h4;have:=of_decide_eq_true h4;omega
 ·rw[if_neg qO,if_pos hk] at h4;have:=of_decide_eq_true h4;omega
 ·rw[if_neg qO,if_pos hk] at h;split at h
  ·cases h
  ·omega
 ·rw[if_neg qO,if_neg qO,if_pos hk] at h;split at h
  ·cases h
  ·omega
 ·rw[if_pos hk] at h;intro e;rw[e] at h;simp[zBR,zDH] at h
end Go.Proofs
namespace Go.Proofs
open Go Go.Eng Go.Sort
set_option maxRecDepth 100000
theorem zNU {t:Re} (h:zEB t) (h9:t.kind≠9) (h10:t.kind≠10) {a:List Re} (ha:a.length=t.args.length):PreN t.kind t.set a t.mn t.mx t.neg:=by
 have hn:=zFJ h;have hN:=zSQ hn;have hf:=(zDt h).2.2;simp only[zDb,Bool.and_eq_true,Bool.or_eq_true,decide_eq_true_eq,Bool.not_eq_true'] at hf;obtain ⟨⟨⟨⟨f1,f2⟩,f3⟩,f4⟩,f5⟩:=hf;have hk:=hN.k;refine ⟨qO,?_,fun h2=>?_,fun h6=>⟨qO,qO⟩,fun h2=>⟨hN.sett h2,?_⟩,fun h0=>?_,fun h1=>by rw[ha];exact hN.one qO,fun h6=>hN.rep h6⟩
 ·rcases f5 with h|h
  ·exact absurd h h10
  ·exact h
 ·rcases f2 with h|h
  ·exact absurd h h2
  ·exact List.eq_nil_of_length_eq_zero qO
 ·unfold zCS at hn;split at hn
  ·cases hn
  split at hn
  ·cases hn
  first|rw[if_pos h2] at hn|skip
  by_cases hc:zBR t.set=0
  ·exact hc
  ·rw[if_pos hc] at hn;exact hn
 ·unfold okB at f1;rw[if_neg qO,if_neg qO] at f1;have:=of_decide_eq_true f1;exact List.eq_nil_of_length_eq_zero qO
theorem zFD {ks:List Int} {k:Int} {s:List (Int×Int)} {a:List Re} {m x:Int} {g:Bool} (h:zDI ks (.mk k s a m x g)=false):ks.contains k=false∧zCt ks a=false:=by
 simpa only[zDI,Bool.or_eq_false_iff] using h
mutual
theorem zPh:∀{t:Re},zEB t→zDI [9,10] t=false→zAz (zCz t)
  | .mk k s a m x g,h,hu=>by
    obtain ⟨h1,h2⟩:=zFD hu;have h9:k≠9:=fun e=>by subst e;simp at h1
    have h10:k≠10:=fun e=>by subst e;simp at h1
    simp only[zCz];exact zHE (zNU (t:=.mk k s a m x g) h h9 h10 (a:=zCx a) (by rw[zCh,List.length_map];rfl)) (zJz (zCR h) h2)
theorem zJz:∀{ts:List Re},zDJ ts→zCt [9,10] ts=false→∀x∈zCx ts,zAz x
  | [],_,_,x,hx=>by simp[zCx] at hx
  | t::ts,h,hu,x,hx=>by
    simp only[zDJ] at h;simp only[zCt,Bool.or_eq_false_iff] at hu;simp only[zCx,List.mem_cons] at hx;rcases hx with rfl|hx
    · exact zPh h.1 hu.1
    · exact zJz h.2 hu.2 x hx
end
theorem zPk {k:Int} {s:List (Int×Int)} {a:List Re} {m x:Int} {g:Bool} (h:SimN k s a m x g):zCS (.mk k s a m x g)=0:=by
 have ac:=h.st;have aa:=h.mm;have hk:=h.ks;have ab:okB k a.length=true:=by
  unfold okB;split
  ·rename_i hk
   refine decide_eq_true ?_;rcases hk with hk|hk|hk
   ·have:=(h.k3 hk).1;omega
   ·have:=(h.k4 hk).1;omega
   ·have:=(h.k7 hk).1;omega
  split
  ·rename_i hk
   refine decide_eq_true ?_;rcases hk with hk|hk|hk|hk|hk
   ·obtain ⟨y,rfl,_⟩:=h.k5 hk;rfl
   ·obtain ⟨y,rfl,_⟩:=h.k6 hk;rfl
   ·obtain ⟨y,rfl,_⟩:=h.k8 hk;rfl
   ·omega
   ·omega
  ·rw[h.none qO];rfl
 have hf:zDb (.mk k s a m x g)=true:=by
  show (((((okB k a.length && (decide (k=2) || decide ((s.length:Int)=0))) && ((decide (k=6) || decide (k=9)) || decide (m=0))) && (decide (k=6) || decide (x=0))) && (decide (k=10) || !g)):Bool)=true;simp only[Bool.and_eq_true,Bool.or_eq_true,decide_eq_true_eq,Bool.not_eq_true'];refine ⟨⟨⟨⟨ab,?_⟩,?_⟩,?_⟩,.inr h.ng⟩
  ·by_cases h2:k=2
   ·exact .inl h2
   ·rw[ac h2];exact .inr rfl
  ·by_cases h6:k=6
   ·exact .inl (.inl h6)
   ·exact .inr (aa h6).1
  ·by_cases h6:k=6
   ·exact .inl h6
   ·exact .inr (aa h6).2
 show (if k<0∨10<k then (1:Int) else if zDb (.mk k s a m x g)=false then 3 else if k=2 then (if zBR s≠0 then zBR s else if (s.length:Int)=0 then 3 else 0) else if k=6 then (if m<0∨x<m∨8<x then 1 else 0) else if k=9 then (if m<0∨9<m then 1 else 0) else 0)=0;have h1:¬(k<0∨10<k):=qO
 rw[if_neg h1]
 first|rw[if_neg (show ¬zDb (.mk k s a m x g)=false by rw[hf];decide)]|skip
 split
 ·rename_i h2
  obtain ⟨h3,h4⟩:=h.k2 h2;have h5:s.length≠0:=fun e=>h3 (List.eq_nil_of_length_eq_zero e);rw[if_neg qO,if_neg qO]
 split
 ·rename_i h6
  obtain ⟨y,_,_,_,h3,h4,h5,_⟩:=h.k6 h6;rw[if_neg qO]
 split
 ·omega
 ·rfl
mutual
theorem zEY:∀{t:Re},zAz t→zEB t∧zDI [9,10] t=false
  | .mk k s a m x g,h=>by
    have h1:=zJR h.2;have hk:=h.1.ks;refine ⟨by simp only[zEB];exact ⟨zPk h.1,h1.1⟩,?_⟩;simp only[zDI,Bool.or_eq_false_iff];refine ⟨?_,h1.2⟩;rw[Bool.eq_false_iff,ne_eq,List.contains_iff_mem];simp;omega
theorem zJR:∀{ts:List Re},zDe ts→zDJ ts∧zCt [9,10] ts=false
  | [],_=>⟨trivial,rfl⟩
  | t::ts,h=>by
    have h1:=zEY h.1;have h2:=zJR h.2;exact ⟨by simp only[zDJ];exact ⟨h1.1,h2.1⟩,by simp only[zCt,h1.2,h2.2];rfl⟩
end
def zDW (t:Re):Int:=if zDi t 300≠0 then zDi t 300 else if zDI [9,10] t=true then 3 else 0
def zPL:Re→List Int→Option Re
  | t,[]=>some t
  | t,c::l=>if 300<(zBK c t).size then none else zPL (zBK c t) l
def byE (t:Re) (c:Int):Int:=if zDW t≠0 then zDW t else if zFl c=false then 1 else if 300<(zBK c (zCz t)).size then 2 else 0
def byD (t:Re) (c:Int):Re:=if byE t c=0 then zBK c (zCz t) else zBa
def zRk (t:Re) (text:List Int):Int:=if zDW t≠0 then zDW t else if 100<text.length then 2 else if text.any (fun r=>!zFl r)=true then 1 else if (zPL (zCz t) text).isNone=true then 2 else 0
def zZH (t:Re) (text:List Int):Bool:=if zRk t text=0 then ((zPL (zCz t) text).map zBW).getD false else false
theorem zDV {t:Re} (h:zDW t=0):zEB t∧t.size≤300∧zDI [9,10] t=false∧zAz (zCz t)∧(zCz t).size≤300:=by
  unfold zDW at h;by_cases h1:zDi t 300=0
  · rw[if_neg qO] at h;obtain ⟨aa,hsz⟩:=(zHM (t:=t) (most:=300) qD qD).1 h1;have hu:zDI [9,10] t=false:=by
      cases h2:zDI [9,10] t with
      | true=>rw[h2] at h;cases h
      | false=>rfl
    have:=zLA aa;exact ⟨aa,qO,hu,zPh aa hu,qO⟩
  · rw[if_pos h1] at h;exact absurd h h1
end Go.Proofs
namespace Go.Proofs
open Go Go.Eng Go.Sort
set_option maxRecDepth 100000
mutual
/-- All sets of an expression have a property. -/
def zDj (P:List (Int×Int)→Prop):Re→Prop
  | .mk k s a _ _ _=>(k=2→P s)∧zIy P a
def zIy (P:List (Int×Int)→Prop):List Re→Prop
  | []=>True
  | t::ts=>zDj P t∧zIy P ts
end
section
variable {P : List (Int × Int) → Prop}
theorem zGl {ts:List Re}:zIy P ts↔∀t∈ts,zDj P t:=by
  induction ts with
  | nil=>simp[zIy]
  | cons t ts ih=>simp only[zIy,ih,List.mem_cons,forall_eq_or_imp]
theorem zDj.s {t:Re} (h:zDj P t):t.kind=2→P t.set:=by cases t;exact h.1
theorem zDj.a {t:Re} (h:zDj P t):∀x∈t.args,zDj P x:=by cases t;exact zGl.1 h.2
theorem zIq {k m x:Int} {a:List Re} {g:Bool} {s:List (Int×Int)} (hk:k=2→P s) (h:∀x∈a,zDj P x):zDj P (.mk k s a m x g):=⟨hk,zGl.2 h⟩
theorem zDz:zDj P zBa:=zIq (fun h=>absurd h qD) qP
theorem zEj:zDj P zBT:=zIq (fun h=>absurd h qD) qP
theorem zTP:zDj P zGK:=zIq (fun h=>absurd h qD) (fun x hx=>by rw[List.mem_singleton.1 hx];exact zDz)
theorem zLy {k:Int} {l:List Re} (h:∀x∈l,zDj P x):∀x∈zBY k l,zDj P x:=by
 intro x hx;obtain ⟨y,hy,⟨_,h1⟩|⟨_,rfl⟩⟩:=zDE.1 hx
 ·exact (h y hy).a x h1
 ·exact h x hy
theorem zIp {k:Int} {z:Re} {l:List Re} (hk:k≠2) (hz:zDj P z) (h:∀x∈l,zDj P x):zDj P (zCL k z l):=by
  match l,h with
  | [],_=>exact hz
  | [x],h=>exact h x qP
  | x::y::l,h=>exact zIq (fun e=>absurd e hk) h
theorem zHt {l:List Re} (h:∀x∈l,zDj P x):zDj P (zEz l):=by
 unfold zEz;split
 ·exact zDz
 ·exact zIp qD zEj fun x hx=>zLy h x (zGE.1 hx).1
theorem zOL {k:Int} {l:List Re} {sb wb:Re→Bool} {z:Re} (hk:k≠2) (hz:zDj P z) (h:∀x∈l,zDj P x):zDj P (zJG k l sb wb z):=by
 unfold zJG;split
 ·rename_i x hx
  exact h x (List.mem_of_find?_eq_some hx)
 ·exact zIp hk hz fun x hx=>zLy h x (zGE.1 (zFW.1 (zHR.1 hx))).1
theorem zGo {a:List Re} (h:∀x∈a,zDj P x):zDj P (a.headD zBa):=by
  cases a with
  | nil=>exact zDz
  | cons x a=>exact h x qP
theorem zGn {k m x:Int} {a:List Re} {g:Bool} {s:List (Int×Int)} (hk:k=2→P s) (h:∀x∈a,zDj P x):zDj P (zCr k s a m x g):=by
 have h1:=zGo h;have h2:zDj P (.mk k s a m x g):=zIq hk h;unfold zCr;dsimp only;split
 ·exact zHt h
 split
 ·exact zOL qD zDz h
 split
 ·exact zOL qD zTP h
 split
 ·split
  ·exact zEj
  split
  ·exact h1
  ·exact h2
 split
 ·split
  ·exact zEj
  split
  ·exact h1
  ·exact h2
 split
 ·split
  ·exact zGo h1.a
  ·exact h2
 ·exact h2
end
mutual
theorem zOJ {P:List (Int×Int)→Prop}:∀{t:Re},zDj P t→zDj P (zCz t)
  | .mk k s a m x g,h=>by
    simp only[zCz];exact zGn h.1 (zLw h.2)
theorem zLw {P:List (Int×Int)→Prop}:∀{ts:List Re},zIy P ts→∀x∈zCx ts,zDj P x
  | [],_,x,hx=>by simp[zCx] at hx
  | t::ts,h,x,hx=>by
    simp only[zCx,List.mem_cons] at hx;rcases hx with rfl|hx
    · exact zOJ h.1
    · exact zLw h.2 x hx
end
mutual
theorem zGm {P:List (Int×Int)→Prop} (c:Int):∀{t:Re},zDj P t→zDj P (zBK c t)
  | .mk k s a m x g,h=>by
    have ih:=zJr c h.2;have ha:=zGl.1 h.2;have h1:=zGo ih;have h2:=zGo ha;simp only[zBK];split
    · split
      · exact zEj
      · exact zDz
    split
    · exact zJs c h.2
    split
    · rename_i hk
      exact zGn (fun e=>qO) ih
    split
    · exact zHt fun y hy=>by
        simp only[List.mem_cons,List.not_mem_nil,or_false] at hy;rcases hy with rfl|rfl
        · exact h1
        · exact h
    split
    · exact zHt fun y hy=>by
        simp only[List.mem_cons,List.not_mem_nil,or_false] at hy;rcases hy with rfl|rfl
        · exact h1
        · exact zGn (fun e=>qO) fun z hz=>by rw[List.mem_singleton.1 hz];exact h2
    · exact zDz
theorem zJr {P:List (Int×Int)→Prop} (c:Int):∀{ts:List Re},zIy P ts→∀x∈zBw c ts,zDj P x
  | [],_,x,hx=>by simp[zBw] at hx
  | t::ts,h,x,hx=>by
    simp only[zBw,List.mem_cons] at hx;rcases hx with rfl|hx
    · exact zGm c h.1
    · exact zJr c h.2 x hx
theorem zJs {P:List (Int×Int)→Prop} (c:Int):∀{ts:List Re},zIy P ts→zDj P (zEx c ts)
  | [],_=>zDz
  | t::ts,h=>by
    have h1:=zGm c h.1;have h2:=zJs c h.2;have h3:zDj P (zCL 3 zBT ts):=zIp qD zEj (zGl.1 h.2);simp only[zEx];split
    · exact h1
    have h4:zDj P (zEz [zBK c t,zCL 3 zBT ts]):=zHt fun y hy=>by
      simp only[List.mem_cons,List.not_mem_nil,or_false] at hy;rcases hy with rfl|rfl
      · exact h1
      · exact h3
    split
    · exact zGn (fun e=>qO) fun y hy=>by
        simp only[List.mem_cons,List.not_mem_nil,or_false] at hy;rcases hy with rfl|rfl
        · exact h4
        · exact h2
    · exact h4
end
end Go.Proofs
namespace Go.Proofs
open Go.Shelf
def Tryz.sortSp_ren:Go.Shelf.Ren:=⟨fun|6=>156|15=>176|14=>179|28=>204|29=>205|20=>212|21=>213|22=>214|23=>215|24=>216|25=>217|26=>218|27=>219|46=>244|47=>225|48=>226|49=>245|50=>246|57=>258|n=>n,fun|22=>22|24=>103|25=>161|3=>3|39=>170|0=>0|53=>182|55=>185|4=>4|46=>194|45=>193|50=>148|5=>5|9=>9|66=>219|70=>223|76=>253|77=>254|n=>n,fun|n=>n⟩
theorem Tryz.sortSp:Go.Proofs.SlLaysF0.n6 prog Tryz.sortSp_ren:={
 mixed:=by kernel_rfl
 f6:=⟨Tryz.f156.name,qD,func156.trans (congrArg some qK)⟩
 f14:=⟨Tryz.f179.name,qD,func179.trans (congrArg some qK)⟩
 f15:=func176.trans (congrArg some qK)
 f20:=⟨Tryz.f212.name,qD,func212.trans (congrArg some qK)⟩
 f21:=⟨Tryz.f213.name,qD,func213.trans (congrArg some qK)⟩
 f22:=⟨Tryz.f214.name,qD,func214.trans (congrArg some qK)⟩
 f23:=⟨Tryz.f215.name,qD,func215.trans (congrArg some qK)⟩
 f24:=⟨Tryz.f216.name,qD,func216.trans (congrArg some qK)⟩
 f25:=⟨Tryz.f217.name,qD,func217.trans (congrArg some qK)⟩
 f26:=⟨Tryz.f218.name,qD,func218.trans (congrArg some qK)⟩
 f27:=⟨Tryz.f219.name,qD,func219.trans (congrArg some qK)⟩
 f28:=func204.trans (congrArg some qK)
 f29:=func205.trans (congrArg some qK)
 f46:=⟨Tryz.f244.name,qD,func244.trans (congrArg some qK)⟩
 f47:=func225.trans (congrArg some qK)
 f48:=func226.trans (congrArg some qK)
 f49:=⟨Tryz.f245.name,qD,func245.trans (congrArg some qK)⟩
 f50:=⟨Tryz.f246.name,qD,func246.trans (congrArg some qK)⟩
 f57:=⟨Tryz.f258.name,qD,func258.trans (congrArg some qK)⟩
 t0:=underlying0
 a0:=Tryz.isAgg0
 z0:=Tryz.sizeOf0
 v0:=Tryz.zeroValue0
 t3:=underlying3
 a3:=Tryz.isAgg3
 z3:=Tryz.sizeOf3
 v3:=Tryz.zeroValue3
 t4:=underlying4
 a4:=Tryz.isAgg4
 z4:=Tryz.sizeOf4
 v4:=Tryz.zeroValue4
 t5:=underlying5
 a5:=Tryz.isAgg5
 z5:=Tryz.sizeOf5
 v5:=Tryz.zeroValue5
 t9:=underlying9
 a9:=Tryz.isAgg9
 z9:=Tryz.sizeOf9
 v9:=Tryz.zeroValue9
 t22:=underlying22
 a22:=Tryz.isAgg22
 z22:=Tryz.sizeOf22
 v22:=Tryz.zeroValue22
 t25:=underlying161
 a25:=Tryz.isAgg161
 z25:=Tryz.sizeOf161
 v25:=Tryz.zeroValue161
 t39:=underlying170
 a39:=Tryz.isAgg170
 z39:=Tryz.sizeOf170
 v39:=Tryz.zeroValue170
 t45:=underlying193
 a45:=Tryz.isAgg193
 z45:=Tryz.sizeOf193
 v45:=Tryz.zeroValue193
 t46:=underlying194
 a46:=Tryz.isAgg194
 z46:=Tryz.sizeOf194
 v46:=Tryz.zeroValue194
 t50:=underlying148
 a50:=Tryz.isAgg148
 z50:=Tryz.sizeOf148
 v50:=Tryz.zeroValue148
 t53:=underlying182
 a53:=Tryz.isAgg182
 z53:=Tryz.sizeOf182
 v53:=Tryz.zeroValue182
 t55:=underlying185
 a55:=Tryz.isAgg185
 z55:=Tryz.sizeOf185
 v55:=Tryz.zeroValue185
 t66:=underlying219
 a66:=Tryz.isAgg219
 z66:=Tryz.sizeOf219
 v66:=Tryz.zeroValue219
 t70:=underlying223
 a70:=Tryz.isAgg223
 z70:=Tryz.sizeOf223
 v70:=Tryz.zeroValue223
 t76:=underlying253
 a76:=Tryz.isAgg253
 z76:=Tryz.sizeOf253
 v76:=Tryz.zeroValue253
 t77:=underlying254
 a77:=Tryz.isAgg254
 z77:=Tryz.sizeOf254
 v77:=Tryz.zeroValue254}
def Tryz.sortRe_ren:Go.Shelf.Ren:=⟨fun|6=>183|15=>176|14=>221|28=>204|29=>205|20=>247|21=>248|22=>249|23=>250|24=>251|25=>252|26=>253|27=>254|46=>259|47=>225|48=>226|49=>260|50=>261|57=>262|n=>n,fun|22=>23|24=>25|25=>169|3=>3|39=>170|0=>0|53=>182|55=>185|4=>4|46=>194|45=>193|50=>148|5=>5|9=>9|66=>219|70=>223|76=>253|77=>254|n=>n,fun|n=>n⟩
theorem Tryz.sortRe:Go.Proofs.SlLaysF0.n6 prog Tryz.sortRe_ren:={
 mixed:=by kernel_rfl
 f6:=⟨Tryz.f183.name,qD,func183.trans (congrArg some qK)⟩
 f14:=⟨Tryz.f221.name,qD,func221.trans (congrArg some qK)⟩
 f15:=func176.trans (congrArg some qK)
 f20:=⟨Tryz.f247.name,qD,func247.trans (congrArg some qK)⟩
 f21:=⟨Tryz.f248.name,qD,func248.trans (congrArg some qK)⟩
 f22:=⟨Tryz.f249.name,qD,func249.trans (congrArg some qK)⟩
 f23:=⟨Tryz.f250.name,qD,func250.trans (congrArg some qK)⟩
 f24:=⟨Tryz.f251.name,qD,func251.trans (congrArg some qK)⟩
 f25:=⟨Tryz.f252.name,qD,func252.trans (congrArg some qK)⟩
 f26:=⟨Tryz.f253.name,qD,func253.trans (congrArg some qK)⟩
 f27:=⟨Tryz.f254.name,qD,func254.trans (congrArg some qK)⟩
 f28:=func204.trans (congrArg some qK)
 f29:=func205.trans (congrArg some qK)
 f46:=⟨Tryz.f259.name,qD,func259.trans (congrArg some qK)⟩
 f47:=func225.trans (congrArg some qK)
 f48:=func226.trans (congrArg some qK)
 f49:=⟨Tryz.f260.name,qD,func260.trans (congrArg some qK)⟩
 f50:=⟨Tryz.f261.name,qD,func261.trans (congrArg some qK)⟩
 f57:=⟨Tryz.f262.name,qD,func262.trans (congrArg some qK)⟩
 t0:=underlying0
 a0:=Tryz.isAgg0
 z0:=Tryz.sizeOf0
 v0:=Tryz.zeroValue0
 t3:=underlying3
 a3:=Tryz.isAgg3
 z3:=Tryz.sizeOf3
 v3:=Tryz.zeroValue3
 t4:=underlying4
 a4:=Tryz.isAgg4
 z4:=Tryz.sizeOf4
 v4:=Tryz.zeroValue4
 t5:=underlying5
 a5:=Tryz.isAgg5
 z5:=Tryz.sizeOf5
 v5:=Tryz.zeroValue5
 t9:=underlying9
 a9:=Tryz.isAgg9
 z9:=Tryz.sizeOf9
 v9:=Tryz.zeroValue9
 t22:=underlying23
 a22:=Tryz.isAgg23
 z22:=Tryz.sizeOf23
 v22:=Tryz.zeroValue23
 t25:=underlying169
 a25:=Tryz.isAgg169
 z25:=Tryz.sizeOf169
 v25:=Tryz.zeroValue169
 t39:=underlying170
 a39:=Tryz.isAgg170
 z39:=Tryz.sizeOf170
 v39:=Tryz.zeroValue170
 t45:=underlying193
 a45:=Tryz.isAgg193
 z45:=Tryz.sizeOf193
 v45:=Tryz.zeroValue193
 t46:=underlying194
 a46:=Tryz.isAgg194
 z46:=Tryz.sizeOf194
 v46:=Tryz.zeroValue194
 t50:=underlying148
 a50:=Tryz.isAgg148
 z50:=Tryz.sizeOf148
 v50:=Tryz.zeroValue148
 t53:=underlying182
 a53:=Tryz.isAgg182
 z53:=Tryz.sizeOf182
 v53:=Tryz.zeroValue182
 t55:=underlying185
 a55:=Tryz.isAgg185
 z55:=Tryz.sizeOf185
 v55:=Tryz.zeroValue185
 t66:=underlying219
 a66:=Tryz.isAgg219
 z66:=Tryz.sizeOf219
 v66:=Tryz.zeroValue219
 t70:=underlying223
 a70:=Tryz.isAgg223
 z70:=Tryz.sizeOf223
 v70:=Tryz.zeroValue223
 t76:=underlying253
 a76:=Tryz.isAgg253
 z76:=Tryz.sizeOf253
 v76:=Tryz.zeroValue253
 t77:=underlying254
 a77:=Tryz.isAgg254
 z77:=Tryz.sizeOf254
 v77:=Tryz.zeroValue254}
def Tryz.sortI_ren:Go.Shelf.Ren:=⟨fun|189=>147|125=>176|257=>175|128=>204|129=>205|294=>195|295=>196|296=>197|297=>198|298=>199|299=>200|216=>201|300=>202|301=>203|328=>224|329=>225|330=>226|331=>227|332=>228|215=>180|343=>256|n=>n,fun|28=>26|3=>3|46=>170|0=>0|51=>182|53=>185|4=>4|183=>194|182=>193|131=>148|5=>5|9=>9|218=>219|222=>223|228=>253|229=>254|n=>n,fun|n=>n⟩
theorem Tryz.sortI:Go.Proofs.Lays.n189 prog Tryz.sortI_ren:={
 mixed:=by kernel_rfl
 f125:=func176.trans (congrArg some qK)
 f128:=func204.trans (congrArg some qK)
 f129:=func205.trans (congrArg some qK)
 f189:=func147.trans (congrArg some qK)
 f215:=func180.trans (congrArg some qK)
 f216:=func201.trans (congrArg some qK)
 f257:=func175.trans (congrArg some qK)
 f294:=func195.trans (congrArg some qK)
 f295:=func196.trans (congrArg some qK)
 f296:=func197.trans (congrArg some qK)
 f297:=func198.trans (congrArg some qK)
 f298:=func199.trans (congrArg some qK)
 f299:=func200.trans (congrArg some qK)
 f300:=func202.trans (congrArg some qK)
 f301:=func203.trans (congrArg some qK)
 f328:=func224.trans (congrArg some qK)
 f329:=func225.trans (congrArg some qK)
 f330:=func226.trans (congrArg some qK)
 f331:=func227.trans (congrArg some qK)
 f332:=func228.trans (congrArg some qK)
 f343:=func256.trans (congrArg some qK)
 t0:=underlying0
 a0:=Tryz.isAgg0
 z0:=Tryz.sizeOf0
 v0:=Tryz.zeroValue0
 t3:=underlying3
 a3:=Tryz.isAgg3
 z3:=Tryz.sizeOf3
 v3:=Tryz.zeroValue3
 t4:=underlying4
 a4:=Tryz.isAgg4
 z4:=Tryz.sizeOf4
 v4:=Tryz.zeroValue4
 t5:=underlying5
 a5:=Tryz.isAgg5
 z5:=Tryz.sizeOf5
 v5:=Tryz.zeroValue5
 t9:=underlying9
 a9:=Tryz.isAgg9
 z9:=Tryz.sizeOf9
 v9:=Tryz.zeroValue9
 t28:=underlying26
 a28:=Tryz.isAgg26
 z28:=Tryz.sizeOf26
 v28:=Tryz.zeroValue26
 t46:=underlying170
 a46:=Tryz.isAgg170
 z46:=Tryz.sizeOf170
 v46:=Tryz.zeroValue170
 t51:=underlying182
 a51:=Tryz.isAgg182
 z51:=Tryz.sizeOf182
 v51:=Tryz.zeroValue182
 t53:=underlying185
 a53:=Tryz.isAgg185
 z53:=Tryz.sizeOf185
 v53:=Tryz.zeroValue185
 t131:=underlying148
 a131:=Tryz.isAgg148
 z131:=Tryz.sizeOf148
 v131:=Tryz.zeroValue148
 t182:=underlying193
 a182:=Tryz.isAgg193
 z182:=Tryz.sizeOf193
 v182:=Tryz.zeroValue193
 t183:=underlying194
 a183:=Tryz.isAgg194
 z183:=Tryz.sizeOf194
 v183:=Tryz.zeroValue194
 t218:=underlying219
 a218:=Tryz.isAgg219
 z218:=Tryz.sizeOf219
 v218:=Tryz.zeroValue219
 t222:=underlying223
 a222:=Tryz.isAgg223
 z222:=Tryz.sizeOf223
 v222:=Tryz.zeroValue223
 t228:=underlying253
 a228:=Tryz.isAgg253
 z228:=Tryz.sizeOf253
 v228:=Tryz.zeroValue253
 t229:=underlying254
 a229:=Tryz.isAgg254
 z229:=Tryz.sizeOf254
 v229:=Tryz.zeroValue254}
def Tryz.compI_ren:Go.Shelf.Ren:=⟨fun|20=>148|n=>n,fun|22=>26|3=>3|4=>4|0=>0|n=>n,fun|n=>n⟩
theorem Tryz.compI:Go.Proofs.Lays2.n20 prog Tryz.compI_ren:={
 mixed:=by kernel_rfl
 f20:=func148.trans (congrArg some qK)
 t0:=underlying0
 a0:=Tryz.isAgg0
 z0:=Tryz.sizeOf0
 v0:=Tryz.zeroValue0
 t3:=underlying3
 a3:=Tryz.isAgg3
 z3:=Tryz.sizeOf3
 v3:=Tryz.zeroValue3
 t4:=underlying4
 a4:=Tryz.isAgg4
 z4:=Tryz.sizeOf4
 v4:=Tryz.zeroValue4
 t22:=underlying26
 a22:=Tryz.isAgg26
 z22:=Tryz.sizeOf26
 v22:=Tryz.zeroValue26
 i3:=by kernel_rfl}
end Go.Proofs
namespace Go.Proofs
open Go Go.Eng Go.Sort
set_option maxRecDepth 100000
structure VSp where
 s:Sp
 ok:vSp s
instance:Inhabited VSp:=⟨⟨(0,0),by unfold vSp;simp⟩⟩
def zQw (s:VSp):List Value:=zBh s.s
theorem zPe {α:Type} [Inhabited α] (enc:α→List Value) (k:Nat) (w:World) (g off m:Nat) (dk:Array α) (os:Array Obj):Chg (fun x=>x=g) w (sortWorldK enc k w g off m dk os):=by
 refine ⟨rfl,rfl,rfl,Nat.le_add_right _ _,?_,fun b hb aa=>?_⟩
 ·simp[sortWorldK,grow,putRowK,putRow,mapBlock]
 ·simp only[sortWorldK,grow,putRowK,putRow,mapBlock];rw[Array.getElem?_append_left (by simpa using hb),Array.getElem?_modify,if_neg (fun h=>aa h.symm)];rfl
theorem own_holds {w:World} {base g n c:Nat} {d:List VSp} (h:w.ownsRow base TSp 2 (.slice (some ⟨g,0,none⟩) n c) n ((d.map VSp.s).map zBh).flatten) (hn:d.length=n):HoldsK zQw 2 w g 0 d.toArray:=by
 have ad:zBQ w (.slice (some ⟨g,0,none⟩) n c) (d.map VSp.s):=zDC h (by intro x hx;simp only[List.mem_map] at hx;obtain ⟨p,_,rfl⟩:=hx;rfl) (by simpa using hn) qD;intro j hj;rw[size_flatK] at hj;simp only[List.size_toArray] at hj;have ab:j / 2<d.length:=qO
 obtain ⟨b,o,aa,ac⟩:=zBN ad qO;simp only[Option.some.injEq,Addr.mk.injEq,and_true] at aa;obtain ⟨rfl,rfl⟩:=aa;have hx:(d.map VSp.s)[j / 2]?=some d[j / 2].s:=by rw[List.getElem?_map,List.getElem?_eq_getElem ab];rfl
 have hc:=ac (j / 2) _ hx;rw[get_flatK _ _ _ _ (by simpa using hj)];have he:d.toArray[j / 2]! = d[j / 2]:=by rw[getElem!_pos d.toArray (j / 2) (by simpa using ab)];simp
 rw[he];constructor
 ·rcases Nat.mod_two_eq_zero_or_one j with h2|h2
  ·have:=hc.at0;rw[h2];rw[show 0+j / 2*2=0+j from qO] at this;simpa[zQw,zBh] using this
  ·have:=hc.at1;rw[h2];rw[show 0+j / 2*2+1=0+j from qO] at this;simpa[zQw,zBh] using this
 ·rcases h.2 with ⟨h1,_⟩|⟨g',cap,cur,hv,_,hg,_⟩
  ·simp at h1
  ·simp only[Value.slice.injEq,Option.some.injEq,Addr.mk.injEq,and_true] at hv;obtain ⟨rfl,_⟩:=hv;simp[World.frozen?,hg]
theorem zMh {w:World} {g n c:Nat} {d:Array VSp} (h:HoldsK zQw 2 w g 0 d) (hn:d.size=n) (hc:n≤c) (hl:n≤8796093022208):zBQ w (.slice (some ⟨g,0,none⟩) n c) (d.toList.map VSp.s):=by
  refine ⟨_,c,by simp[hn],by simp;omega,by simp;omega,.inr ⟨g,0,rfl,fun i r hr j u hu=>?_⟩⟩;simp only[List.getElem?_map,Option.map_eq_some_iff] at hr;obtain ⟨s,⟨x,hx,rfl⟩,rfl⟩:=hr;have hi:i<d.size:=by have:=zAa hx;simpa using this
  have hj:j<2:=by have:=zAa hu;simpa[zBh] using this
  have h1:=(HoldsK.cell h hi hj).1;have he:d[i]! = x:=by
    rw[getElem!_pos d i hi];rw[Array.getElem?_toList,Array.getElem?_eq_getElem hi] at hx;simpa using hx
  rw[h1,he]
  match j,hj,hu with
  | 0,_,hu=>simpa[zQw,zBh] using hu
  | 1,_,hu=>simpa[zQw,zBh] using hu
theorem zKT {P : Program} {f : FuncId} {fn : Func} (hf : P.funcs[f]? = some fn) (hn : (fn.name == "runtime.NumGoroutine") = false) (hb : fn.body.isNone = false) : ∀ args w, (callFunc f args).run P w = .ok (.enter f args) w := fun args w => zGO (vs := args) (w := w) hf hn hb
theorem zRV (w0:World):Ret prog 176 #[.int .u64 0] w0 fun v w=>v=.int .i64 (Lib.bitLen 0:Nat)∧Ext w0 w:=
 (Any.bits_Len (SlLaysF0.n15.bits (P:=prog) (ρ:=Tryz.sortSp_ren) {Tryz.sortSp with}) 0 w0 qO qO).mono fun _ _ ⟨he,hw⟩=>⟨_,he,rfl,by rw[hw];exact Ext.refl _⟩
theorem zWu (w0:World) (a:Option Addr) (c:Nat) (fv:Value):Ret prog 212 #[.slice a 0 c,.int .i64 0,.int .i64 0,fv] w0 fun v w=>v=.tuple #[]∧Ext w0 w:=by
 refine qR func212 rfl ntmps212 rfl (fun E=>(zAA (qM _ rfl (qV (zAy (c:=1) rfl rfl qD) (qA _ rfl (zAB (zAT (zAq (fun nn_ σ W1=>(∃jj_,σ=zCH jj_ [(0,(.slice a 0 c)),(1,(I6 0)),(2,(I6 0)),(3,fv),(8,(I6 1))])∧Chg zAo w0 W1∧nn_=(0:Nat)) (n:=(0:Nat)) ?_ ?_))))))))
 ·exact ⟨zBA.out ⟨rfl,rfl,rfl,rfl,rfl,trivial⟩,E,rfl⟩
 ·clear E;rintro _ _ W1 ⟨⟨j1,rfl⟩,E,rfl⟩;refine zAK (zAA (qM _ rfl (qM _ rfl (qV (zBH rfl rfl) (zAB (zAb rfl (zAp (zAX (zAX (zAj (zGd results212 ?_)))))))))));exact ⟨rfl,E⟩
theorem zWV (w0:World) (a:Option Addr) (c:Nat) (n:Int) (fv:Value):Ret prog 179 #[.slice a 0 c,.int .i64 0,.int .i64 0,.int .i64 n,fv] w0 fun v w=>v=.tuple #[]∧Ext w0 w:=by
 refine qR func179 rfl ntmps179 rfl (fun E=>(zAA (qA _ rfl (zAB (zAA (qA _ rfl (zAB (zAT (zAq (fun nn_ σ W1=>(∃jj_,σ=zCH jj_ [(0,(.slice a 0 c)),(1,(I6 0)),(2,(I6 0)),(4,fv)])∧Chg zAo w0 W1∧nn_=(0:Nat)) (n:=(0:Nat)) ?_ ?_)))))))))
 ·exact ⟨zBA.out ⟨rfl,rfl,rfl,rfl,trivial⟩,E,rfl⟩
 ·clear E;rintro _ _ W1 ⟨⟨j1,rfl⟩,E,rfl⟩;refine zAT (zAA (qM _ rfl (qM _ rfl (qV (zDS (c:=0) rfl rfl qD) (qA _ rfl (zAB (zAK (zAA (qM _ rfl (qV (zEd rfl rfl) (zAB (zAl rfl (zAA (qM _ rfl (qM _ rfl (qM _ rfl (qM _ rfl ?_)))))))))))))))));refine qE rfl (zAV func212 zYT zZZ rfl) (zWu _ a c fv) ?_;rintro _ w9 ⟨rfl,X9⟩;replace E:=E.ext X9;refine zAB (zAR (zAI (zAZ (zAI (zAZ (zLe results179 ?_))))));exact ⟨rfl,E⟩
theorem zUV (w0:World) (a:Option Addr) (c:Nat) (fv:Value):Ret prog 156 #[.slice a 0 c,fv] w0 fun v w=>v=.tuple #[]∧Ext w0 w:=by
 refine qR func156 rfl ntmps156 rfl (fun E=>(zAA (qM _ rfl (qV (zAM underlying22 rfl) (qA _ rfl (zAB (zAN (qM _ rfl (qM _ rfl (qM _ rfl (qV (zLL (c:=0) ⟨_,underlying3⟩ underlying170 rfl (zaP qO)) (qE rfl (zAV func176 zWg zXQ rfl) (zRV _) ?_))))))))))));rintro _ w8 ⟨rfl,X8⟩;replace E:=E.ext X8;refine qM _ rfl (qE rfl (zAV func179 zYX zZd rfl) (zWV _ a c _ fv) ?_);rintro _ w9 ⟨rfl,X9⟩;replace E:=E.ext X9;refine zAB (zGd results156 ?_);exact ⟨rfl,E⟩
theorem zUP (cf : VSp → VSp → Int) (hO : SWO (ltOf cf)) {f : FuncId} {fn : Func} (hf : (prog).funcs[f]? = some fn) (hn : (fn.name == "runtime.NumGoroutine") = false) (hb : fn.body.isNone = false)
  (hcmp:∀(W:World) (x y:VSp),Ret prog f #[.agg #[.int .i64 x.s.1,.int .i64 x.s.2],.agg #[.int .i64 y.s.1,.int .i64 y.s.2]] W fun v w=>v=.int .i64 (cf x y)∧Ext W w)
  (w0:World) (base:Nat) (v:Value) (l:List Sp) (h:zPR w0 base v l) (hl:l.length≤8796093022208) (hok:∀s∈l,vSp s) :
  Ret prog 156 #[v,.func (.func f) #[] #[]] w0 fun r w=>r=.tuple #[]∧(∃l':List VSp,(l'.map VSp.s).Perm l∧l'.Pairwise (fun s t=>¬cf t s<0)∧zBQ w v (l'.map VSp.s))∧Chg (fun x=>v.ownBlock=some x) w0 w:=by
 have eg:=zKT hf hn hb;obtain ⟨d,rfl⟩:∃d:List VSp,d.map VSp.s=l:=⟨l.pmap VSp.mk hok,by rw[List.map_pmap];simp⟩;have ht:∀w,(isAgg (Tryz.sortSp_ren.t 24)).run prog w=.ok true w:=fun w=>zMu.run zCi w;have hs:∀w,(Go.sizeOf (Tryz.sortSp_ren.t 24)).run prog w=.ok 2 w:=fun w=>zBB.run w;rcases h.2.2 with ⟨rfl,h0⟩|⟨g,ai,cur,rfl,hbg,hg,af,hcm,hcs,ae⟩
 ·have hd:d=[]:=List.eq_nil_of_length_eq_zero (by simpa using h0);subst hd;exact (zUV w0 none 0 (.func (.func f) #[] #[])).mono fun v w' ⟨hv,hw⟩=>⟨hv,⟨[],List.Perm.refl _,List.Pairwise.nil,zBq.nil _ _ _ _⟩,Ext.chg hw⟩
 ·simp only[List.length_map] at *;have hH:=own_holds (d:=d) (n:=d.length) (by have:=h.2;rwa [List.length_map] at this) rfl;have ab:g<w0.heap.size:=(Array.getElem?_eq_some_iff.1 hg).1;have hc:CmpLays prog f #[] zQw 2 cf g 0 d.toArray.size w0:=fun m os dk _ x y=>by
   refine Calls.mono (hcmp _ x y) ?_;rintro e w' ⟨v,rfl,rfl,hx⟩;obtain ⟨q,ah,hw⟩:=Ext.grown hx;exact ⟨rfl,q,ah,hw⟩
  have ad:=AnyQ.slices_SortFunc Tryz.sortSp 2 ht hs zQw (fun _=>rfl) (fun x u hu=>by simp[zQw,zBh] at hu;rcases hu with rfl|rfl<;>rfl) cf hO f #[] g 0 ai d.toArray w0 eg hc hH ab (by simp;omega);refine Calls.mono ad ?_;rintro e w' ⟨rfl,d',n,os,hp,aj,rfl⟩;have ac:d'.size=d.length:=by have:=hp.1;simpa using this
  have aa:d'.toList.Perm d:=by
   have h3:=hp.2.2;simp only[List.size_toArray] at h3;rw[show d.length=d'.size from ac.symm,Array.extract_size] at h3;rw[ac] at h3;simpa using h3
  refine ⟨_,rfl,rfl,⟨d'.toList,aa.map _,?_,?_⟩,(zPe zQw 2 w0 g 0 n d' os).mono fun x _ hx=>by subst hx;rfl⟩
  ·rw[List.pairwise_iff_getElem];intro i j hi hj ag;have h4:=aj i j (Nat.zero_le _) ag (by simp at hj⊢;omega);simp only[Array.length_toList] at hi hj;rw[getElem!_pos d' i hi,getElem!_pos d' j hj] at h4;simpa[ltOf] using h4
  ·exact zMh (holdsK_sortWorldK_c zQw 2 w0 g 0 d.toArray d' n os hH ab (by simpa using ac)) ac af hl
end Go.Proofs
namespace Go.Proofs
open Go Go.Eng Go.Sort
set_option maxRecDepth 100000
def cfS (x y:VSp):Int:=orL [zCI x.s.1 y.s.1,zCI x.s.2 y.s.2]
theorem zZM (w0:World) (x y:VSp):Ret prog 177 #[.agg #[.int .i64 x.s.1,.int .i64 x.s.2],.agg #[.int .i64 y.s.1,.int .i64 y.s.2]] w0 fun v w=>v=.int .i64 (cfS x y)∧Ext w0 w:=by
 refine qR func177 rfl ntmps177 rfl (fun E=>(zAA (zBL (v:=(.agg #[(I6 x.s.1),(I6 x.s.2)])) (c:=#[(I6 x.s.1),(I6 x.s.2)]) qD rfl rfl ?_)));intro b1 w1 N1;have F1:=N1.ge E;replace E:=E.ext N1.ext;have B1:=N1.blk;refine zBL (v:=(.agg #[(I6 y.s.1),(I6 y.s.2)])) (c:=#[(I6 y.s.1),(I6 y.s.2)]) qD rfl rfl ?_;intro b2 w2 N2;have F2:=N2.ge E;have O2_b1:=N2.lt B1;replace B1:=N2.keep B1;replace E:=E.ext N2.ext;have B2:=N2.blk;refine qA _ rfl (zAB (zAK ?_));obtain ⟨ah,aa⟩:∃Fs:List Fact,Fs=[.eq (P6 b1 0),.eq (I6 x.s.1),.eq (P6 b2 0),.eq (I6 y.s.1),.eq (I6 (zCI x.s.1 y.s.1)),.eq (P6 b1 1),.eq (I6 x.s.2),.eq (P6 b2 1),.eq (I6 y.s.2),.eq (I6 (zCI x.s.2 y.s.2)),.gen (zJa (zCI x.s.1 y.s.1) (zCI x.s.2 y.s.2)) (zFd _ _),.eq (I6 (cfS x y)),.eq (I6 (cfS x y))]:=⟨_,rfl⟩;refine zEA [5,6,7,8,9,10,11,12,13,14,15,16,4] [[],[0],[],[2],[1,3],[],[5],[],[7],[4,6,8],[4,9],[9,10],[0,1,2,3,4,5,6,7,8,9,10,11]] ah aa mixed qK qK ?_ ?_
 ·intro wd X0;refine DagSteps.cons (fun s' w' X U H=>Or.inl ⟨?_,?_⟩) ?_
  ·exact zAD rfl
  ·exact zAJ (zAQ (U 2 rfl) underlying103 rfl zAv rfl) (Ext.refl _) rfl
  refine DagSteps.cons (fun s' w' X U H=>Or.inl ⟨?_,?_⟩) ?_
  ·exact zAD rfl
  ·have e5:s' 5=(.pointer (some ⟨b1,0,none⟩)):=H 0 rfl 5 (.eq (.pointer (some ⟨b1,0,none⟩))) rfl (by rw[aa];rfl);exact zAJ (zAL e5 zAf (((X0.trans X).keep B1).cell rfl)) (Ext.refl _) rfl
  refine DagSteps.cons (fun s' w' X U H=>Or.inl ⟨?_,?_⟩) ?_
  ·exact zAD rfl
  ·exact zAJ (zAQ (U 3 rfl) underlying103 rfl zAv rfl) (Ext.refl _) rfl
  refine DagSteps.cons (fun s' w' X U H=>Or.inl ⟨?_,?_⟩) ?_
  ·exact zAD rfl
  ·have e7:s' 7=(.pointer (some ⟨b2,0,none⟩)):=H 2 rfl 7 (.eq (.pointer (some ⟨b2,0,none⟩))) rfl (by rw[aa];rfl);exact zAJ (zAL e7 zAf (((X0.trans X).keep B2).cell rfl)) (Ext.refl _) rfl
  refine DagSteps.cons (fun s' w' X U H=>Or.inl ⟨?_,?_⟩) ?_
  ·exact zAD rfl
  ·have e6:s' 6=(.int .i64 x.s.1):=H 1 rfl 6 (.eq (.int .i64 x.s.1)) rfl (by rw[aa];rfl);have e8:s' 8=(.int .i64 y.s.1):=H 3 rfl 8 (.eq (.int .i64 y.s.1)) rfl (by rw[aa];rfl);exact zAs (zAV func158 zMX zMs (zHG e6 e8)) (zDx _ _ _)
  refine DagSteps.cons (fun s' w' X U H=>Or.inl ⟨?_,?_⟩) ?_
  ·exact zAD rfl
  ·exact zAJ (zAQ (U 2 rfl) underlying103 rfl zAv rfl) (Ext.refl _) rfl
  refine DagSteps.cons (fun s' w' X U H=>Or.inl ⟨?_,?_⟩) ?_
  ·exact zAD rfl
  ·have ad:s' 10=(.pointer (some ⟨b1,1,none⟩)):=H 5 rfl 10 (.eq (.pointer (some ⟨b1,1,none⟩))) rfl (by rw[aa];rfl);exact zAJ (zAL ad zAf (((X0.trans X).keep B1).cell rfl)) (Ext.refl _) rfl
  refine DagSteps.cons (fun s' w' X U H=>Or.inl ⟨?_,?_⟩) ?_
  ·exact zAD rfl
  ·exact zAJ (zAQ (U 3 rfl) underlying103 rfl zAv rfl) (Ext.refl _) rfl
  refine DagSteps.cons (fun s' w' X U H=>Or.inl ⟨?_,?_⟩) ?_
  ·exact zAD rfl
  ·have ai:s' 12=(.pointer (some ⟨b2,1,none⟩)):=H 7 rfl 12 (.eq (.pointer (some ⟨b2,1,none⟩))) rfl (by rw[aa];rfl);exact zAJ (zAL ai zAf (((X0.trans X).keep B2).cell rfl)) (Ext.refl _) rfl
  refine DagSteps.cons (fun s' w' X U H=>Or.inl ⟨?_,?_⟩) ?_
  ·exact zAD rfl
  ·have aj:s' 11=(.int .i64 x.s.2):=H 6 rfl 11 (.eq (.int .i64 x.s.2)) rfl (by rw[aa];rfl);have af:s' 13=(.int .i64 y.s.2):=H 8 rfl 13 (.eq (.int .i64 y.s.2)) rfl (by rw[aa];rfl);exact zAs (zAV func158 zMX zMs (zHG aj af)) (zDx _ _ _)
  refine DagSteps.cons (fun s' w' X U H=>Or.inl ⟨?_,?_⟩) ?_
  ·exact zAD rfl
  ·have e9:s' 9=(.int .i64 (zCI x.s.1 y.s.1)):=H 4 rfl 9 (.eq (.int .i64 (zCI x.s.1 y.s.1))) rfl (by rw[aa];rfl);have ae:s' 14=(.int .i64 (zCI x.s.2 y.s.2)):=H 9 rfl 14 (.eq (.int .i64 (zCI x.s.2 y.s.2))) rfl (by rw[aa];rfl);exact zJt e9 ae
  refine DagSteps.cons (fun s' w' X U H=>Or.inl ⟨?_,?_⟩) ?_
  ·exact zAD rfl
  ·obtain ⟨b15,ab,ag⟩:=H 10 rfl 15 (.gen (zJa (zCI x.s.1 y.s.1) (zCI x.s.2 y.s.2)) (zFd _ _)) rfl (by rw[aa];rfl);exact zAs (zAV func206 zUx zVj (zOj ab)) (zUW _ _ _ (ab▸ag))
  refine DagSteps.cons (fun s' w' X U H=>Or.inl ⟨?_,?_⟩) ?_
  ·exact zAD rfl
  ·have ac:s' 16=(.int .i64 (cfS x y)):=H 11 rfl 16 (.eq (.int .i64 (cfS x y))) rfl (by rw[aa];rfl);exact zAJ (zEI ac) (Ext.refl _) rfl
  exact DagSteps.nil
 ·intro s' w3 X3 U H;obtain ⟨j3,rfl⟩:=zBA.out (σ:=s') (l:=[(4,(.int .i64 (cfS x y)))]) ⟨(show s' 4=(.int .i64 (cfS x y)) from H 12 4 (.eq (.int .i64 (cfS x y))) rfl (by rw[aa];rfl)),trivial⟩;clear U H;replace B1:=X3.keep B1;replace B2:=X3.keep B2;replace E:=E.ext X3;refine zAC (zAR (zAW results177 (v:=(.int .i64 (cfS x y))) rfl ?_));exact ⟨rfl,E⟩
theorem zTv (x y:VSp):cfS x y<0↔x.s.1<y.s.1∨x.s.1=y.s.1∧x.s.2<y.s.2:=by
 unfold cfS orL orL orL zCI
 (repeat' split)<;>omega
theorem swoS:SWO (ltOf cfS):=by
 refine ⟨fun x=>?_,fun x y z=>?_,fun x y z=>?_⟩<;>simp only[ltOf,decide_eq_true_eq,decide_eq_false_iff_not,zTv]<;>omega
theorem zUU (w0:World) (base:Nat) (v:Value) (l:List Sp) (h:zPR w0 base v l) (hl:l.length≤8796093022208) (hok:∀s∈l,vSp s) :
  Ret prog 156 #[v,.func (.func 177) #[] #[]] w0 fun r w=>r=.tuple #[]∧(∃ls:List Sp,ls.Perm l∧ls.Pairwise (fun s t=>s.1≤t.1)∧zBQ w v ls)∧Chg (fun x=>v.ownBlock=some x) w0 w:=
 (zUP cfS swoS func177 zWf zXP zZM w0 base v l h hl hok).mono fun r w ⟨h1,⟨l',h2,h3,h4⟩,h5⟩=>
  ⟨h1,⟨_,h2,List.pairwise_map.2 (h3.imp fun {s t} hst=>by rw[zTv] at hst;omega),h4⟩,h5⟩
theorem zGR {w w':World} {base e size n cap g i:Nat} {xs:List Value} {cur:Array Value} {v:Value} (h:w.ownsRow base e size (.slice (some ⟨g,0,none⟩) n cap) n xs) (hB:Blk w g cur e) (hi:i<n*size) (hB':Blk w' g (cur.setIfInBounds i v) e):w'.ownsRow base e size (.slice (some ⟨g,0,none⟩) n cap) n (xs.set i v):=by
 rcases h.2 with ⟨h1,_⟩|⟨g',ac,ag,hv,ab,hg,ad,ae,af,aa⟩
 ·simp at h1
 ·simp only[Value.slice.injEq,Option.some.injEq,Addr.mk.injEq,and_true] at hv;obtain ⟨rfl,_,rfl⟩:=hv;unfold Blk at hB hB';rw[hB] at hg;simp only[Option.some.injEq,Obj.cells.injEq,and_true] at hg;obtain ⟨rfl,_⟩:=hg;refine ⟨by simpa using h.1,.inr ⟨g,cap,_,rfl,ab,hB',ad,ae,by simpa using af,?_⟩⟩;rw[←aa,Array.toList_setIfInBounds,List.take_set]
theorem zIP {w:World} {base e size n cap g:Nat} {xs:List Value} (h:w.ownsRow base e size (.slice (some ⟨g,0,none⟩) n cap) n xs):∃cur,Blk w g cur e∧n*size≤cur.size:=by
 rcases h.2 with ⟨h1,_⟩|⟨g',ac,aa,hv,hbg,hg,ad,hcm,ae,ab⟩
 ·simp at h1
 ·simp only[Value.slice.injEq,Option.some.injEq,Addr.mk.injEq,and_true] at hv;obtain ⟨rfl,_,rfl⟩:=hv;exact ⟨aa,hg,by rw[ae];exact Nat.mul_le_mul_right _ ad⟩
theorem zIB (o:List Sp) (c:Sp):((o++[c]).map zBh).flatten[o.length*2+1]?=some (.int .i64 c.2):=by
 rw[zEW,List.getElem?_append_right (by rw[zEV];omega),zEV];rw[show o.length*2+1 - o.length*2=1 from qO];rfl
theorem zNF (o:List Sp) (c:Sp) (x:Int):((o++[c]).map zBh).flatten.set (o.length*2+1) (.int .i64 x)=((o++[(c.1,x)]).map zBh).flatten:=by
 rw[zEW,zEW,List.set_append,if_neg (by rw[zEV];omega),zEV,show o.length*2+1 - o.length*2=1 from qO];rfl
theorem zTm (w0:World) (v:Value) (l:List Sp) (h:zBQ w0 v l) (hl:l.length≤8796093022208) (hok:∀s∈l,vSp s) :
  Ret prog 149 #[v] w0 fun r w=>(∃out,zFr l out∧zPR w w0.heap.size r out)∧Ext w0 w:=by
 refine qR func149 rfl ntmps149 rfl (fun E=>(zAA (qA _ rfl (zAB (zAA (qM v rfl (qE rfl (zAV func114 zVA zVm rfl) (zOD _ v l h qO) ?_)))))));rintro _ w9 ⟨⟨⟨a9,c9,rfl⟩,O9⟩,X9⟩;replace E:=E.ext X9;refine qA _ rfl (zAB (zAA (qM _ rfl (qE rfl (zAV func156 zYi zZo rfl) (zUU _ w0.heap.size (.slice a9 l.length c9) l ⟨⟨_,_,rfl⟩,O9⟩ qO hok) ?_))));rintro _ aj ⟨rfl,⟨ls,ag,al,a2⟩,a3⟩;replace E:=E.step a3 (fun x hx hm=>absurd (O9.lt x hm).1 qO);have aw:ls.length=l.length:=ag.length_eq;have ao:∀s∈ls,vSp s:=fun s hs=>hok s (ag.mem_iff.1 hs);have ay:w0.heap.size≤aj.heap.size:=E.size;obtain ⟨base,au⟩:∃base,base=aj.heap.size:=⟨_,rfl⟩;have E2:Chg zAo aj aj:=Chg.refl _ _;refine zAB (zAA (qA _ rfl (zAB (zAK (zAA (qM _ rfl (qV (zAM underlying22 rfl) (qM _ rfl (zAB (zAT (zAq (fun nn_ σ W1=>∃(k:Nat) (la:Option Addr) (lc:Nat) (m:Nat) (ou:List Sp),(∃jj_,σ=zCH jj_ [(11,(.slice a9 l.length c9)),(12,(I6 (l.length:Int))),(13,(I6 (k:Int))),(3,(.slice la m lc))])∧Chg zAo w0 W1∧Chg zAo aj W1∧(k≤l.length)∧(m=ou.length)∧(m≤k)∧(∀s∈ou,0≤s.2∧s.2≤1114111)∧((ls.drop k).foldl zMe ou=zOl ls)∧(W1.ownsRow base TSp 2 (.slice la m lc) m (ou.map zBh).flatten)∧(base≤W1.heap.size)∧nn_=l.length - k) (n:=l.length - 0) ?_ ?_)))))))))))
 ·exact ⟨0,none,0,0,[],zBA.out ⟨rfl,rfl,rfl,rfl,trivial⟩,E,E2,Nat.zero_le _,rfl,Nat.le_refl _,(fun s hs=>absurd hs List.not_mem_nil),rfl,World.ownsRow_nil _ _ _ _,qO,rfl⟩
 ·clear E E2;rintro _ _ W1 ⟨k,la,lc,m,ou,⟨j1,rfl⟩,E,E2,hk,hm,hlo,ap,ai,aa,ac,rfl⟩;refine zAA (qV (zBH rfl rfl) (zAB (zAK (qC rfl (fun a8=>?_) (fun a8=>?_)))))
  ·obtain ⟨s,hs⟩:=zAU (l:=ls) (i:=k) qO;have hv:=ao s (List.mem_of_getElem? hs);unfold vSp at hv;obtain ⟨b,o,av,az⟩:=zBN a2 qO;subst av;rw[zBU hs,List.foldl_cons] at ai;have af:=aa;refine zAP (zAC (zAK (zAT (zAA (qV (zAH (b:=b) (o:=o) (len:=l.length) (cap:=c9) (i:=k) (o':=o+k*2) rfl rfl rfl underlying22 zBB qO qO) (qV (zAG rfl zCi zBB rfl ((az k s hs).ext E2)) (zAg (v:=(.agg #[(I6 s.1),(I6 s.2)])) (c:=#[(I6 s.1),(I6 s.2)]) (n:=2) qD zCb rfl zBB rfl rfl rfl qS ?_)))))));intro bq wq Nq;have Fq:=Nq.ge E;have Fq_E2:=Nq.ge E2;replace aa:=zAn aa Nq.ext;replace ac:=Nat.le_trans ac Nq.ext.size;replace E:=E.ext Nq.ext;have Bq:=Nq.blk;replace E2:=E2.ext Nq.ext;refine zAB ?_;rcases Bool.eq_false_or_eq_true (decide ((0:Int)<((m:Nat):Int))) with ab|ab
   ·have ae:=ab;replace ae:=of_decide_eq_true ae;obtain ⟨oo,cc,a7⟩:∃oo cc,ou=oo++[cc]:=by rcases zFX ou with rfl|h1;simp at hm;omega;exact h1
    subst a7;have hvc:=ap cc qP;have ar:m=oo.length+1:=by simpa using hm
    obtain ⟨g,rfl,hgb,hgc⟩:=zCn aa qO;have hgn:g≠bq:=fun h1=>by have:=(af.lt g rfl).2;have:=Nq.eq;omega
    refine zAA (qM _ rfl (qV (zAM underlying22 rfl) (qA _ rfl (zAB (zCs 13 mixed qK ?_)))));intro w3 X3 _;replace Bq:=X3.keep Bq;replace aa:=zAn aa X3;replace ac:=Nat.le_trans ac X3.size;replace E:=E.ext X3;replace E2:=E2.ext X3;refine qT (zAi rfl) (qT (zCN rfl rfl) (qT (zAi rfl) (zBp (oj:=_) rfl rfl qD (cbk ab) (qT (zAQ rfl underlying103 rfl zAv rfl) (zBp (oj:=_) rfl rfl qD (cbk ab) (qT (zAL rfl zAf (Bq.cell rfl)) (zBp (oj:=_) rfl rfl qD (cbk ab) (qT (zAi rfl) (zBp (oj:=_) rfl rfl qD (cbk ab) (qT (zAi rfl) (zBp (oj:=_) rfl rfl qD (cbk ab) (qT (zDS rfl rfl (zBV qO)) (zBp (oj:=_) rfl rfl qD (cbk ab) (qT (zAH (b:=g) (o:=0) (len:=m) (cap:=lc) (i:=m - 1) (o':=0+(m - 1)*2) rfl rfl qO underlying22 zBB qO qO) ?_))))))))))))));refine zBp (oj:=_) rfl rfl qD (cbk ab) (qT (zAQ rfl underlying103 rfl zAv rfl) (zBp (oj:=_) rfl rfl qD (cbk ab) (qT (zAL (v:=(I6 cc.2)) rfl zAf ((by have h1:=(aa.cells (g:=g) rfl) (oo.length*2+1) _ (zIB oo cc);rwa [Addr.add_lit,show 0+(oo.length*2+1)=0+(m - 1)*2+1 from qO] at h1))) (zBp (oj:=_) rfl rfl qD (cbk ab) (qT (zAy rfl rfl (zBV qO)) (zBp (oj:=_) rfl rfl qD (cbk ab) (qT (zEd rfl rfl) (zEO (qV (zAd (v:=(.bool (decide ((s.1:Int)≤cc.2+1)))) rfl (by rw[ab];rfl)) (zAB (qC rfl (fun hj=>?_) (fun hj=>?_))))))))))))
    ·obtain ⟨a1,hB,hcs⟩:=zIP aa;refine zRc 14 mixed qK ?_;intro w5 X5 _;replace Bq:=X5.keep Bq;replace hB:=X5.keep hB;replace aa:=zAn aa X5;replace ac:=Nat.le_trans ac X5.size;replace E:=E.ext X5;replace E2:=E2.ext X5;refine qT (zAi rfl) (qT (zAi rfl) (qT (zDS rfl rfl (zBV qO)) (qT (zAi rfl) (qT (zAi rfl) (qT (zDS rfl rfl (zBV qO)) (qT (zAH (b:=g) (o:=0) (len:=m) (cap:=lc) (i:=m - 1) (o':=0+(m - 1)*2) rfl rfl qO underlying22 zBB qO qO) (qT (zAQ rfl underlying103 rfl zAv rfl) (qT (zAL (v:=(I6 cc.2)) rfl zAf ((by have h1:=(aa.cells (g:=g) rfl) (oo.length*2+1) _ (zIB oo cc);rwa [Addr.add_lit,show 0+(oo.length*2+1)=0+(m - 1)*2+1 from qO] at h1))) (qT (zAQ rfl underlying103 rfl zAv rfl) (qT (zAL rfl zAf (Bq.cell rfl)) (qT (zPz rfl rfl rfl) (qT (zAH (b:=g) (o:=0) (len:=m) (cap:=lc) (i:=m - 1) (o':=0+(m - 1)*2) rfl rfl qO underlying22 zBB qO qO) (qT (zAQ rfl underlying103 rfl zAv rfl) (zEO ?_))))))))))))));have a5:=hB;refine zBr (b:=g) (o:=0+(m - 1)*2+1) (c':=a1.setIfInBounds (0+(m - 1)*2+1) (I6 (max cc.2 s.2))) (v:=(I6 (max cc.2 s.2))) rfl rfl rfl zAv hB qO (rfl) ?_;intro w6 S6;replace Bq:=S6.keep qO Bq;replace E:=S6.step E qQ;replace E2:=S6.step E2 (Or.inl qO);replace hB:=S6.blk;have ad:=zGR aa a5 (i:=0+(m - 1)*2+1) qO hB;refine zAB (zAS (zAC (zAN (qV (zAy rfl rfl (zBV qO)) (qM _ rfl (zAB (zAC ?_)))))));exact ⟨l.length - (k+1),qO,k+1,some ⟨g,0,none⟩,lc,m,oo++[(cc.1,max cc.2 s.2)],zBA.out ⟨rfl,rfl,rfl,rfl,trivial⟩,E,E2,qO,(by simp[ar]),qO,(fun u hu=>by rcases List.mem_append.1 hu with hu|hu;exact ap u (by simp[hu]);rw[List.mem_singleton] at hu;subst hu;simp only;omega),(by rw[←ai,zHK,if_pos hj]),(by rw[show 0+(m - 1)*2+1=oo.length*2+1 from qO,zNF] at ad;exact ad),(by have:=ad.lt g rfl;omega),rfl⟩
    ·refine zAN (qM _ rfl (qV (zAG (vs:=[(I6 s.1),(I6 s.2)]) rfl zCi zBB rfl (Bq.cells rfl)) (zAh (ps:=[(0,(.agg #[(I6 s.1),(I6 s.2)]))]) (c:=#[(I6 s.1),(I6 s.2)]) qD rfl underlying22 zBB zCb qD qD qK ?_)));intro br wr Nr;have Fr:=Nr.ge E;have Fr_E2:=Nr.ge E2;have Or_bq:=Nr.lt Bq;replace Bq:=Nr.keep Bq;replace aa:=zAn aa Nr.ext;replace ac:=Nat.le_trans ac Nr.ext.size;replace E:=E.ext Nr.ext;have Br:=Nr.blk;replace E2:=E2.ext Nr.ext;refine zBC (base:=base) (n:=m) (m:=1) (xs:=((oo++[cc]).map zBh).flatten) (news:=[(I6 s.1),(I6 s.2)]) (size:=2) (bytes:=16) (v:=(.slice (some ⟨g,0,none⟩) m lc)) qD underlying22 zBB zIl zCb rfl qD rfl aa rfl (rfl) (Br.cells rfl) qS (by unfold maxLen;omega) qO (ac) ?_;intro v9 ax ak ah a6;replace Bq:=ah.keep (fun h=>by have:=(af.lt _ h).2;have:=Nq.eq;omega) Bq;replace E:=E.step ah (fun x hx h=>absurd (aa.lt x h).1 qO);replace E2:=E2.step ah (fun x hx h=>absurd (aa.lt x h).1 qO);obtain ⟨am,an,rfl⟩:=zAw ak;refine qA _ rfl (zAB (zAS (zAC (zAN (qV (zAy rfl rfl (zBV qO)) (qM _ rfl (zAB (zAC ?_))))))));exact ⟨l.length - (k+1),qO,k+1,am,an,m+1,oo++[cc]++[s],zBA.out ⟨rfl,rfl,rfl,rfl,trivial⟩,E,E2,qO,(by simp[ar]),qO,(fun u hu=>by rcases List.mem_append.1 hu with hu|hu;exact ap u hu;rw[List.mem_singleton] at hu;subst hu;omega),(by rw[←ai,zHK,if_neg hj]),(by rw[zEW];exact ak),Nat.le_trans ac ah.size,rfl⟩
   ·have ae:=ab;replace ae:=of_decide_eq_false ae;have a0:m=0:=qO
    have aq:ou=[]:=List.eq_nil_of_length_eq_zero qO;subst aq;refine zAA (qM _ rfl (qV (zAM underlying22 rfl) (qA _ rfl (zAB (zCs 13 mixed qK ?_)))));intro w7 X7 _;replace Bq:=X7.keep Bq;replace aa:=zAn aa X7;replace ac:=Nat.le_trans ac X7.size;replace E:=E.ext X7;replace E2:=E2.ext X7;refine qT (zAi rfl) (qT (zCN rfl rfl) (qT (zAi rfl) (zBx (oj:=_) rfl rfl qD (v:=.bool false) (cbk ab) (Or.inl rfl) (zBx (oj:=_) rfl rfl qD (v:=.bool false) (cbk ab) (Or.inl rfl) (zBx (oj:=_) rfl rfl qD (v:=.bool false) (cbk ab) (Or.inl rfl) (zBx (oj:=_) rfl rfl qD (v:=.bool false) (cbk ab) (Or.inl rfl) (zBx (oj:=_) rfl rfl qD (v:=.bool false) (cbk ab) (Or.inl rfl) (zBx (oj:=_) rfl rfl qD (v:=.bool false) (cbk ab) (Or.inl rfl) (zBx (oj:=_) rfl rfl qD (v:=.bool false) (cbk ab) (Or.inl rfl) (zBx (oj:=_) rfl rfl qD (v:=.bool false) (cbk ab) (Or.inl rfl) (zBx (oj:=_) rfl rfl qD (v:=.bool false) (cbk ab) (Or.inl rfl) (zBx (oj:=_) rfl rfl qD (v:=.bool false) (cbk ab) (Or.inl rfl) (zEO (qV (zAd (v:=(.bool false)) rfl (by rw[ab];rfl)) ?_))))))))))))));refine zAB (zAb rfl (zAN (qM _ rfl (qV (zAG (vs:=[(I6 s.1),(I6 s.2)]) rfl zCi zBB rfl (Bq.cells rfl)) (zAh (ps:=[(0,(.agg #[(I6 s.1),(I6 s.2)]))]) (c:=#[(I6 s.1),(I6 s.2)]) qD rfl underlying22 zBB zCb qD qD qK ?_)))));intro b8 w8 N8;have F8:=N8.ge E;have F8_E2:=N8.ge E2;have O8_bq:=N8.lt Bq;replace Bq:=N8.keep Bq;replace aa:=zAn aa N8.ext;replace ac:=Nat.le_trans ac N8.ext.size;replace E:=E.ext N8.ext;have B8:=N8.blk;replace E2:=E2.ext N8.ext;refine zBC (base:=base) (n:=m) (m:=1) (xs:=[]) (news:=[(I6 s.1),(I6 s.2)]) (size:=2) (bytes:=16) (v:=(.slice la m lc)) qD underlying22 zBB zIl zCb rfl qD rfl aa rfl (rfl) (B8.cells rfl) qS (by unfold maxLen;omega) qO (ac) ?_;intro v9 ax ak ah a6;replace Bq:=ah.keep (fun h=>by have:=(af.lt _ h).2;have:=Nq.eq;omega) Bq;replace E:=E.step ah (fun x hx h=>absurd (aa.lt x h).1 qO);replace E2:=E2.step ah (fun x hx h=>absurd (aa.lt x h).1 qO);obtain ⟨am,an,rfl⟩:=zAw ak;refine qA _ rfl (zAB (zAS (zAC (zAN (qV (zAy rfl rfl (zBV qO)) (qM _ rfl (zAB (zAC ?_))))))));exact ⟨l.length - (k+1),qO,k+1,am,an,m+1,[s],zBA.out ⟨rfl,rfl,rfl,rfl,trivial⟩,E,E2,qO,(by simp[a0]),qO,(fun u hu=>by rw[List.mem_singleton] at hu;subst hu;omega),(by rw[←ai,zLX]),(by simpa[zBh] using ak),Nat.le_trans ac ah.size,rfl⟩
  ·have a4:ls.drop k=[]:=List.drop_eq_nil_of_le qO;rw[a4,List.foldl_nil] at ai;refine zAp (zAX (zAX (zAj (zAC (zAA (qM _ rfl (qA _ rfl (zAB (zAR (zAW results149 (v:=(.slice la m lc)) rfl ?_))))))))));subst ai;subst hm;exact ⟨⟨zOl ls,⟨ls,ag,al,rfl⟩,⟨la,lc,rfl⟩,zKK aa qO⟩,E⟩
theorem zHc:∀(l:List Sp) (p:Option Int),zDH p l=0→Canon l∧(∀h,p=some h→∀s∈l,h+2≤s.1)
  | [],_,_=>⟨Canon.nil,fun _ _ _ h=>absurd h List.not_mem_nil⟩
  | s::r,p,h0=>by
    rw[zCC] at h0;by_cases hv:zDd s=false
    · rw[if_pos hv] at h0;cases h0
    rw[if_neg hv] at h0;have hg:zDH (some s.2) r=0∧∀h,p=some h→h+2≤s.1:=by
      cases p with
      | none=>exact ⟨by simpa using h0,fun _ he=>by cases he⟩
      | some q=>
        by_cases hq:s.1<q+2
        · simp[hq] at h0
        · simp[hq] at h0;exact ⟨h0,fun h he=>by cases he;omega⟩
    obtain ⟨h1,h2⟩:=zHc r (some s.2) hg.1;have aa:vSp s:=by unfold vSp;unfold zDd at hv;simp at hv;omega
    have h3:=h2 s.2 rfl;refine ⟨Canon.cons aa h3 h1,fun h he t ht=>?_⟩;have h4:=hg.2 h he;rcases List.mem_cons.1 ht with rfl|ht
    · omega
    · have:=h3 t ht;unfold vSp at aa;omega
theorem zHd {l:List Sp} (h:zBR l=0):Canon l∧l.length≤16:=by
 unfold zBR at h;split at h
 ·cases h
 ·exact ⟨(zHc l none h).1,qO⟩
def zEF (out:List Sp) (f:Int→Bool):Prop:=Canon out∧∀r,0≤r→r≤1114111→inS out r=f r
theorem zEF.eq {a b:List Sp} {f g:Int→Bool} (ha:zEF a f) (hb:zEF b g) (h:∀r,0≤r→r≤1114111→f r=g r):a=b:=
 zRT ha.1 hb.1 fun r h0 h1=>by rw[ha.2 r h0 h1,hb.2 r h0 h1,h r h0 h1]
theorem zEF.join {l out:List Sp} (h:zFr l out) (hv:∀s∈l,vSp s):zEF out (inS l)∧out.length≤l.length:=
 let ⟨h1,h2,h3⟩:=h.all hv
 ⟨⟨h1,fun r _ _=>h2 r⟩,h3⟩
end Go.Proofs
namespace Go.Eng
open Go
section
variable {κ ν : Type} [DecidableEq κ]
def zFp:List (κ×ν)→κ→Option ν
  | [],_=>none
  | p::r,k=>if p.1=k then some p.2 else zFp r k
def zEm:List (κ×ν)→κ→ν→List (κ×ν)
  | [],k,v=>[(k,v)]
  | p::r,k,v=>if p.1=k then (k,v)::r else p::zEm r k v
def zJB (eV:ν→Value):List (κ×ν)→κ→Nat→Option (Nat×Value)
  | [],_,_=>none
  | p::r,k,i=>if p.1=k then some (i,eV p.2) else zJB eV r k (i+1)
theorem zHN {eV:ν→Value}:∀{es:List (κ×ν)} {k:κ} {i:Nat},zFp es k=none→zJB eV es k i=none
  | [],_,_,_=>rfl
  | p::r,k,i,h=>by
    unfold zFp at h;unfold zJB;split at h
    · cases h
    · rename_i hne;rw[if_neg hne];exact zHN h
theorem zEg {eV:ν→Value}:∀{es:List (κ×ν)} {k:κ} {i:Nat} {v:ν},zFp es k=some v→∃j,zJB eV es k i=some (i+j,eV v)∧es[j]?=some (k,v)∧∀u,zEm es k u=es.set j (k,u)
  | [],_,_,_,h=>by cases h
  | p::r,k,i,v,h=>by
    unfold zFp at h;unfold zJB;split at h
    · rename_i he
      cases h;rw[if_pos he];exact ⟨0,rfl,by obtain ⟨a,b⟩:=p;simp at he;subst he;rfl,fun u=>by unfold zEm;rw[if_pos he];rfl⟩
    · rename_i hne
      rw[if_neg hne];obtain ⟨j,h1,h2,h3⟩:=zEg (eV:=eV) (i:=i+1) h;exact ⟨j+1,by rw[h1];congr 2;omega,by simpa using h2,fun u=>by unfold zEm;rw[if_neg hne,h3 u];rfl⟩
theorem zFH:∀{es:List (κ×ν)} {k:κ} (v:ν),zFp es k=none→zEm es k v=es++[(k,v)]
  | [],_,_,_=>rfl
  | p::r,k,v,h=>by
    unfold zFp at h;unfold zEm;split at h
    · cases h
    · rename_i hne;rw[if_neg hne,zFH v h];rfl
theorem zSh (es:List (κ×ν)) (k:κ) (v:ν) (q:κ):zFp (zEm es k v) q=if k=q then some v else zFp es q:=by
  induction es with
  | nil=>unfold zEm zFp zFp;rfl
  | cons p r ih=>
    unfold zEm;split
    · rename_i he
      unfold zFp;by_cases h:k=q
      · rw[if_pos h,if_pos h]
      · rw[if_neg h,if_neg h,if_neg (by rw[he];exact h)]
    · rename_i hne
      unfold zFp;rw[ih];by_cases h:k=q
      · rw[if_pos h,if_neg (by rw[←h];exact hne),if_pos h]
      · rw[if_neg h,if_neg h]
theorem zKP {es:List (κ×ν)} {k:κ} {v:ν} (h:zFp es k=some v):(k,v)∈es:=by
 obtain ⟨j,_,h2,_⟩:=zEg (eV:=fun _=>undef) (i:=0) h;exact List.mem_of_getElem? h2
theorem zEp {es:List (κ×ν)} {k:κ}:(zFp es k).isSome=true↔k∈es.map (·.1):=by
  induction es with
  | nil=>simp[zFp]
  | cons p r ih=>
    unfold zFp;by_cases h:p.1=k
    · simp[h]
    · rw[if_neg h,ih];simp[Ne.symm h]
def zGs (es:List (κ×ν)):Prop:=(es.map (·.1)).Nodup
omit [DecidableEq κ] in
theorem zGs.nil:zGs ([]:List (κ×ν)):=List.nodup_nil
theorem zGs.put {es:List (κ×ν)} (h:zGs es) (k:κ) (v:ν):zGs (zEm es k v):=by
  cases hg:zFp es k with
  | none=>
    rw[zFH v hg];unfold zGs;rw[List.map_append,List.nodup_append];refine ⟨h,qP,fun a ha b hb=>?_⟩;simp at hb;subst hb;intro he;subst he;have:=zEp.2 ha;rw[hg] at this;cases this
  | some u=>
    obtain ⟨j,_,h2,h3⟩:=zEg (eV:=fun _=>undef) (i:=0) hg;rw[h3 v];unfold zGs;have:(es.set j (k,v)).map (·.1)=es.map (·.1):=by
      apply List.ext_getElem?;intro i;rw[List.getElem?_map,List.getElem?_map,List.getElem?_set];by_cases hi:j=i
      · subst hi;have aa:=zAa h2;rw[if_pos rfl,if_pos aa,h2];rfl
      · simp[hi]
    rw[this];exact h
end
/-- A map in memory: its entries in the order in which the keys came. -/
def zGD {κ ν:Type} (ek:κ→Value) (eV:ν→Value) (es:List (κ×ν)):List MapEntry:=es.zipIdx.map fun p=>{key:=ek p.1.1,val:=eV p.1.2,born:=p.2}
def zCV {κ ν:Type} (w:World) (b:Nat) (ek:κ→Value) (eV:ν→Value) (es:List (κ×ν)):Prop:=w.heap[b]?=some (.map (zGD ek eV es).toArray es.length)
theorem zKS {κ ν:Type} (ek:κ→Value) (eV:ν→Value) (es:List (κ×ν)):(zGD ek eV es).length=es.length:=by simp[zGD]
theorem zEM {κ ν:Type} {ek:κ→Value} {eV:ν→Value} {es:List (κ×ν)} {i:Nat}:(zGD ek eV es)[i]?=(es[i]?).map fun p=>{key:=ek p.1,val:=eV p.2,born:=i}:=by
 unfold zGD;rw[List.getElem?_map,List.getElem?_zipIdx];cases es[i]?<;>simp
theorem zQv {κ ν:Type} (ek:κ→Value) (eV:ν→Value) (es:List (κ×ν)):(zGD ek eV es).map (fun e=>(e.key,e.val))=es.map fun p=>(ek p.1,eV p.2):=by
 apply List.ext_getElem?;intro i;rw[List.getElem?_map,zEM,List.getElem?_map];cases es[i]?<;>rfl
section
variable {κ ν : Type} {ek : κ → Value} {eV : ν → Value} {es : List (κ × ν)} {w w' : World} {b : Nat}
theorem zCV.lt (h:zCV w b ek eV es):b<w.heap.size:=(Array.getElem?_eq_some_iff.1 h).1
theorem Chg.keepM {M:Nat→Prop} (h:Chg M w w') (hm:¬M b) (hb:zCV w b ek eV es):zCV w' b ek eV es:=(h.blk b hb.lt hm).trans hb
theorem Ext.keepM (h:Ext w w') (hb:zCV w b ek eV es):zCV w' b ek eV es:=Chg.keepM h (fun f=>f) hb
theorem New.keepM {n:Nat} {c:Array Value} {t:TypeId} (h:New w w' n c t) (hb:zCV w b ek eV es):zCV w' b ek eV es:=h.ext.keepM hb
theorem New.ltM {n:Nat} {c:Array Value} {t:TypeId} (h:New w w' n c t) (hb:zCV w b ek eV es):b<n:=by rw[h.eq];exact hb.lt
theorem Put.keepM {n:Nat} {c:Array Value} {t:TypeId} (h:Put w w' n c t) (hne:b≠n) (hb:zCV w b ek eV es):zCV w' b ek eV es:=h.chg.keepM hne hb
end
/-- A new object that is no row of cells. -/
structure NewO (w w':World) (b:Nat) (o:Obj):Prop where
 at':w'.heap[b]?=some o
 ext:Ext w w'
 eq:b=w.heap.size
 size:w'.heap.size=w.heap.size+1
theorem NewO.mk' (w:World) (o:Obj):NewO w {w with heap:=w.heap.push o} w.heap.size o:=
 ⟨qP,⟨rfl,rfl,rfl,Nat.le_refl _,qP,fun x hx _=>by simp[Array.getElem?_push,Nat.ne_of_lt hx]⟩,rfl,qP⟩
section
variable {w w' : World} {b : Nat} {o : Obj}
theorem NewO.ge (h:NewO w w' b o) {w0:World} {M:Nat→Prop} (e:Chg M w0 w):w0.heap.size≤b:=by rw[h.eq];exact e.size
variable {κ ν : Type} {ek : κ → Value} {eV : ν → Value} {es : List (κ × ν)} {b' : Nat}
theorem NewO.keepM (h:NewO w w' b o) (hb:zCV w b' ek eV es):zCV w' b' ek eV es:=h.ext.keepM hb
theorem NewO.ltM (h:NewO w w' b o) (hb:zCV w b' ek eV es):b'<b:=by rw[h.eq];exact hb.lt
end
/-- An object that is no row of cells is replaced. -/
structure PutO (w w':World) (b:Nat) (o:Obj):Prop where
 at':w'.heap[b]?=some o
 chg:Chg (fun x=>x=b) w w'
 size:w'.heap.size=w.heap.size
theorem PutO.mk' {w:World} {b:Nat} (o:Obj) (hb:b<w.heap.size):PutO w {w with heap:=w.heap.setIfInBounds b o} b o:=
 ⟨by simp[hb],⟨rfl,rfl,rfl,Nat.le_refl _,qP,fun x hx hne=>by simp[Ne.symm hne]⟩,qP⟩
section
variable {w w' : World} {b : Nat} {o : Obj}
theorem PutO.keep (h:PutO w w' b o) {b':Nat} {c':Array Value} {t':TypeId} (hne:b'≠b) (hb:Blk w b' c' t'):Blk w' b' c' t':=h.chg.keep hne hb
theorem PutO.step (h:PutO w w' b o) {w0:World} {M:Nat→Prop} (e:Chg M w0 w) (hb:w0.heap.size≤b∨M b):Chg M w0 w':=
 e.step h.chg fun x hx hm=>by subst hm;rcases hb with hb|hb;omega;exact hb
variable {κ ν : Type} {ek : κ → Value} {eV : ν → Value} {es : List (κ × ν)} {b' : Nat}
theorem PutO.keepM (h:PutO w w' b o) (hne:b'≠b) (hb:zCV w b' ek eV es):zCV w' b' ek eV es:=h.chg.keepM hne hb
end
/-- What is asked of a key's type. -/
structure KeyOk (P:Program) (kt:TypeId) {κ:Type} [DecidableEq κ] (ek:κ→Value):Prop where
 check:∀(b:Bool) (w:World) (k:κ),(Instr.checkKey b 10000 kt (ek k)).run P w=.ok () w
 find:∀(ν:Type) (w:World) (k:κ) (es:List (κ×ν)) (eV:ν→Value) (L:List MapEntry),L.map (fun e=>(e.key,e.val))=es.map (fun p=>(ek p.1,eV p.2))→(Instr.findKey kt (ek k) L).run P w=.ok (zJB eV es k 0) w
 same:∀k,Instr.sameBits 10000 (ek k) (ek k)=true
def zMd (x:Int):Value:=.int .i64 x
def zQb (s:ByteArray):Value:=.string s
def zSX (x:Bool):Value:=.bool x
theorem zQX {P:Program} {kt:TypeId} (hu:P.underlying kt=some (.int .i64)):KeyOk P kt zMd where
  check:=fun b w k=>by rw[show (10000:Nat)=9999+1 from rfl,Instr.checkKey];simp only[Sem.run_bind,run_underlying hu,Result.andThen_ok,zMd];rfl
  find:=fun ν w k es eV L hL=>by
    have key:∀(L:List MapEntry) (es:List (Int×ν)) (i:Nat),L.map (fun e=>(e.key,e.val))=es.map (fun p=>(zMd p.1,eV p.2))→Instr.findNow (.int .i64) (zMd k) L i=some (zJB eV es k i):=by
      intro L
      induction L with
      | nil=>
        intro es i h;cases es with
        | nil=>rfl
        | cons _ _=>simp at h
      | cons e L ih=>
        intro es i h;cases es with
        | nil=>simp at h
        | cons p es=>
          simp only[List.map_cons,List.cons.injEq,Prod.mk.injEq] at h;obtain ⟨⟨h1,h2⟩,h3⟩:=h;unfold Instr.findNow zJB;rw[h1];simp only[zMd,Instr.sameNow,if_true];by_cases hk:p.1=k
          · rw[if_pos hk,hk];simp[h2]
          · have:(k == p.1)=false:=by simp;exact fun h=>hk h.symm
            rw[if_neg hk,this];exact ih es (i+1) h3
    simp[Instr.findKey,run_underlying hu,key L es 0 hL]
  same:=fun k=>by unfold zMd;rw[Instr.sameBits];simp
theorem zTl {P:Program} {kt:TypeId} (hu:P.underlying kt=some .string):KeyOk P kt zQb where
  check:=fun b w k=>by rw[show (10000:Nat)=9999+1 from rfl,Instr.checkKey];simp only[Sem.run_bind,run_underlying hu,Result.andThen_ok,zQb];rfl
  find:=fun ν w k es eV L hL=>by
    have key:∀(L:List MapEntry) (es:List (ByteArray×ν)) (i:Nat),L.map (fun e=>(e.key,e.val))=es.map (fun p=>(zQb p.1,eV p.2))→Instr.findNow .string (zQb k) L i=some (zJB eV es k i):=by
      intro L
      induction L with
      | nil=>
        intro es i h;cases es with
        | nil=>rfl
        | cons _ _=>simp at h
      | cons e L ih=>
        intro es i h;cases es with
        | nil=>simp at h
        | cons p es=>
          simp only[List.map_cons,List.cons.injEq,Prod.mk.injEq] at h;obtain ⟨⟨h1,h2⟩,h3⟩:=h;unfold Instr.findNow zJB;rw[h1];simp only[zQb,Instr.sameNow];by_cases hk:p.1=k
          · rw[if_pos hk,hk,(MapKept.bytes_beq k k).2 rfl];simp[h2]
          · have:(k == p.1)=false:=by rw[Bool.eq_false_iff];exact fun h=>hk ((MapKept.bytes_beq _ _).1 h).symm
            rw[if_neg hk,this];exact ih es (i+1) h3
    simp[Instr.findKey,run_underlying hu,key L es 0 hL]
  same:=fun k=>by unfold zQb;rw[Instr.sameBits];exact (MapKept.bytes_beq k k).2 rfl
section
variable {P : Program} {N : Nat} {Q : zGJ} {σ : Env} {w : World} {K : Env → World → Prop} {ops : Array Oper} {rest : List Oper} {d : Nat} {ty : TypeId} {pos : String} {af : Array Edge} {g : Option (Nat × Bool)} {dst : Option Tmp} {t kt et : TypeId} {m x y : Operand} {b : Nat}
variable {κ ν : Type} [DecidableEq κ] {ek : κ → Value} {eV : ν → Value} {es : List (κ × ν)} {k : κ} {v : ν}
omit [DecidableEq κ] in
theorem zLB (ek:κ→Value) (eV:ν→Value) (hN:d<N) (kk:∀b w',NewO w w' b (.map #[] 0)→zCV w' b ek eV []→WpL P N ops K Q rest (upd σ d (.map (some b))) w') :
  WpL P N ops K Q (⟨some d,.makeMap t none,ty,pos,af,none⟩::rest) σ w:=by
 refine zCJ (v:=.map (some w.heap.size)) (w':={w with heap:=w.heap.push (.map #[] 0)}) rfl rfl hN ?_ (kk _ _ (NewO.mk' w _) (NewO.mk' w _).at');simp[execOp,Instr.makeMap]
theorem zGN (hu:P.underlying t=some (.map kt et)) (hk:KeyOk P kt ek) (hm:zCV w b ek eV es) :
    (Instr.mapUpdate t (.map (some b)) (ek k) (eV v)).run P w=.ok () {w with heap:=w.heap.setIfInBounds b (.map (zGD ek eV (zEm es k v)).toArray (zEm es k v).length)}:=by
  have hlt:=hm.lt;unfold zCV at hm;have hg:(getObj b).run P w=.ok (.map (zGD ek eV es).toArray es.length) w:=by simp[getObj,Sem.run,hm]
  have hs:∀o,(setObj b o).run P w=.ok () {w with heap:=w.heap.setIfInBounds b o}:=fun o=>by simp[setObj,Sem.run,hm]
  have hf:=hk.find ν w k es eV (zGD ek eV es) (zQv ek eV es);simp only[Instr.mapUpdate,Sem.run_bind,run_underlying hu,Result.andThen_ok,hg,hk.check,hf];cases hgm:zFp es k with
  | none=>
    rw[zHN hgm];simp only[hs];congr 4
    · apply Array.ext';rw[zFH v hgm];simp[zGD,List.zipIdx_append]
    · rw[zFH v hgm];simp
  | some u=>
    obtain ⟨j,h1,h2,h3⟩:=zEg (eV:=eV) (i:=0) hgm;rw[Nat.zero_add] at h1;rw[h1];have hj:=zAa h2;have he:(zGD ek eV es).toArray[j]?=some {key:=ek k,val:=eV u,born:=j}:=by rw[List.getElem?_toArray,zEM,h2];rfl
    simp only[he,Option.map_some,Option.getD_some,Instr.keyThatStays,hk.same,if_true,Sem.run_bind,Sem.run_pure,Result.andThen_ok,hs];congr 4
    · apply Array.ext';rw[h3 v];apply List.ext_getElem?;intro i;rw[List.getElem?_toArray.symm.trans (by rfl)]<;>simp only[Array.getElem?_toList,Array.getElem?_modify,List.getElem?_toArray,zEM,List.getElem?_set];by_cases hi:j=i
      · subst hi;simp[hj]
      · simp[hi]
    · rw[h3 v];simp
theorem zFv (hu:P.underlying t=some (.map kt et)) (hk:KeyOk P kt ek) (hm:zCV w b ek eV es) (h1:ev σ m=.map (some b)) (h2:ev σ x=ek k) (h3:ev σ y=eV v)
  (kk:∀w',PutO w w' b (.map (zGD ek eV (zEm es k v)).toArray (zEm es k v).length)→zCV w' b ek eV (zEm es k v)→WpL P N ops K Q rest σ w') :
  WpL P N ops K Q (⟨none,.mapUpdate t m x y,ty,pos,af,none⟩::rest) σ w:=by
 have hr:=zGN (k:=k) (v:=v) hu hk hm;refine zGp rfl rfl (w':={w with heap:=w.heap.setIfInBounds b (.map (zGD ek eV (zEm es k v)).toArray (zEm es k v).length)}) ?_ (kk _ (PutO.mk' _ hm.lt) (PutO.mk' _ hm.lt).at');simp[execOp,h1,h2,h3,hr]
theorem zRz (hu:P.underlying t=some (.map kt et)) (hk:KeyOk P kt ek) (hm:zCV w b ek eV es) (h1:ev σ m=.map (some b)) (h2:ev σ x=ek k) (h3:ev σ y=eV v)
  (kk:∀w',PutO w w' b (.map (zGD ek eV (zEm es k v)).toArray (zEm es k v).length)→zCV w' b ek eV (zEm es k v)→WpL P N ops K Q rest σ w') :
  WpL P N ops K Q (⟨none,.insert t m x y,ty,pos,af,none⟩::rest) σ w:=by
 have hr:=zGN (k:=k) (v:=v) hu hk hm;refine zGp rfl rfl (w':={w with heap:=w.heap.setIfInBounds b (.map (zGD ek eV (zEm es k v)).toArray (zEm es k v).length)}) ?_ (kk _ (PutO.mk' _ hm.lt) (PutO.mk' _ hm.lt).at');simp[execOp,h1,h2,h3,hr]
theorem zOX (c:Bool) {z:ν} (hu:P.underlying t=some (.map kt et)) (hk:KeyOk P kt ek) (hz:Zer P et (eV z)) (hm:zCV w b ek eV es) :
    (Instr.lookup t (.map (some b)) (ek k) c).run P w=.ok (if c then .tuple #[eV ((zFp es k).getD z),.bool (zFp es k).isSome] else eV ((zFp es k).getD z)) w:=by
  unfold zCV at hm;have hg:(getObj b).run P w=.ok (.map (zGD ek eV es).toArray es.length) w:=by simp[getObj,Sem.run,hm]
  have hf:=hk.find ν w k es eV (zGD ek eV es) (zQv ek eV es);simp only[Instr.lookup,Sem.run_bind,run_underlying hu,Result.andThen_ok,hg,Sem.run_pure,hk.check,hf];cases hgm:zFp es k with
  | none=>rw[zHN hgm];simp[hz.run]
  | some u=>
    obtain ⟨j,h1,_,_⟩:=zEg (eV:=eV) (i:=0) hgm;rw[h1];simp
theorem zQA {z:ν} (hu:P.underlying t=some (.map kt et)) (hk:KeyOk P kt ek) (hz:Zer P et (eV z)) (hm:zCV w b ek eV es) (h1:ev σ m=.map (some b)) (h2:ev σ x=ek k) :
  (execOp (ev σ) ⟨dst,.lookup t m x true,ty,pos,af,g⟩).run P w=.ok (.value (.tuple #[eV ((zFp es k).getD z),.bool (zFp es k).isSome])) w:=by
 simp[execOp,h1,h2,zOX true hu hk hz hm]
end
def zDM (w:World) (it b n:Nat) (seen:List Nat):Prop:=w.heap[it]?=some (.mapIter (some b) n seen.toArray n)
theorem zDM.lt {w:World} {it b n:Nat} {seen:List Nat} (h:zDM w it b n seen):it<w.heap.size:=(Array.getElem?_eq_some_iff.1 h).1
theorem zDM.chg {M:Nat→Prop} {w w':World} {it b n:Nat} {seen:List Nat} (h:zDM w it b n seen) (c:Chg M w w') (hm:¬M it):zDM w' it b n seen:=(c.blk it h.lt hm).trans h
theorem zDM.ext {w w':World} {it b n:Nat} {seen:List Nat} (h:zDM w it b n seen) (c:Ext w w'):zDM w' it b n seen:=h.chg c fun f=>f
section
variable {w w' : World} {it b n : Nat} {seen : List Nat} (hb : zDM w it b n seen)
include hb
theorem Chg.keepI {M:Nat→Prop} (h:Chg M w w') (hm:¬M it):zDM w' it b n seen:=hb.chg h hm
theorem New.keepI {q:Nat} {c:Array Value} {t:TypeId} (h:New w w' q c t):zDM w' it b n seen:=hb.ext h.ext
theorem New.ltI {q:Nat} {c:Array Value} {t:TypeId} (h:New w w' q c t):it<q:=by rw[h.eq];exact hb.lt
end
section
variable {P : Program} {N : Nat} {Q : zGJ} {σ : Env} {w : World} {K : Env → World → Prop} {ops : Array Oper} {rest : List Oper} {d : Nat} {ty : TypeId} {pos : String} {af : Array Edge} {g : Option (Nat × Bool)} {dst : Option Tmp} {t kt et : TypeId} {x : Operand} {b it : Nat}
variable {κ ν : Type} {ek : κ → Value} {eV : ν → Value} {es : List (κ × ν)} {seen : List Nat}
theorem zUc (hN:d<N) (hu:P.underlying t=some (.map kt et)) (hm:zCV w b ek eV es) (h1:ev σ x=.map (some b))
  (kk:∀it w',NewO w w' it (.mapIter (some b) es.length #[] es.length)→WpL P N ops K Q rest (upd σ d (.pointer (some ⟨it,0,none⟩))) w') :
  WpL P N ops K Q (⟨some d,.range t x,ty,pos,af,none⟩::rest) σ w:=by
 unfold zCV at hm;have hg:(getObj b).run P w=.ok (.map (zGD ek eV es).toArray es.length) w:=by simp[getObj,Sem.run,hm]
 refine zCJ (v:=.pointer (some ⟨w.heap.size,0,none⟩)) (w':={w with heap:=w.heap.push (.mapIter (some b) es.length #[] es.length)}) rfl rfl hN ?_ (kk _ _ (NewO.mk' w _));simp[execOp,h1,Instr.range,run_underlying hu,hg]
theorem zIc {e:MapEntry} (h:e∈zGD ek eV es):∃p,es[e.born]?=some p∧e.key=ek p.1∧e.val=eV p.2:=by
  obtain ⟨i,hi⟩:=List.mem_iff_getElem?.1 h;rw[zEM] at hi;cases hp:es[i]? with
  | none=>rw[hp] at hi;cases hi
  | some p=>
    rw[hp] at hi;simp at hi;subst hi;exact ⟨p,hp,rfl,rfl⟩
theorem zWL (hN:d<N) (hm:zCV w b ek eV es) (hi:zDM w it b es.length seen) (h1:ev σ x=.pointer (some ⟨it,0,none⟩))
    (k1:(∀i,i<es.length→i∈seen)→WpL P N ops K Q rest (upd σ d (.tuple #[.bool false])) w)
    (k2:∀i p w',es[i]?=some p→i∉seen→PutO w w' it (.mapIter (some b) es.length (seen++[i]).toArray es.length)→WpL P N ops K Q rest (upd σ d (.tuple #[.bool true,ek p.1,eV p.2])) w') :
    WpL P N ops K Q (⟨some d,.next x false,ty,pos,af,none⟩::rest) σ w:=by
  have av:=hi.lt;have an:(getObj b).run P w=.ok (.map (zGD ek eV es).toArray es.length) w:=by unfold zCV at hm;simp[getObj,Sem.run,hm]
  have am:(getObj it).run P w=.ok (.mapIter (some b) es.length seen.toArray es.length) w:=by unfold zDM at hi;simp[getObj,Sem.run,hi]
  have ad:((!seen.toArray.isEmpty && !(zGD ek eV es).toArray.isEmpty) && (zGD ek eV es).toArray.all (fun e=>decide (e.born ≥ es.length)))=false:=by
    cases es with
    | nil=>simp[zGD]
    | cons p r=>
      have ax:({key:=ek p.1,val:=eV p.2,born:=0}:MapEntry)∈zGD ek eV (p::r):=List.mem_of_getElem? (i:=0) (by rw[zEM];rfl);have:(zGD ek eV (p::r)).toArray.all (fun e=>decide (e.born ≥ (p::r).length))=false:=by
        rw[List.all_toArray,List.all_eq_false];exact ⟨_,ax,qP⟩
      rw[this,Bool.and_false]
  obtain ⟨aa,ab⟩:∃aa,aa=(zGD ek eV es).toArray.filter fun e=>!seen.toArray.contains e.born:=⟨_,rfl⟩;have ac:∀e,e∈aa→e∈zGD ek eV es∧e.born∉seen:=fun e he=>by rw[ab] at he;simpa using he
  have ag:aa.filter (fun e=>decide (e.born<es.length))=aa:=by
    rw[Array.filter_eq_self];intro e he;obtain ⟨p,hp,_⟩:=zIc (ac e he).1;simpa using zAa hp
  have ae:aa.filter (fun e=>decide (e.born ≥ es.length))=#[]:=by
    rw[Array.filter_eq_empty_iff];intro e he;obtain ⟨p,hp,_⟩:=zIc (ac e he).1;have:=zAa hp;simp;omega
  by_cases hemp:aa=#[]
  · have a0:=k1 fun i az=>by
      by_cases hin:i∈seen
      · exact hin
      · exfalso;obtain ⟨p,hp⟩:∃p,es[i]?=some p:=⟨_,List.getElem?_eq_getElem az⟩;have he:({key:=ek p.1,val:=eV p.2,born:=i}:MapEntry)∈zGD ek eV es:=List.mem_of_getElem? (i:=i) (by rw[zEM,hp];rfl);have:({key:=ek p.1,val:=eV p.2,born:=i}:MapEntry)∈aa:=by rw[ab];simpa using ⟨he,hin⟩
        rw[hemp] at this;simp at this
    refine zCJ (v:=.tuple #[.bool false]) (w':=w) rfl rfl hN ?_ a0;have ar:Question.forced (.mapNext 1)=true:=rfl;have aj:(choose (.mapNext 1)).run P w=.ok 0 w:=by simp[choose,Sem.run,ar]
    simp only[execOp,h1,Instr.next,Sem.run_bind,am,Result.andThen_ok,an,ad,Bool.false_eq_true,if_false,Sem.run_pure,←ab,hemp];have ap:Array.filter (fun x:MapEntry=>decide (x.born<es.length)) #[]=#[]:=qP
    have aw:Array.filter (fun x:MapEntry=>decide (x.born ≥ es.length)) #[]=#[]:=qP
    have a1:((if (#[]:Array MapEntry).isEmpty=true then #[none] else #[])++Array.map some ((#[]:Array MapEntry)++#[]):Array (Option MapEntry))=#[none]:=qP
    simp only[ap,aw,a1];rw[show (#[none]:Array (Option MapEntry)).size=1 from rfl,aj];rfl
  · have ao:0<aa.size:=by rcases Nat.eq_zero_or_pos aa.size with h|h;exact absurd (Array.eq_empty_of_size_eq_zero h) hemp;exact h
    have ai:aa.isEmpty=false:=by simpa using hemp
    obtain ⟨j,dr,hj,aj⟩:∃j dr,j<aa.size∧(choose (.mapNext aa.size)).run P w=.ok j {w with drawn:=w.drawn+dr}:=by
      by_cases hf:Question.forced (.mapNext aa.size)=true
      · exact ⟨0,0,ao,by simp[choose,Sem.run,hf]⟩
      · exact ⟨_,1,Nat.mod_lt (w.tape w.drawn (.mapNext aa.size)) ao,by simp[choose,Sem.run,hf,Question.cut]⟩
    obtain ⟨e,he⟩:∃e,aa[j]?=some e:=⟨_,Array.getElem?_eq_getElem hj⟩;obtain ⟨ak,aq⟩:=ac e (Array.mem_of_getElem? he);obtain ⟨p,hp,hk,hv⟩:=zIc ak;have au:({w with drawn:=w.drawn+dr}:World).heap[it]?=some (.mapIter (some b) es.length seen.toArray es.length):=hi;refine zCJ (v:=.tuple #[.bool true,ek p.1,eV p.2]) (w':={w with drawn:=w.drawn+dr,heap:=w.heap.setIfInBounds it (.mapIter (some b) es.length (seen++[e.born]).toArray es.length)}) rfl rfl hN ?_ (k2 e.born p _ hp aq ?_)
    · have a2:(setObj it (.mapIter (some b) es.length (seen.toArray.push e.born) es.length)).run P {w with drawn:=w.drawn+dr}=.ok () {w with drawn:=w.drawn+dr,heap:=w.heap.setIfInBounds it (.mapIter (some b) es.length (seen.toArray.push e.born) es.length)}:=by simp[setObj,Sem.run,au]
      have ah:((#[]:Array (Option MapEntry))++(aa++#[]).map some)[j]?=some (some e):=by simp[he]
      have al:((#[]:Array (Option MapEntry))++(aa++#[]).map some).size=aa.size:=qP
      simp only[execOp,h1,Instr.next,Sem.run_bind,am,Result.andThen_ok,an,ad,Bool.false_eq_true,if_false,Sem.run_pure,←ab,ag,ae,ai,al,aj,ah,a2,hk,hv];simp
    · refine ⟨by simp[av],⟨rfl,rfl,rfl,Nat.le_add_right _ _,qP,fun y hy ay=>by simp[Ne.symm ay]⟩,qP⟩
theorem zUp {i:Nat} {p:κ×ν} (hm:zCV w b ek eV es) (hi:zDM w it b es.length (seen++[i])) (hp:es[i]?=some p) (h1:ev σ x=.pointer (some ⟨it,0,none⟩)) :
  (execOp (ev σ) ⟨dst,.entry x,ty,pos,af,g⟩).run P w=.ok (.value (.tuple #[ek p.1,eV p.2])) w:=by
 have ac:(getObj b).run P w=.ok (.map (zGD ek eV es).toArray es.length) w:=by unfold zCV at hm;simp[getObj,Sem.run,hm]
 have ae:(getObj it).run P w=.ok (.mapIter (some b) es.length (seen++[i]).toArray es.length) w:=by unfold zDM at hi;simp[getObj,Sem.run,hi]
 have hb:(seen++[i]).toArray.back?=some i:=by simp[Array.back?]
 have ab:=zAa hp;have hf:(zGD ek eV es).find? (fun e=>e.born == i)=some {key:=ek p.1,val:=eV p.2,born:=i}:=by
  rw[List.find?_eq_some_iff_getElem];refine ⟨qP,i,by rw[zKS];exact ab,?_,fun j hj=>?_⟩
  ·have:=zEM (ek:=ek) (eV:=eV) (es:=es) (i:=i);rw[hp,List.getElem?_eq_getElem (by rw[zKS];exact ab)] at this;simpa using this
  ·have h2:=zEM (ek:=ek) (eV:=eV) (es:=es) (i:=j);have aa:j<es.length:=qO
   rw[List.getElem?_eq_getElem (by rw[zKS];exact aa),List.getElem?_eq_getElem aa] at h2;simp at h2;rw[h2];simp;omega
 have ad:(zGD ek eV es).toArray.find? (fun e=>e.born == i)=some {key:=ek p.1,val:=eV p.2,born:=i}:=by simpa using hf
 simp only[execOp,h1,Instr.entry,Sem.run_bind,ae,Result.andThen_ok,hb,ac,ad,Sem.run_pure];simp
end
theorem zae {l:List Nat} (hd:l.Nodup) {a:Nat} (h:a∈l):l.count a=1:=by
  induction l with
  | nil=>cases h
  | cons x r ih=>
    rw[List.nodup_cons] at hd;rw[List.count_cons];rcases List.mem_cons.1 h with rfl|h
    · rw[List.count_eq_zero_of_not_mem hd.1];simp
    · have:x≠a:=fun e=>hd.1 (e▸h);rw[ih hd.2 h];simp[this]
theorem zPn {n:Nat} {seen:List Nat} (hd:seen.Nodup) (hl:∀i∈seen,i<n) (ha:∀i,i<n→i∈seen):seen.Perm (List.range n):=by
 rw[List.perm_iff_count];intro a;by_cases h:a∈seen
 ·rw[zae hd h,zae List.nodup_range (List.mem_range.2 (hl a h))]
 ·rw[List.count_eq_zero_of_not_mem h,List.count_eq_zero_of_not_mem (fun h2=>h (ha a (List.mem_range.1 h2)))]
theorem zNI {n:Nat} {seen:List Nat} (hd:seen.Nodup) (hl:∀i∈seen,i<n):seen.length≤n:=by
 have h:seen.Subset (List.range n):=fun i hi=>List.mem_range.2 (hl i hi);have:=hd.length_le_of_subset h;simpa using this
end Go.Eng
namespace Go.Proofs
open Go Go.Eng Go.Sort
set_option maxRecDepth 100000
abbrev zVz:Nat:=3
def zaN (w:World) (base:Nat) (r:Value) (l:List Int):Prop:=(∃a c,r=.slice a l.length c)∧w.ownsRow base zVz 1 r l.length (l.map (Value.int .i64))
theorem ownI_holds {w:World} {base g n c:Nat} {l:List Int} (h:w.ownsRow base zVz 1 (.slice (some ⟨g,0,none⟩) n c) n (l.map (Value.int .i64))):Sort.Holds (Value.int .i64) w g 0 l.toArray:=by
 intro j hj;simp only[List.size_toArray] at hj;have hx:l[j]?=some l[j]:=List.getElem?_eq_getElem hj;have h1:=h.cells (g:=g) rfl j (.int .i64 l[j]) (by simp[hx]);rw[Addr.add_lit] at h1;have he:l.toArray[j]! = l[j]:=by rw[getElem!_pos l.toArray j (by simpa using hj)];simp
 rw[he];refine ⟨h1,?_⟩;rcases h.2 with ⟨h1,_⟩|⟨g',cap,cur,hv,_,hg,_⟩
 ·simp at h1
 ·simp only[Value.slice.injEq,Option.some.injEq,Addr.mk.injEq,and_true] at hv;obtain ⟨rfl,_⟩:=hv;simp[World.frozen?,hg]
theorem zJd {w:World} {g n c:Nat} {l:List Int} (h:Sort.Holds (Value.int .i64) w g 0 l.toArray) (hn:l.length=n) (hc:n≤c) (hl:n≤9223372036854775807):zBt w (.slice (some ⟨g,0,none⟩) n c) l:=by
 refine ⟨_,c,by simp[hn],by simp;omega,by simp;omega,.inr ⟨g,0,rfl,fun i r hr j u hu=>?_⟩⟩;simp only[List.getElem?_map,Option.map_eq_some_iff] at hr;obtain ⟨x,hx,rfl⟩:=hr;have hi:=zAa hx;have hj:j<1:=by have:=zAa hu;simpa[zPN] using this
 obtain rfl:j=0:=qO
 have h1:=(h i (by simpa using hi)).1;have he:l.toArray[i]! = x:=by
  rw[getElem!_pos l.toArray i (by simpa using hi)];rw[List.getElem?_eq_getElem hi] at hx;simpa using hx
 rw[he] at h1;simp[zPN] at hu;subst hu;simpa using h1
theorem zGA {α:Type} [Inhabited α] (enc:α→Value) (w:World) (g off m:Nat) (dk:Array α) (os:Array Obj):Chg (fun x=>x=g) w (grow (putRow enc (Sort.ahead w m) g off dk) os):=by
 refine ⟨rfl,rfl,rfl,Nat.le_add_right _ _,?_,fun b hb aa=>?_⟩
 ·simp[grow,putRow,mapBlock,Sort.ahead]
 ·simp only[grow,putRow,mapBlock,Sort.ahead];rw[Array.getElem?_append_left (by simpa using hb),Array.getElem?_modify,if_neg (fun h=>aa h.symm)]
def leB (x y:Int):Bool:=decide (x≤y)
theorem zUS (w0:World) (base:Nat) (v:Value) (l:List Int) (h:zaN w0 base v l) (hne:l≠[]) (hl:l.length≤17592186044416) :
  Ret prog 147 #[v] w0 fun r w=>r=.tuple #[]∧zBt w v (l.mergeSort leB)∧Chg (fun x=>v.ownBlock=some x) w0 w:=by
 obtain ⟨⟨a,c,rfl⟩,h⟩:=h;rcases h.2 with ⟨h1,h0⟩|⟨g,cap,cur,hv,hbg,hg,ac,hcm,hcs,ab⟩
 ·exact absurd (List.eq_nil_of_length_eq_zero h0) hne
 ·simp only[Value.slice.injEq] at hv;obtain ⟨rfl,_,rfl⟩:=hv;have hH:=ownI_holds h;have aa:g<w0.heap.size:=(Array.getElem?_eq_some_iff.1 hg).1;refine Calls.mono (Any.slices_Sort_int Tryz.sortI g 0 c l w0 hH aa qO) ?_;rintro e w' ⟨rfl,n,os,rfl⟩;refine ⟨_,rfl,rfl,?_,(zGA _ w0 g 0 n _ os).mono fun x _ hx=>by subst hx;rfl⟩;have hh:Sort.Holds (Value.int .i64) (grow (putRow (Value.int .i64) (Sort.ahead w0 n) g 0 (l.mergeSort fun x y=>decide (x≤y)).toArray) os) g 0 (l.mergeSort fun x y=>decide (x≤y)).toArray:=
   holds_grow _ _ os g 0 _ (by simpa[putRow,mapBlock,Sort.ahead] using aa) (holds_putRow _ (Sort.ahead w0 n) g 0 l.toArray _ hH qP)
  exact zJd (l:=l.mergeSort leB) hh qP ac qO
theorem zOS (w0:World) (base:Nat) (v:Value) (l:List Int) (h:zaN w0 base v l) (hne:l≠[]) (hl:l.length≤17592186044416) :
  Ret prog 139 #[v] w0 fun r w=>r=.tuple #[]∧zBt w v (l.mergeSort leB)∧Chg (fun x=>v.ownBlock=some x) w0 w:=by
 refine zGr func139 rfl ntmps139 (leT rfl) ?_;have E:Chg (fun x=>v.ownBlock=some x) w0 w0:=Chg.refl _ _;refine zAN (qM v rfl (qE rfl (zAV func147 zWm zXW rfl) (zUS _ base v l h hne hl) ?_));rintro _ w9 ⟨rfl,I9,C9⟩;replace E:=E.step C9 (fun x hx hm=>hm);refine zAB (zGd results139 ?_);exact ⟨rfl,I9,E⟩
theorem zLS {l:List Int} (hd:l.Nodup):(l.mergeSort leB).Pairwise (· < ·):=by
 have h1:(l.mergeSort leB).Pairwise (fun a b=>leB a b=true):=List.pairwise_mergeSort (fun a b c h1 h2=>by simp[leB] at *;omega) (fun a b=>by simp[leB];omega) l;have h2:(l.mergeSort leB).Nodup:=(List.mergeSort_perm l leB).nodup_iff.2 hd;have h3:=h1.and h2;exact h3.imp fun {a b} ⟨h4,h5⟩=>by simp[leB] at h4;omega
def zHj (l:List Sp) (k:Int):Prop:=k=0∨∃s∈l,k=s.1∨(s.2<1114111∧k=s.2+1)
def KP (es:List (Int×Bool)) (l:List Sp):Prop:=zGs es∧∀k,k∈es.map (·.1)↔zHj l k
theorem zKN {κ ν:Type} [DecidableEq κ] {es:List (κ×ν)} {k q:κ} {v:ν}:q∈(zEm es k v).map (·.1)↔q=k∨q∈es.map (·.1):=by
 rw[←zEp,zSh];by_cases h:k=q
 ·simp[h]
 ·rw[if_neg h,zEp];simp[Ne.symm h]
theorem zNS {κ ν:Type} [DecidableEq κ] (es:List (κ×ν)) (k:κ) (v:ν):(zEm es k v).length≤es.length+1∧es.length≤(zEm es k v).length:=by
  induction es with
  | nil=>simp[zEm]
  | cons p r ih=>unfold zEm;split<;>simp<;>omega
theorem KP.start:KP (zEm [] 0 true) []:=by
 refine ⟨zGs.nil.put _ _,fun k=>?_⟩;simp[zEm,zHj]
theorem KP.lo {es:List (Int×Bool)} {l:List Sp} (h:KP es l) (s:Sp) (hs:¬s.2<1114111):KP (zEm es s.1 true) (l++[s]):=by
 refine ⟨h.1.put _ _,fun k=>?_⟩;rw[zKN,h.2 k];unfold zHj;constructor
 ·rintro (h1|h1|⟨t,ht,h1⟩)
  ·exact .inr ⟨s,qP,.inl h1⟩
  ·exact .inl h1
  ·exact .inr ⟨t,by simp[ht],h1⟩
 ·rintro (h1|⟨t,ht,h1⟩)
  ·exact .inr (.inl h1)
  ·rcases List.mem_append.1 ht with ht|ht
   ·exact .inr (.inr ⟨t,ht,h1⟩)
   ·rw[List.mem_singleton] at ht;subst ht;rcases h1 with h1|⟨h1,_⟩
    ·exact .inl h1
    ·exact absurd h1 hs
theorem KP.both {es:List (Int×Bool)} {l:List Sp} (h:KP es l) (s:Sp) (hs:s.2<1114111):KP (zEm (zEm es s.1 true) (s.2+1) true) (l++[s]):=by
 refine ⟨(h.1.put _ _).put _ _,fun k=>?_⟩;rw[zKN,zKN,h.2 k];unfold zHj;constructor
 ·rintro (h1|h1|h1|⟨t,ht,h1⟩)
  ·exact .inr ⟨s,qP,.inr ⟨hs,h1⟩⟩
  ·exact .inr ⟨s,qP,.inl h1⟩
  ·exact .inl h1
  ·exact .inr ⟨t,by simp[ht],h1⟩
 ·rintro (h1|⟨t,ht,h1⟩)
  ·exact .inr (.inr (.inl h1))
  ·rcases List.mem_append.1 ht with ht|ht
   ·exact .inr (.inr (.inr ⟨t,ht,h1⟩))
   ·rw[List.mem_singleton] at ht;subst ht;rcases h1 with h1|⟨_,h1⟩
    ·exact .inr (.inl h1)
    ·exact .inl h1
theorem zCP {α:Type} {l:List α} {k:Nat} {x:α} (h:l[k]?=some x):l.take (k+1)=l.take k++[x]:=by rw[List.take_add_one,h];rfl
def kAt (es:List (Int×Bool)) (i:Nat):Int:=((es[i]?).map (·.1)).getD 0
theorem zQV {es:List (Int×Bool)} {seen:List Nat} (hd:seen.Nodup) (hl:∀i∈seen,i<es.length) (ha:∀i,i<es.length→i∈seen):(seen.map (kAt es)).Perm (es.map (·.1)):=by
 have h1:=(zPn hd hl ha).map (kAt es);have h2:(List.range es.length).map (kAt es)=es.map (·.1):=by
  apply List.ext_getElem?;intro i;rw[List.getElem?_map,List.getElem?_map];by_cases hi:i<es.length
  ·rw[List.getElem?_range hi,List.getElem?_eq_getElem hi];simp[kAt,List.getElem?_eq_getElem hi]
  ·rw[List.getElem?_eq_none (by simpa using hi),List.getElem?_eq_none qO];rfl
 rw[h2] at h1;exact h1
def zEE (l:List Sp) (p:List Int):Prop:=p.Pairwise (· < ·)∧∀k,k∈p↔zHj l k
theorem zNX (w0:World) (v:Value) (ll:List (List Sp)) (h:zBy w0 v ll) (hl:ll.flatten.length≤8796093022200) (hok:∀s∈ll.flatten,vSp s) :
  Ret prog 84 #[v] w0 fun r w=>(∃p,zEE ll.flatten p∧(∃a c,r=.slice a p.length c)∧zBt w r p)∧Ext w0 w:=by
 obtain ⟨a,c,rfl,_,hle⟩:=h.form;obtain ⟨base,az⟩:∃base,base=w0.heap.size:=⟨_,rfl⟩;refine qR func84 rfl ntmps84 rfl (fun E=>(zAA (qA _ rfl (zAB (zAA (zLB zMd zSX qD ?_))))));intro bm wm Nm;have Fm:=Nm.ge E;replace E:=E.ext Nm.ext;intro Mm;refine zRz (k:=0) (v:=true) underlying141 (zQX underlying3) Mm rfl rfl rfl ?_;intro w1 S1 H1;replace E:=S1.step E qQ;replace Mm:=H1;refine qM _ rfl (qA _ rfl (zAB (zAK (zAA (qM _ rfl (qV (zAM underlying50 rfl) (qM _ rfl (zAB (zAT (zAq (fun nn_ σ W2=>∃(k:Nat) (es:List (Int×Bool)),(∃jj_,σ=zCH jj_ [(3,(.map (some bm))),(12,(.slice a ll.length c)),(13,(I6 (ll.length:Int))),(14,(I6 (k:Int)))])∧Chg zAo w0 W2∧zCV W2 bm zMd zSX es∧(k≤ll.length)∧(KP es (ll.take k).flatten)∧(es.length≤1+2*(ll.take k).flatten.length)∧nn_=ll.length - k) (n:=ll.length - 0) ?_ ?_))))))))))
 ·exact ⟨0,zEm [] 0 true,zBA.out ⟨rfl,rfl,rfl,rfl,trivial⟩,E,Mm,Nat.zero_le _,KP.start,(by simp[zEm]),rfl⟩
 ·clear E Mm;rintro _ _ W2 ⟨k,es,⟨j2,rfl⟩,E,Mm,hk,al,a6,rfl⟩;refine zAA (qV (zBH rfl rfl) (zAB (zAK (qC rfl (fun bh=>?_) (fun bh=>?_)))))
  ·obtain ⟨l,hx⟩:=zAU (l:=ll) (i:=k) qO;obtain ⟨b,o,a1,a9⟩:=zBz h qO;subst a1;obtain ⟨ra,rc,ai,ay⟩:=a9 k l hx;have am:=zGW hx;have hll:l.length≤9223372036854775807:=by simpa using zBq.le ay
   refine zAP (zAC (zAK (zAT (zAA (qV (zAH (b:=b) (o:=o) (len:=ll.length) (cap:=c) (i:=k) (o':=o+k) rfl rfl rfl underlying50 zBm qO qO) (qV (zAL rfl zBe (E.cell (fun f=>f) ai)) (qA _ rfl (zAB (zAA (qM _ rfl (qV (zAM underlying22 rfl) (qM _ rfl (zAB (zAT (zAq (fun nn_ σ W4=>∃(i:Nat) (ad:List (Int×Bool)),(∃jj_,σ=zCH jj_ [(3,(.map (some bm))),(12,(.slice (some ⟨b,o,none⟩) ll.length c)),(13,(I6 (ll.length:Int))),(14,(I6 (k:Int))),(18,(.slice ra l.length rc)),(19,(I6 (l.length:Int))),(20,(I6 (i:Int)))])∧Chg zAo w0 W4∧zCV W4 bm zMd zSX ad∧(i≤l.length)∧(KP ad ((ll.take k).flatten++l.take i))∧(ad.length≤1+2*(ll.take k).flatten.length+2*i)∧nn_=l.length - i) (n:=l.length - 0) ?_ ?_)))))))))))))))
   ·exact ⟨0,es,zBA.out ⟨rfl,rfl,rfl,rfl,rfl,rfl,rfl,trivial⟩,E,Mm,Nat.zero_le _,(by simpa using al),qO,rfl⟩
   ·clear E Mm;rintro _ _ W4 ⟨i,ad,⟨j4,rfl⟩,E,Mm,hi,ae,bg,rfl⟩;refine zAA (qV (zBH rfl rfl) (zAB (zAK (qC rfl (fun ar=>?_) (fun ar=>?_)))))
    ·obtain ⟨s,hs⟩:=zAU (l:=l) (i:=i) qO;obtain ⟨rb,ro,ao,a4⟩:=zBN ay qO;subst ao;have ax:=zCP hs;have hq1:=zNS ad s.1 true;have hv:vSp s:=hok s (List.mem_flatten.2 ⟨l,List.mem_of_getElem? hx,List.mem_of_getElem? hs⟩);unfold vSp at hv;refine zAP (zAC (zAK (zAT (zAA (qV (zAH (b:=rb) (o:=ro) (len:=l.length) (cap:=rc) (i:=i) (o':=ro+i*2) rfl rfl rfl underlying22 zBB qO qO) (qV (zAG rfl zCi zBB rfl ((a4 i s hs).ext E)) (zAg (v:=(.agg #[(I6 s.1),(I6 s.2)])) (c:=#[(I6 s.1),(I6 s.2)]) (n:=2) qD zCb rfl zBB rfl rfl rfl qS ?_)))))));intro b6 w6 N6;have F6:=N6.ge E;have O6_bm:=N6.ltM Mm;replace Mm:=N6.keepM Mm;replace E:=E.ext N6.ext;have B6:=N6.blk;refine zAB (zAA (qM _ rfl (qF b6 0 0 rfl underlying103 rfl zAv rfl (qV (zAL rfl zAf (B6.cell rfl)) (zFv (k:=s.1) (v:=true) underlying141 (zQX underlying3) Mm rfl rfl rfl ?_)))));intro w7 S7 H7;replace B6:=S7.keep qO B6;replace E:=S7.step E qQ;replace Mm:=H7;refine zAB (zAA (qF b6 0 1 rfl underlying103 rfl zAv rfl (qV (zAL rfl zAf (B6.cell rfl)) (qV (zBH rfl rfl) (zAB (qC rfl (fun hM=>?_) (fun hM=>?_)))))))
     ·have hq2:=zNS (zEm ad s.1 true) (s.2+1) true;refine zAN (qM _ rfl (qF b6 0 1 rfl underlying103 rfl zAv rfl (qV (zAL rfl zAf (B6.cell rfl)) (qV (zAy rfl rfl (zBV qO)) (zFv (k:=(s.2+1)) (v:=true) underlying141 (zQX underlying3) Mm rfl rfl rfl ?_)))));intro w9 S9 H9;replace B6:=S9.keep qO B6;replace E:=S9.step E qQ;replace Mm:=H9;refine zAB (zAS (zAC (zAN (qV (zAy rfl rfl (zBV qO)) (qM _ rfl (zAB (zAC ?_)))))));exact ⟨l.length - (i+1),qO,i+1,zEm (zEm ad s.1 true) (s.2+1) true,zBA.out ⟨rfl,rfl,rfl,rfl,rfl,rfl,rfl,trivial⟩,E,Mm,qO,(by rw[ax,←List.append_assoc];exact ae.both s hM),qO,rfl⟩
     ·refine zAP (zAS (zAC (zAN (qV (zAy rfl rfl (zBV qO)) (qM _ rfl (zAB (zAC ?_)))))));exact ⟨l.length - (i+1),qO,i+1,zEm ad s.1 true,zBA.out ⟨rfl,rfl,rfl,rfl,rfl,rfl,rfl,trivial⟩,E,Mm,qO,(by rw[ax,←List.append_assoc];exact ae.lo s hM),qO,rfl⟩
    ·have a0:i=l.length:=qO
     rw[a0,List.take_length,←am] at ae;refine zAp (zAX (zAX (zAj (zAS (zAC (zAN (qV (zAy rfl rfl (zBV qO)) (qM _ rfl (zAB (zAC ?_))))))))));exact ⟨ll.length - (k+1),qO,k+1,ad,zBA.out ⟨rfl,rfl,rfl,rfl,trivial⟩,E,Mm,qO,ae,(by rw[am,List.length_append];omega),rfl⟩
  ·have bd:k=ll.length:=qO
   rw[bd,List.take_length] at al a6;have a2:=E.size;refine zAp (zAX (zAX (zAj (zAC (zAA (qA _ rfl (zAB (zAK (zAA (qM _ rfl (zUc qD underlying141 Mm rfl ?_)))))))))));intro br wr Nr;have Fr:=Nr.ge E;have Or_bm:=Nr.ltM Mm;replace Mm:=Nr.keepM Mm;replace E:=E.ext Nr.ext;have Ir:zDM wr br bm es.length []:=Nr.at';refine zAB (zAT ?_);have hwr:=Nr.size;have hbr:br<wr.heap.size:=Ir.lt;refine zAq (fun nn_ σ af=>∃(aa:List Nat) (la:Option Addr) (lc:Nat) (n:Nat),(∃jj_,σ=zCH jj_ [(37,(P6 br 0)),(8,(.slice la n lc))])∧Chg zAo w0 af∧zCV af bm zMd zSX es∧zDM af br bm es.length aa∧(aa.Nodup)∧(∀j∈aa,j<es.length)∧(n=aa.length)∧(af.ownsRow wr.heap.size zVz 1 (.slice la n lc) n ((aa.map (kAt es)).map (Value.int .i64)))∧(wr.heap.size≤af.heap.size)∧nn_=es.length - aa.length) (n:=es.length - ([]:List Nat).length) ?_ ?_
   ·exact ⟨([]:List Nat),none,0,0,zBA.out ⟨rfl,rfl,trivial⟩,E,Mm,Ir,List.nodup_nil,(fun j hj=>absurd hj List.not_mem_nil),rfl,World.ownsRow_nil _ _ _ _,Nat.le_refl _,rfl⟩
   ·clear E Mm Ir;rintro _ _ af ⟨aa,la,lc,n,⟨j10,rfl⟩,E,Mm,Ir,au,aq,hn,ab,ag,rfl⟩;refine zAA (zWL qD Mm Ir rfl (fun ap=>?_) ?_)
    ·skip
     have ac:=zQV (es:=es) au aq ap;have bf:(aa.map (kAt es)).Nodup:=ac.nodup_iff.2 al.1;have hO:zaN af wr.heap.size (.slice la n lc) (aa.map (kAt es)):=⟨⟨la,lc,by simp[hn]⟩,by simpa[hn] using ab⟩;have aw:(0:Int)∈aa.map (kAt es):=ac.mem_iff.2 ((al.2 0).2 (.inl rfl));have hsn:=zNI au aq;refine qV (zBM rfl rfl) (zAB (zAK (zAb rfl (zAp (zAX (zAX (zAj (zAC (zAA (qM _ rfl (qE rfl (zAV func139 zYn zZt rfl) (zOS _ wr.heap.size (.slice la n lc) _ hO (fun h9=>by rw[h9] at aw;cases aw) (by simp;omega)) ?_)))))))))));rintro _ w19 ⟨rfl,be,bc⟩;replace E:=E.step bc (fun x hx hy=>absurd (ab.lt x hy).1 qO);refine zAB (zAA (qM _ rfl (qA _ rfl (zAB (zAR (zAW results84 (v:=(.slice la n lc)) rfl (⟨⟨(aa.map (kAt es)).mergeSort leB,⟨zLS bf,fun q=>?_⟩,⟨la,lc,by simp[hn]⟩,be⟩,E⟩)))))));rw[List.mem_mergeSort,ac.mem_iff];exact al.2 q
    ·intro i p a5 hp ba ak;replace ab:=zBi ab ak.chg (fun x hx h9=>by have:=(ab.lt x hx).1;omega);replace ag:=Nat.le_trans ag (Nat.le_of_eq ak.size.symm);replace Mm:=ak.keepM qO Mm;replace E:=ak.step E (by first|exact Or.inl qO|exact Or.inr rfl|exact Or.inr qO);replace Ir:zDM a5 br bm es.length (aa++[i]):=ak.at';have ah:(aa++[i]).Nodup:=List.nodup_append.2 ⟨au,qP,fun x hx z hz=>by simp at hz;subst hz;exact fun h9=>ba (h9▸hx)⟩;have aj:∀j∈aa++[i],j<es.length:=fun j hj=>by rcases List.mem_append.1 hj with h9|h9;exact aq j h9;rw[List.mem_singleton] at h9;subst h9;exact zAa hp
     have hl2:=zNI ah aj;have a3:(aa++[i]).length=aa.length+1:=qP
     have bb:kAt es i=p.1:=by unfold kAt;rw[hp];rfl
     refine qV (zBM rfl rfl) (zAB (zAK (zAl rfl (zAP (zAC (zAT (zAA (zCJ (v:=(.tuple #[(I6 p.1),(.bool p.2)])) rfl rfl qD (zUp Mm Ir hp rfl) (qV (zBM rfl rfl) (qA _ rfl (zAB (zAN (qM _ rfl (qM _ rfl (zAh (ps:=[(0,(I6 p.1))]) (c:=#[(I6 p.1)]) qD rfl underlying26 zAv zFB qD qD qK ?_)))))))))))))));intro bq wq Nq;have Fq:=Nq.ge E;have Oq_bm:=Nq.ltM Mm;have Oq_br:=New.ltI Ir Nq;replace Mm:=Nq.keepM Mm;replace Ir:=New.keepI Ir Nq;replace ab:=zAn ab Nq.ext;replace ag:=Nat.le_trans ag Nq.ext.size;replace E:=E.ext Nq.ext;have Bq:=Nq.blk;refine zBC (base:=wr.heap.size) (n:=n) (m:=1) (xs:=(aa.map (kAt es)).map (Value.int .i64)) (news:=[(I6 p.1)]) (size:=1) (bytes:=8) (v:=(.slice la n lc)) qD underlying26 zAv zPA zFB rfl qD rfl ab rfl (rfl) (Bq.cells rfl) qS (by unfold maxLen;omega) qO (ag) ?_;intro v9 w29 av an Dv9;replace Mm:=an.keepM (fun h=>by have:=(ab.lt _ h).1;omega) Mm;replace Ir:=Chg.keepI Ir an (fun h=>by have:=(ab.lt _ h).1;omega);replace E:=E.step an (fun x hx h=>absurd (ab.lt x h).1 qO);obtain ⟨a7,a8,rfl⟩:=zAw av;refine qA _ rfl (zAB (zAS (zAC ?_)));exact ⟨es.length - (aa++[i]).length,qO,aa++[i],a7,a8,n+1,zBA.out ⟨rfl,rfl,trivial⟩,E,Mm,Ir,ah,aj,(by rw[a3,hn]),(by rw[List.map_append,List.map_append,List.map_singleton,List.map_singleton,bb];exact av),Nat.le_trans ag an.size,rfl⟩
end Go.Proofs
namespace Go.Proofs
open Go Go.Eng
set_option maxRecDepth 100000
theorem zVJ (s:Int×Int) (w0:World) :
  Ret prog 138 #[.agg #[.int .i64 s.1,.int .i64 s.2]] w0 fun v w=>v=.bool (zDd s)∧Ext w0 w:=by
 refine qR func138 rfl ntmps138 rfl (fun E=>(zAA (zBL (v:=(.agg #[(I6 s.1),(I6 s.2)])) (c:=#[(I6 s.1),(I6 s.2)]) qD rfl rfl ?_)));intro b1 w1 N1;have F1:=N1.ge E;replace E:=E.ext N1.ext;have B1:=N1.blk;refine qA _ rfl (zAB (zAA (qF b1 0 0 rfl underlying103 rfl zAv rfl (qV (zAL rfl zAf (B1.cell rfl)) ?_))));obtain ⟨e2,ad⟩:∃e,(decide ((0:Int)≤s.1))=e:=⟨_,rfl⟩;refine qV ((zEd rfl rfl).trans (by rw[ad];try rfl)) (qM _ rfl (qG (.bool e2) (yU e2 (P6 b1 0)) (by cases e2<;>first|exact gA|exact gB|exact .inl ⟨rfl,zAQ rfl underlying103 rfl zAv rfl⟩) (qG (.bool e2) (yU e2 (I6 s.1)) (by cases e2<;>first|exact gA|exact gB|exact .inl ⟨rfl,zAL rfl zAf (B1.cell rfl)⟩) (qG (.bool e2) (yU e2 (P6 b1 1)) (by cases e2<;>first|exact gA|exact gB|exact .inl ⟨rfl,zAQ rfl underlying103 rfl zAv rfl⟩) (qG (.bool e2) (yU e2 (I6 s.2)) (by cases e2<;>first|exact gA|exact gB|exact .inl ⟨rfl,zAL rfl zAf (B1.cell rfl)⟩) ?_)))));obtain ⟨e3,aa⟩:∃e,(decide ((s.1:Int)≤s.2))=e:=⟨_,rfl⟩;refine qG (.bool e2) (yU e2 (.bool e3)) (by cases e2<;>first|exact gA|exact gB|exact .inl ⟨rfl,(zEd rfl rfl).trans (by rw[aa];try rfl)⟩) ?_;obtain ⟨e4,ae⟩:∃e,(e2 && e3)=e:=⟨_,rfl⟩;refine qV (zAd (v:=.bool e4) rfl (by rw[←ae];cases e2<;>rfl)) (qM _ rfl (qG (.bool e4) (yU e4 (P6 b1 1)) (by cases e4<;>first|exact gA|exact gB|exact .inl ⟨rfl,zAQ rfl underlying103 rfl zAv rfl⟩) (qG (.bool e4) (yU e4 (I6 s.2)) (by cases e4<;>first|exact gA|exact gB|exact .inl ⟨rfl,zAL rfl zAf (B1.cell rfl)⟩) ?_)));obtain ⟨e5,ac⟩:∃e,(decide ((s.2:Int)≤1114111))=e:=⟨_,rfl⟩;refine qG (.bool e4) (yU e4 (.bool e5)) (by cases e4<;>first|exact gA|exact gB|exact .inl ⟨rfl,(zEd rfl rfl).trans (by rw[ac];try rfl)⟩) ?_;obtain ⟨e6,ab⟩:∃e,(e4 && e5)=e:=⟨_,rfl⟩;refine qV (zAd (v:=.bool e6) rfl (by rw[←ab];cases e4<;>rfl)) (qA _ rfl (zAB ?_));subst ab;subst ac;subst ae;subst aa;subst ad;refine zAR (zAW results138 (v:=(.bool (((decide ((0:Int)≤s.1)) && (decide ((s.1:Int)≤s.2))) && (decide ((s.2:Int)≤1114111))))) rfl ?_);exact ⟨zAx (by unfold zDd;rfl),E⟩
theorem zVL:∀(l:List (Int×Int)),zDH none l=zDH (some (-2)) (l.drop 0)
  | []=>rfl
  | s::r=>by
    simp only[List.drop];rw[zCC,zCC];by_cases hv:zDd s=false
    · rw[if_pos hv,if_pos hv]
    · rw[if_neg hv,if_neg hv];have:¬s.1<0:=by simp[zDd] at hv;omega
      simp[this]
theorem zRG (w0:World) (v:Value) (l:List (Int×Int)) (hs:zBQ w0 v l) :
  Ret prog 83 #[v] w0 fun v w=>v=.int .i64 (zBR l)∧Ext w0 w:=by
 obtain ⟨a,c,rfl⟩:=zBq.form hs;simp only[List.length_map] at hs⊢;refine qR func83 rfl ntmps83 rfl (fun E=>(zAA (qA _ rfl (zAB (zAK (zAA (qM _ rfl (qV (zAM underlying22 rfl) (qV (zCN rfl rfl) (zAB (qC rfl (fun ae=>?_) (fun ae=>?_))))))))))))
 ·refine zAA (qA _ rfl (zAB (zAR (zAI (zAW results83 (v:=(.int .i64 2)) rfl ?_)))));exact ⟨zBO (by unfold zBR;rw[if_pos qO]),E⟩
 ·have aa:zBR l=zDH none l:=by unfold zBR;rw[if_neg qO]
  rw[aa];refine zAP (zAC (zAA (qA _ rfl (zAB (zAK (zAA (qM _ rfl (qV (zAM underlying22 rfl) (qM _ rfl (zAB (zAT (zAq (fun nn_ σ W2=>∃(k:Nat) (p:Int),(∃jj_,σ=zCH jj_ [(9,(.slice a l.length c)),(10,(I6 (l.length:Int))),(11,(I6 (k:Int))),(3,(I6 p))])∧Chg zAo w0 W2∧(k≤l.length)∧(-2≤p∧p≤1114111∧(zDH none l=zDH (some p) (l.drop k)))∧nn_=l.length - k) (n:=l.length - 0) ?_ ?_))))))))))))
  ·exact ⟨0,-2,zBA.out ⟨rfl,rfl,rfl,rfl,trivial⟩,E,Nat.zero_le _,⟨qO,qO,zVL l⟩,rfl⟩
  ·clear E;rintro _ _ W2 ⟨k,p,⟨j2,rfl⟩,E,hk,hp,rfl⟩;refine zAA (qV (zBH rfl rfl) (zAB (zAK (qC rfl (fun af=>?_) (fun af=>?_)))))
   ·obtain ⟨s,hx⟩:=zAU (l:=l) (i:=k) qO;obtain ⟨b,o,rfl,ac⟩:=zBN hs qO;have hd:=zBU hx;refine zAP (zAC (zAK (zAT (zAA (qV (zAH (b:=b) (o:=o) (len:=l.length) (cap:=c) (i:=k) (o':=o+k*2) rfl rfl rfl underlying22 zBB qO qO) (qV (zAG rfl zCi zBB rfl ((ac k s hx).ext E)) (zAg (v:=(.agg #[(I6 s.1),(I6 s.2)])) (c:=#[(I6 s.1),(I6 s.2)]) (n:=2) qD zCb rfl zBB rfl rfl rfl qS ?_)))))));intro b4 w4 N4;have F4:=N4.ge E;replace E:=E.ext N4.ext;have B4:=N4.blk;refine zAB (zAK (zAA (qV (zAG (vs:=[(I6 s.1),(I6 s.2)]) rfl zCi zBB rfl (B4.cells rfl)) (qE rfl (zAV func138 zYo zZu rfl) (zVJ s _) ?_))));rintro _ w9 ⟨rfl,X9⟩;replace B4:=X9.keep B4;replace E:=E.ext X9;refine qV (zCf rfl) (zAB (zAt rfl (fun hv=>?_) (fun hv=>?_)))
    ·have ad:=hv;replace hv:=by simpa using hv
     refine zAA (qA _ rfl (zAB (zAR (zAI (zAZ (zAI (zAI (zAZ (zAI (zAW results83 (v:=(.int .i64 1)) rfl ?_))))))))));exact ⟨zBO (by rw[hp.2.2,hd,zCC,if_pos hv]),E⟩
    ·have ad:=hv;replace hv:=by simpa using hv
     have hv2:0≤s.1∧s.1≤s.2∧s.2≤1114111:=by simp[zDd] at hv;omega
     refine zAP (zAC (zAK (zAA (qF b4 0 0 rfl underlying103 rfl zAv rfl (qV (zAL rfl zAf (B4.cell rfl)) (qM _ rfl (qV (zAy rfl rfl (zBV qO)) (qV (zBH rfl rfl) (zAB (qC rfl (fun ho=>?_) (fun ho=>?_)))))))))))
     ·refine zAA (qA _ rfl (zAB (zAR (zAI (zAZ (zAI (zAI (zAZ (zAI (zAW results83 (v:=(.int .i64 3)) rfl ?_))))))))));exact ⟨zBO (by rw[hp.2.2,hd,zCC,if_neg (by simp[hv]),if_pos (by simpa using ho)]),E⟩
     ·refine zAP (zAC (zAN (qF b4 0 1 rfl underlying103 rfl zAv rfl (qV (zAL rfl zAf (B4.cell rfl)) (qA _ rfl (zAB (zAS (zAC (zAN (qV (zAy rfl rfl (zBV qO)) (qM _ rfl (zAB (zAC ?_)))))))))))));exact ⟨l.length - (k+1),qO,k+1,s.2,zBA.out ⟨rfl,rfl,rfl,rfl,trivial⟩,E,qO,⟨qO,qO,by rw[hp.2.2,hd,zCC,if_neg (by simp[hv]),if_neg (by simpa using ho)]⟩,rfl⟩
   ·have ab:l.drop k=[]:=List.drop_eq_nil_of_le qO;refine zAp (zAX (zAX (zAj (zAC (zAA (qA _ rfl (zAB (zAR (zAW results83 (v:=(.int .i64 0)) rfl ?_)))))))));exact ⟨zBO (by rw[hp.2.2,ab];rfl),E⟩
theorem zMf (w0:World) (v:Value) (l:List (Int×Int)) (r:Int) (hs:zBQ w0 v l) :
  Ret prog 85 #[v,.int .i64 r] w0 fun v w=>v=.bool (inS l r)∧Ext w0 w:=by
 obtain ⟨a,c,rfl⟩:=zBq.form hs;have hle:l.length≤9223372036854775807:=by simpa using zBq.le hs
 simp only[List.length_map] at hs⊢;refine qR func85 rfl ntmps85 rfl (fun E=>(zAA (qA _ rfl (zAB (zAK (zAA (qM _ rfl (qV (zAM underlying22 rfl) (qM _ rfl (zAB (zAT (zAq (fun nn_ σ W1=>∃(k:Nat),(∃jj_,σ=zCH jj_ [(1,(I6 r)),(7,(.slice a l.length c)),(8,(I6 (l.length:Int))),(9,(I6 (k:Int)))])∧Chg zAo w0 W1∧(k≤l.length)∧(inS l r=inS (l.drop k) r)∧nn_=l.length - k) (n:=l.length - 0) ?_ ?_))))))))))))
 ·exact ⟨0,zBA.out ⟨rfl,rfl,rfl,rfl,trivial⟩,E,Nat.zero_le _,rfl,rfl⟩
 ·clear E;rintro _ _ W1 ⟨k,⟨j1,rfl⟩,E,hk,hp,rfl⟩;refine zAA (qV (zBH rfl rfl) (zAB (zAK (qC rfl (fun ag=>?_) (fun ag=>?_)))))
  ·obtain ⟨s,hx⟩:=zAU (l:=l) (i:=k) qO;obtain ⟨b,o,rfl,ae⟩:=zBN hs qO;have hd:=zBU hx;refine zAP (zAC (zAK (zAT (zAA (qV (zAH (b:=b) (o:=o) (len:=l.length) (cap:=c) (i:=k) (o':=o+k*2) rfl rfl rfl underlying22 zBB qO qO) (qV (zAG rfl zCi zBB rfl ((ae k s hx).ext E)) (zAg (v:=(.agg #[(I6 s.1),(I6 s.2)])) (c:=#[(I6 s.1),(I6 s.2)]) (n:=2) qD zCb rfl zBB rfl rfl rfl qS ?_)))))));intro b3 w3 N3;have F3:=N3.ge E;replace E:=E.ext N3.ext;have B3:=N3.blk;refine zAB (zAA (qF b3 0 0 rfl underlying103 rfl zAv rfl (qV (zAL rfl zAf (B3.cell rfl)) (qM _ rfl ?_))));obtain ⟨e4,ac⟩:∃e,(decide ((s.1:Int)≤r))=e:=⟨_,rfl⟩;refine qV ((zEd rfl rfl).trans (by rw[ac];try rfl)) (qM _ rfl (qG (.bool e4) (yU e4 (I6 r)) (by cases e4<;>first|exact gA|exact gB|exact .inl ⟨rfl,zAi rfl⟩) (qG (.bool e4) (yU e4 (P6 b3 1)) (by cases e4<;>first|exact gA|exact gB|exact .inl ⟨rfl,zAQ rfl underlying103 rfl zAv rfl⟩) (qG (.bool e4) (yU e4 (I6 s.2)) (by cases e4<;>first|exact gA|exact gB|exact .inl ⟨rfl,zAL rfl zAf (B3.cell rfl)⟩) ?_))));obtain ⟨e5,ab⟩:∃e,(decide ((r:Int)≤s.2))=e:=⟨_,rfl⟩;refine qG (.bool e4) (yU e4 (.bool e5)) (by cases e4<;>first|exact gA|exact gB|exact .inl ⟨rfl,(zEd rfl rfl).trans (by rw[ab];try rfl)⟩) ?_;obtain ⟨e6,aa⟩:∃e,(e4 && e5)=e:=⟨_,rfl⟩;refine qV (zAd (v:=.bool e6) rfl (by rw[←aa];cases e4<;>rfl)) (zAB ?_);subst aa;subst ab;subst ac;refine zAt rfl (fun hv=>?_) (fun hv=>?_)
   ·have af:=hv;refine zAA (qA _ rfl (zAB (zAR (zAZ (zAI (zAI (zAZ (zAI (zAW results85 (v:=(.bool true)) rfl ?_)))))))));exact ⟨zAx (by rw[hp,hd];unfold inS;rw[List.any_cons,hv];rfl),E⟩
   ·have af:=hv;refine zAP (zAS (zAC (zAN (qV (zAy rfl rfl (zBV qO)) (qM _ rfl (zAB (zAC ?_)))))));exact ⟨l.length - (k+1),qO,k+1,zBA.out ⟨rfl,rfl,rfl,rfl,trivial⟩,E,qO,(by rw[hp,hd];unfold inS;rw[List.any_cons,hv];rfl),rfl⟩
  ·have ad:l.drop k=[]:=List.drop_eq_nil_of_le qO;refine zAp (zAX (zAX (zAj (zAC (zAA (qA _ rfl (zAB (zAR (zAW results85 (v:=(.bool false)) rfl ?_)))))))));exact ⟨zAx (by rw[hp,ad];rfl),E⟩
theorem zMQ (w0:World) (v1 v2:Value) (l1 l2:List (Int×Int)) (h1:zBQ w0 v1 l1) (h2:zBQ w0 v2 l2) :
  Ret prog 67 #[v1,v2] w0 fun v w=>v=.bool (decide (l1=l2))∧Ext w0 w:=by
 obtain ⟨a1,c1,rfl⟩:=zBq.form h1;obtain ⟨a2,c2,rfl⟩:=zBq.form h2;have hb1:l1.length≤9223372036854775807:=by simpa using zBq.le h1
 simp only[List.length_map] at h1 h2⊢;refine qR func67 rfl ntmps67 rfl (fun E=>(zAA (qA _ rfl (zAB (zAK (zAA (qM _ rfl (qV (zAM underlying22 rfl) (qM _ rfl (qV (zAM underlying22 rfl) (qV (zBo rfl rfl) (zAB (qC rfl (fun hl=>?_) (fun hl=>?_))))))))))))))
 ·refine zAA (qA _ rfl (zAB (zAR (zAI (zAW results67 (v:=(.bool false)) rfl ?_)))));exact ⟨zAx (by symm;rw[decide_eq_false_iff_not];intro h;rw[h] at hl;exact hl rfl),E⟩
 ·refine zAP (zAC (zAK (zAA (qM _ rfl (qV (zAM underlying22 rfl) (qM _ rfl (zAB (zAT (zAq (fun nn_ σ W2=>∃(k:Nat),(∃jj_,σ=zCH jj_ [(0,(.slice a1 l1.length c1)),(1,(.slice a2 l2.length c2)),(12,(I6 (l1.length:Int))),(13,(I6 (k:Int)))])∧Chg zAo w0 W2∧(k≤l1.length)∧(∀(i:Nat),i<k→l1[i]?=l2[i]?)∧nn_=l1.length - k) (n:=l1.length - 0) ?_ ?_)))))))))
  ·exact ⟨0,zBA.out ⟨rfl,rfl,rfl,rfl,trivial⟩,E,Nat.zero_le _,(fun i h=>absurd h (Nat.not_lt_zero _)),rfl⟩
  ·clear E;rintro _ _ W2 ⟨k,⟨j2,rfl⟩,E,hk,ad,rfl⟩;refine zAA (qV (zBH rfl rfl) (zAB (zAK (qC rfl (fun ae=>?_) (fun ae=>?_)))))
   ·obtain ⟨p,hp⟩:=zAU (l:=l1) (i:=k) qO;obtain ⟨q,hq⟩:=zAU (l:=l2) (i:=k) qO;obtain ⟨b1,o1,rfl,ag⟩:=zBN h1 qO;obtain ⟨b2,o2,rfl,af⟩:=zBN h2 qO;refine zAP (zAC (zAK (zAT (zAA (qM _ rfl (qA _ rfl (zAB (zCs 8 mixed qK ?_))))))));intro w4 X4 _;replace E:=E.ext X4;refine qT (zAi rfl) (qT (zAi rfl) (qT (zAH (b:=b1) (o:=o1) (len:=l1.length) (cap:=c1) (i:=k) (o':=o1+k*2) rfl rfl rfl underlying22 zBB qO qO) (qT (zAG rfl zCi zBB rfl ((ag k p hp).ext E)) (qT (zAi rfl) (qT (zAi rfl) (qT (zAH (b:=b2) (o:=o2) (len:=l2.length) (cap:=c2) (i:=k) (o':=o2+k*2) rfl rfl rfl underlying22 zBB qO qO) (qT (zAG rfl zCi zBB rfl ((af k q hq).ext E)) (zEO (zCJ (v:=(.bool (!(decide (p.1=q.1) && decide (p.2=q.2))))) rfl rfl qD (zLJ zKq underlying103 qD qD rfl rfl rfl rfl underlying3 zAf zQu rfl rfl) (zAB (zAt rfl (fun aa=>?_) (fun aa=>?_))))))))))))
    ·have ab:=aa;replace aa:=by simpa using aa
     refine zAA (qA _ rfl (zAB (zAR (zAZ (zAI (zAI (zAZ (zAI (zAW results67 (v:=(.bool false)) rfl ?_)))))))));exact ⟨zAx (by symm;rw[decide_eq_false_iff_not];intro h;subst h;rw[hp] at hq;cases hq;simp at aa),E⟩
    ·have ab:=aa;replace aa:=by simpa using aa
     have ac:p=q:=by obtain ⟨p1,p2⟩:=p;obtain ⟨q1,q2⟩:=q;simp at aa;simp;exact aa
     refine zAP (zAS (zAC (zAN (qV (zAy rfl rfl (zBV qO)) (qM _ rfl (zAB (zAC ?_)))))));exact ⟨l1.length - (k+1),qO,k+1,zBA.out ⟨rfl,rfl,rfl,rfl,trivial⟩,E,qO,(fun i hi=>by rcases Nat.lt_or_ge i k with h|h;exact ad i h;obtain rfl:i=k:=qO;rw[hp,hq,ac]),rfl⟩
   ·have hkk:k=l1.length:=qO
    refine zAp (zAX (zAX (zAj (zAC (zAA (qA _ rfl (zAB (zAR (zAW results67 (v:=(.bool true)) rfl ?_)))))))));exact ⟨zAx (by symm;rw[decide_eq_true_eq];exact zIa qO (fun i hi=>ad i qO)),E⟩
end Go.Proofs
namespace Go.Proofs
open Go Go.Eng Go.Sort
set_option maxRecDepth 100000
def nx (p:List Int) (k:Nat):Int:=(p[k]?).getD 1114112
def zME (f:Int→Bool) (p:List Int):Prop:=∀a r,a∈p→a≤r→r≤1114111→(∀k∈p,k≤a∨r<k)→f r=f a
structure CInv (p:List Int) (f:Int→Bool) (ou:List Sp) (k:Nat):Prop where
 can:Canon ou
 low:∀s∈ou,s.2<nx p k
 mem:∀r,0≤r→r<nx p k→inS ou r=f r
theorem zCQ {l:List Sp} {p:List Int} (h:zEE l p) (hok:∀s∈l,vSp s) {k:Int} (hk:k∈p):0≤k∧k≤1114111:=by
 rcases (h.2 k).1 hk with h1|⟨s,hs,h1⟩
 ·omega
 ·have:=hok s hs;unfold vSp at this;omega
theorem zMV {p:List Int} (h:p.Pairwise (· < ·)) {k:Nat} {x:Int} (hx:p[k]?=some x) (hb:∀q∈p,q≤1114111):x<nx p (k+1):=by
  unfold nx;cases hy:p[k+1]? with
  | none=>have:=hb x (List.mem_of_getElem? hx);simp;omega
  | some y=>
    have h1:=zAa hy;have h2:=List.pairwise_iff_getElem.1 h k (k+1) qO h1 qO;rw[List.getElem?_eq_getElem qO] at hx hy;simp at hx hy;simp;omega
theorem zOf {p:List Int} (h:p.Pairwise (· < ·)) {k:Nat} {x r:Int} (hx:p[k]?=some x) (hr:r<nx p (k+1)):∀q∈p,q≤x∨r<q:=by
 intro q hq;obtain ⟨j,hj⟩:=List.mem_iff_getElem?.1 hq;have aa:=zAa hj;have ab:=zAa hx;rw[List.getElem?_eq_getElem aa] at hj;rw[List.getElem?_eq_getElem ab] at hx;simp at hj hx;rcases Nat.lt_trichotomy j k with h1|h1|h1
 ·have:=List.pairwise_iff_getElem.1 h j k aa ab h1;omega
 ·subst h1;omega
 ·right;unfold nx at hr;rw[List.getElem?_eq_getElem (show k+1<p.length by omega)] at hr;simp at hr;rcases Nat.eq_or_lt_of_le (show k+1≤j by omega) with h2|h2
  ·subst h2;omega
  ·have:=List.pairwise_iff_getElem.1 h (k+1) j (by omega) aa h2;omega
theorem zIM {l:List Sp} {p:List Int} (h:zEE l p) (hok:∀s∈l,vSp s):nx p 0=0:=by
  have h0:(0:Int)∈p:=(h.2 0).2 (.inl rfl);cases p with
  | nil=>cases h0
  | cons x r=>
    unfold nx;simp;rcases List.mem_cons.1 h0 with h1|h1
    · omega
    · have h2:=(List.pairwise_cons.1 h.1).1 0 h1;have h3:=zCQ h hok (k:=x) List.mem_cons_self;omega
theorem CInv.start {l:List Sp} {p:List Int} {f:Int→Bool} (h:zEE l p) (hok:∀s∈l,vSp s):CInv p f [] 0:=
 ⟨Canon.nil,fun _ h=>absurd h List.not_mem_nil,fun r h0 h1=>by rw[zIM h hok] at h1;omega⟩
theorem CInv.same {l:List Sp} {p:List Int} {f:Int→Bool} (h:zEE l p) (hok:∀s∈l,vSp s) (hc:zME f p) {k:Nat} {lo r:Int} (hlo:p[k]?=some lo) (h0:lo≤r) (h1:r<nx p (k+1)):f r=f lo:=by
  have hb:nx p (k+1)≤1114112:=by
    unfold nx;cases hy:p[k+1]? with
    | none=>simp
    | some y=>have:=zCQ h hok (List.mem_of_getElem? hy);simp;omega
  exact hc lo r (List.mem_of_getElem? hlo) h0 qO (zOf h.1 hlo h1)
theorem zQL {p:List Int} {k:Nat} {x:Int} (h:p[k]?=some x):nx p k=x:=by unfold nx;rw[h];rfl
theorem CInv.high {p:List Int} {f:Int→Bool} {ou:List Sp} {k:Nat} (h:CInv p f ou k) {r:Int} (hr:nx p k≤r):inS ou r=false:=by
  cases e:inS ou r with
  | false=>rfl
  | true=>obtain ⟨s,hs,_,h2⟩:=zFM.1 e;have:=h.low s hs;omega
theorem CInv.skip {l:List Sp} {p:List Int} {f:Int→Bool} {ou:List Sp} {k:Nat} {lo:Int} (h:CInv p f ou k) (hP:zEE l p) (hok:∀s∈l,vSp s) (hc:zME f p) (hlo:p[k]?=some lo) (hf:f lo=false):CInv p f ou (k+1):=by
 have hm:=zMV hP.1 hlo fun q hq=>(zCQ hP hok hq).2;have he:=zQL hlo;refine ⟨h.can,fun s hs=>by have:=h.low s hs;omega,fun r h0 h1=>?_⟩;rcases zQT r lo with h2|h2
 ·exact h.mem r h0 qO
 ·rw[h.high qO,CInv.same hP hok hc hlo h2 h1,hf]
def zSw (ou:List Sp) (lo hi:Int):List Sp:=match ou.getLast? with
  | some c=>if c.2=lo - 1 then ou.dropLast++[(c.1,hi)] else ou++[(lo,hi)]
  | none=>[(lo,hi)]
theorem zJo (o:List Sp) (c:Sp) (lo hi:Int):zSw (o++[c]) lo hi=if c.2=lo - 1 then o++[(c.1,hi)] else o++[c]++[(lo,hi)]:=by unfold zSw;simp
theorem CInv.take {l:List Sp} {p:List Int} {f:Int→Bool} {ou:List Sp} {k:Nat} {lo:Int} (h:CInv p f ou k) (hP:zEE l p) (hok:∀s∈l,vSp s) (hc:zME f p) (hlo:p[k]?=some lo) (hf:f lo=true):CInv p f (zSw ou lo (nx p (k+1) - 1)) (k+1):=by
  have hm:=zMV hP.1 hlo fun q hq=>(zCQ hP hok hq).2;have he:=zQL hlo;have ab:=zCQ hP hok (List.mem_of_getElem? hlo);have hb:nx p (k+1)≤1114112:=by
    unfold nx;cases hy:p[k+1]? with
    | none=>simp
    | some y=>have:=zCQ hP hok (List.mem_of_getElem? hy);simp;omega
  obtain ⟨hi,ac⟩:∃hi,hi=nx p (k+1) - 1:=⟨_,rfl⟩;rw[←ac];have aa:∀{ou':List Sp},(∀r,0≤r→inS ou' r=(inS ou r || (decide (lo≤r) && decide (r≤hi))))→∀r,0≤r→r<nx p (k+1)→inS ou' r=f r:=fun hh r h0 h1=>by
    rw[hh r h0];rcases zQT r lo with h2|h2
    · rw[h.mem r h0 qO,decide_eq_false (p:=lo≤r) qO];simp
    · rw[CInv.same hP hok hc hlo h2 h1,hf,decide_eq_true h2,decide_eq_true qO];simp
  rcases zFX ou with rfl|⟨o,c,rfl⟩
  · refine ⟨Canon.one ⟨ab.1,by simp only;omega,by simp only;omega⟩,fun s hs=>?_,aa fun r h0=>?_⟩
    · simp[zSw] at hs;subst hs;simp only;omega
    · show inS [(lo,hi)] r=_;rw[zCc,zFL,Bool.or_false,Bool.false_or]
  · obtain ⟨h1,h2,h3⟩:=zDn.1 h.can;have hcl:=h.low c qP;unfold vSp at h2;rw[zJo];split
    · rename_i h4
      refine ⟨zDn.2 ⟨h1,⟨h2.1,by simp only;omega,by simp only;omega⟩,h3⟩,fun s hs=>?_,aa fun r h0=>?_⟩
      · rcases List.mem_append.1 hs with hs|hs
        · have:=h.low s (by simp[hs]);omega
        · rw[List.mem_singleton] at hs;subst hs;simp only;omega
      · rw[zCk,zCk,Bool.or_assoc];congr 1;rw[Bool.eq_iff_iff];simp only[zCc,zFL,Bool.or_false,Bool.or_eq_true,Bool.and_eq_true,decide_eq_true_eq];omega
    · rename_i h4
      refine ⟨zDn.2 ⟨h.can,⟨ab.1,by simp only;omega,by simp only;omega⟩,fun t ht=>?_⟩,fun s hs=>?_,aa fun r h0=>?_⟩
      · rcases List.mem_append.1 ht with ht|ht
        · have:=h3 t ht;simp only;omega
        · rw[List.mem_singleton] at ht;subst ht;simp only;omega
      · rcases List.mem_append.1 hs with hs|hs
        · have:=h.low s hs;omega
        · rw[List.mem_singleton] at hs;subst hs;simp only;omega
      · rw[zCk _ [(lo,hi)]];congr 1;rw[zCc,zFL,Bool.or_false]
theorem CInv.done {p:List Int} {f:Int→Bool} {ou:List Sp} (h:CInv p f ou p.length):zEF ou f:=
 ⟨h.can,fun r h0 h1=>h.mem r h0 (by unfold nx;rw[List.getElem?_eq_none (Nat.le_refl _)];simp;omega)⟩
theorem zQj {l:List Sp} {p:List Int} (h1:∀s∈l,s.1∈p) (h2:∀s∈l,s.2<1114111→s.2+1∈p):zME (inS l) p:=by
 intro a r ha har hr ab;rw[Bool.eq_iff_iff,zFM,zFM];have aa:∀s∈l,(s.1≤r∧r≤s.2)↔(s.1≤a∧a≤s.2):=fun s hs=>by
  have q1:=ab s.1 (h1 s hs);by_cases h3:s.2<1114111
  ·have q2:=ab (s.2+1) (h2 s hs h3);omega
  ·omega
 constructor
 ·rintro ⟨s,hs,h⟩;exact ⟨s,hs,(aa s hs).1 h⟩
 ·rintro ⟨s,hs,h⟩;exact ⟨s,hs,(aa s hs).2 h⟩
theorem zLO {ll:List (List Sp)} {p:List Int} (h:zEE ll.flatten p) {l:List Sp} (hl:l∈ll):zME (inS l) p:=
 zQj (fun s hs=>(h.2 _).2 (.inr ⟨s,List.mem_flatten.2 ⟨l,hl,hs⟩,.inl rfl⟩)) (fun s hs hm=>(h.2 _).2 (.inr ⟨s,List.mem_flatten.2 ⟨l,hl,hs⟩,.inr ⟨hm,rfl⟩⟩))
theorem zTj:∀{p:List Int} {lo hi:Int},p.Pairwise (· < ·)→(∀q∈p,lo≤q∧q≤hi)→lo≤hi+1→((p.length:Nat):Int)≤hi - lo+1
  | [],_,_,_,_,h=>by simp;omega
  | x::r,lo,hi,hp,hb,h=>by
    have h1:=hb x List.mem_cons_self;have h2:=zTj (lo:=x+1) (hi:=hi) (List.pairwise_cons.1 hp).2 (fun q hq=>⟨by have:=(List.pairwise_cons.1 hp).1 q hq;omega,(hb q (List.mem_cons_of_mem _ hq)).2⟩) qO;simp only[List.length_cons];omega
theorem zMU {p:List Int} (hp:p.Pairwise (· < ·)) (hb:∀q∈p,0≤q∧q≤1114111):p.length≤1114112:=by
 have:=zTj (lo:=0) (hi:=1114111) hp hb qO;omega
theorem zTC (w0:World) (fv v:Value) (f:Int→Bool) (ll:List (List Sp)) (h:zBy w0 v ll) (hl:ll.flatten.length≤8796093022200) (hok:∀s∈ll.flatten,vSp s) (hc:∀p,zEE ll.flatten p→zME f p)
  (hf:∀(w:World) (x:Int),Ext w0 w→zCD prog fv #[.int .i64 x] w fun r w'=>r=.bool (f x)∧Ext w w') :
  Ret prog 87 #[fv,v] w0 fun r w=>(∃out,zEF out f∧zPR w w0.heap.size r out)∧Ext w0 w:=by
 refine qR func87 rfl ntmps87 rfl (fun E=>(zAA (qA _ rfl (zAB (zAA (qA _ rfl (zAB (zAA (qM v rfl (qE rfl (zAV func84 zaS zaf rfl) (zNX _ v ll h qO hok) ?_))))))))));rintro _ w9 ⟨⟨p,hP,⟨pa,pc,rfl⟩,hp⟩,X9⟩;replace E:=E.ext X9;have am:∀q∈p,0≤q∧q≤1114111:=fun q hq=>zCQ hP hok hq;have aq:=hc p hP;have hs0:=E.size;have hpl:p.length≤1114112:=zMU hP.1 am;obtain ⟨base,ar⟩:∃base,base=w9.heap.size:=⟨_,rfl⟩;have E2:Chg zAo w9 w9:=Chg.refl _ _;refine qA _ rfl (zAB (zAK (zAA (qM _ rfl (qV (zAM underlying26 rfl) (qM _ rfl (zAB (zAT (zAq (fun nn_ σ W1=>∃(k:Nat) (la:Option Addr) (lc:Nat) (m:Nat) (ou:List Sp),(∃jj_,σ=zCH jj_ [(0,fv),(6,(.slice pa p.length pc)),(13,(.slice pa p.length pc)),(14,(I6 (p.length:Int))),(15,(I6 (k:Int))),(5,(.slice la m lc))])∧Chg zAo w0 W1∧Chg zAo w9 W1∧(k≤p.length)∧(m=ou.length)∧(m≤k)∧(CInv p f ou k)∧(W1.ownsRow base TSp 2 (.slice la m lc) m (ou.map zBh).flatten)∧(base≤W1.heap.size)∧nn_=p.length - k) (n:=p.length - 0) ?_ ?_)))))))))
 ·exact ⟨0,none,0,0,[],zBA.out ⟨rfl,rfl,rfl,rfl,rfl,rfl,trivial⟩,E,E2,Nat.zero_le _,rfl,Nat.le_refl _,CInv.start hP hok,World.ownsRow_nil _ _ _ _,qO,rfl⟩
 ·clear E E2;rintro _ _ W1 ⟨k,la,lc,m,ou,⟨j1,rfl⟩,E,E2,hk,hm,hmk,hI,aa,ac,rfl⟩;refine zAA (qV (zBH rfl rfl) (zAB (zAK (qC rfl (fun a4=>?_) (fun a4=>?_)))))
  ·obtain ⟨lo,ai⟩:=zAU (l:=p) (i:=k) qO;have hlb:=am lo (List.mem_of_getElem? ai);obtain ⟨b,o,au,ao⟩:=zBu hp qO;subst au;refine zAP (zAC (zAK (zAT (zAA (qM _ rfl (qV (zAH (b:=b) (o:=o) (len:=p.length) (cap:=pc) (i:=k) (o':=o+k) rfl rfl rfl underlying26 zAv qO qO) (qV (zAL rfl zAf (E2.cell (fun f=>f) (ao k lo ai))) (qA _ rfl (qA _ rfl (zAB (zAA (qA _ rfl (zAB (zHi (fun σ W3=>∃(hi:Int),(∃jj_,σ=zCH jj_ [(0,fv),(5,(.slice la m lc)),(6,(.slice (some ⟨b,o,none⟩) p.length pc)),(8,(I6 lo)),(13,(.slice (some ⟨b,o,none⟩) p.length pc)),(14,(I6 (p.length:Int))),(15,(I6 (k:Int))),(9,(I6 hi))])∧Chg zAo w0 W3∧Chg zAo w9 W3∧(hi=nx p (k+1) - 1)∧(W3.ownsRow base TSp 2 (.slice la m lc) m (ou.map zBh).flatten)∧(base≤W3.heap.size)) ?_ ?_))))))))))))))
   ·skip
    refine zAA (qM _ rfl (qM _ rfl (qV (zAM underlying26 rfl) (qV (zDS rfl rfl (zBV qO)) (qV (zBH rfl rfl) (zAB (qC rfl (fun ax=>?_) (fun ax=>?_))))))))
    ·obtain ⟨y,hy⟩:=zAU (l:=p) (i:=k+1) qO;have hyb:=am y (List.mem_of_getElem? hy);refine zAN (qM _ rfl (qM _ rfl (qV (zAy rfl rfl (zBV qO)) (qV (zAH (b:=b) (o:=o) (len:=p.length) (cap:=pc) (i:=k+1) (o':=o+(k+1)) rfl rfl qO underlying26 zAv qO qO) (qV (zAL rfl zAf (E2.cell (fun f=>f) (ao (k+1) y hy))) (qV (zDS rfl rfl (zBV qO)) (qA _ rfl (zAB (zAC ?_)))))))));exact ⟨(y - 1),zBA.out ⟨rfl,rfl,rfl,rfl,rfl,rfl,rfl,rfl,trivial⟩,E,E2,(by rw[zQL hy]),aa,ac⟩
    ·refine zAP (zAC ?_);exact ⟨1114111,zBA.out ⟨rfl,rfl,rfl,rfl,rfl,rfl,rfl,rfl,trivial⟩,E,E2,(by unfold nx;rw[List.getElem?_eq_none qO];rfl),aa,ac⟩
   ·clear E E2;rintro _ W3 ⟨hi,⟨j3,rfl⟩,E,E2,az,aa,ac⟩;refine zAK (zAA (qM _ rfl (qM _ rfl (zCZ qD rfl rfl (hf _ lo E) ?_))));rintro _ w8 ⟨rfl,X8⟩;replace aa:=zAn aa X8;replace ac:=Nat.le_trans ac X8.size;replace E:=E.ext X8;replace E2:=E2.ext X8;refine qV (zCf rfl) (zAB (zAt rfl (fun af=>?_) (fun af=>?_)))
    ·have aj:=af;replace af:=by simpa using af
     refine zAp (zAX (zAj (zAC (zAN (qV (zAy rfl rfl (zBV qO)) (qM _ rfl (zAB (zAC ?_))))))));exact ⟨p.length - (k+1),qO,k+1,la,lc,m,ou,zBA.out ⟨rfl,rfl,rfl,rfl,rfl,rfl,trivial⟩,E,E2,qO,hm,qO,hI.skip hP hok aq ai af,aa,ac,rfl⟩
    ·have aj:=af;replace af:=by simpa using af
     have hT:=hI.take hP hok aq ai af;rw[←az] at hT;rcases Bool.eq_false_or_eq_true (decide ((0:Int)≤((m:Nat):Int) - 1)) with ab|ab
     ·have ae:=ab;replace ae:=of_decide_eq_true ae;obtain ⟨oo,cc,a3⟩:∃oo cc,ou=oo++[cc]:=by rcases zFX ou with rfl|h1;simp at hm;omega;exact h1
      subst a3;have ap:m=oo.length+1:=by simpa using hm
      rw[zJo] at hT;obtain ⟨g,rfl,hgb,hgc⟩:=zCn aa qO;refine zAP (zAC (zAA (qM _ rfl (qV (zAM underlying22 rfl) (qV (zDS rfl rfl (zBV qO)) (qA _ rfl (zAB (zAA (qM _ rfl (qV (zFG rfl rfl) (qM _ rfl (zAF rfl rfl qD (cbk ab) (qM _ rfl (zAF rfl rfl qD (cbk ab) (qM _ rfl (zAF rfl rfl qD (cbk ab) (qV (zAH (b:=g) (o:=0) (len:=m) (cap:=lc) (i:=m - 1) (o':=0+(m - 1)*2) rfl rfl qO underlying22 zBB qO qO) ?_)))))))))))))))));refine zAF rfl rfl qD (cbk ab) (qF _ _ _ rfl underlying103 rfl zAv rfl (zAF rfl rfl qD (cbk ab) (qV (zAL (v:=(I6 cc.2)) rfl zAf ((by have h1:=(aa.cells (g:=g) rfl) (oo.length*2+1) _ (zIB oo cc);rwa [Addr.add_lit,show 0+(oo.length*2+1)=0+(m - 1)*2+1 from qO] at h1))) (zAF rfl rfl qD (cbk ab) (qM _ rfl (zAF rfl rfl qD (cbk ab) (qV (zDS rfl rfl (zBV qO)) (zAF rfl rfl qD (cbk ab) (qV (zAk rfl rfl) (qV (zAd (v:=(.bool (decide ((cc.2:Int)=lo - 1)))) rfl (by rw[ab];rfl)) (zAB (qC rfl (fun hj=>?_) (fun hj=>?_)))))))))))))
      ·rw[if_pos hj] at hT;obtain ⟨ay,hB,hcs⟩:=zIP aa;refine zAN (qM _ rfl (qM _ rfl (qM _ rfl (qV (zAH (b:=g) (o:=0) (len:=m) (cap:=lc) (i:=m - 1) (o':=0+(m - 1)*2) rfl rfl qO underlying22 zBB qO qO) (qF _ _ _ rfl underlying103 rfl zAv rfl ?_)))));have a1:=hB;refine zBr (b:=g) (o:=0+(m - 1)*2+1) (c':=ay.setIfInBounds (0+(m - 1)*2+1) (I6 hi)) (v:=(I6 hi)) rfl rfl rfl zAv hB qO (rfl) ?_;intro w7 S7;replace E:=S7.step E qQ;replace E2:=S7.step E2 (Or.inl qO);replace hB:=S7.blk;have ad:=zGR aa a1 (i:=0+(m - 1)*2+1) qO hB;refine zAB (zAS (zAC (zAN (qV (zAy rfl rfl (zBV qO)) (qM _ rfl (zAB (zAC ?_)))))));exact ⟨p.length - (k+1),qO,k+1,some ⟨g,0,none⟩,lc,m,oo++[(cc.1,hi)],zBA.out ⟨rfl,rfl,rfl,rfl,rfl,rfl,trivial⟩,E,E2,qO,(by simp[ap]),qO,hT,(by rw[show 0+(m - 1)*2+1=oo.length*2+1 from qO,zNF] at ad;exact ad),(by have:=ad.lt g rfl;omega),rfl⟩
      ·rw[if_neg hj] at hT;refine zAN (qM _ rfl (qM _ rfl (qM _ rfl (qV (zBd (ps:=[(0,(I6 lo)),(1,(I6 hi))]) (v:=(.agg #[(I6 lo),(I6 hi)])) rfl qK) (zAh (ps:=[(0,(.agg #[(I6 lo),(I6 hi)]))]) (c:=#[(I6 lo),(I6 hi)]) qD rfl underlying22 zBB zCb qD qD qK ?_)))));intro br wr Nr;have Fr:=Nr.ge E;have Fr_E2:=Nr.ge E2;replace aa:=zAn aa Nr.ext;replace ac:=Nat.le_trans ac Nr.ext.size;replace E:=E.ext Nr.ext;have Br:=Nr.blk;replace E2:=E2.ext Nr.ext;refine zBC (base:=base) (n:=m) (m:=1) (xs:=((oo++[cc]).map zBh).flatten) (news:=[(I6 lo),(I6 hi)]) (size:=2) (bytes:=16) (v:=(.slice (some ⟨g,0,none⟩) m lc)) qD underlying22 zBB zIl zCb rfl qD rfl aa rfl (rfl) (Br.cells rfl) qS (by unfold maxLen;omega) qO (ac) ?_;intro v9 av ah ag a2;replace E:=E.step ag (fun x hx h=>absurd (aa.lt x h).1 qO);replace E2:=E2.step ag (fun x hx h=>absurd (aa.lt x h).1 qO);obtain ⟨ak,al,rfl⟩:=zAw ah;refine qA _ rfl (zAB (zAS (zAC (zAN (qV (zAy rfl rfl (zBV qO)) (qM _ rfl (zAB (zAC ?_))))))));exact ⟨p.length - (k+1),qO,k+1,ak,al,m+1,oo++[cc]++[(lo,hi)],zBA.out ⟨rfl,rfl,rfl,rfl,rfl,rfl,trivial⟩,E,E2,qO,(by simp[ap]),qO,hT,(by rw[zEW];exact ah),Nat.le_trans ac ag.size,rfl⟩
     ·have ae:=ab;replace ae:=of_decide_eq_false ae;have aw:m=0:=qO
      have an:ou=[]:=List.eq_nil_of_length_eq_zero qO;subst an;refine zAP (zAC (zAA (qM _ rfl (qV (zAM underlying22 rfl) (qV (zDS rfl rfl (zBV qO)) (qA _ rfl (zAB (zAA (qM _ rfl (qV (zFG rfl rfl) (qM _ rfl (zAE rfl rfl qD (v:=.bool false) (cbk ab) (Or.inl rfl) (zAE rfl rfl qD (v:=.bool false) (cbk ab) (Or.inl rfl) (zAE rfl rfl qD (v:=.bool false) (cbk ab) (Or.inl rfl) (zAE rfl rfl qD (v:=.bool false) (cbk ab) (Or.inl rfl) (zAE rfl rfl qD (v:=.bool false) (cbk ab) (Or.inl rfl) (zAE rfl rfl qD (v:=.bool false) (cbk ab) (Or.inl rfl) ?_)))))))))))))))));refine zAE rfl rfl qD (v:=.bool false) (cbk ab) (Or.inl rfl) (zAE rfl rfl qD (v:=.bool false) (cbk ab) (Or.inl rfl) (qV (zAd (v:=(.bool false)) rfl (by rw[ab];rfl)) (zAB (zAb rfl (zAN (qM _ rfl (qM _ rfl (qM _ rfl (qV (zBd (ps:=[(0,(I6 lo)),(1,(I6 hi))]) (v:=(.agg #[(I6 lo),(I6 hi)])) rfl qK) (zAh (ps:=[(0,(.agg #[(I6 lo),(I6 hi)]))]) (c:=#[(I6 lo),(I6 hi)]) qD rfl underlying22 zBB zCb qD qD qK ?_))))))))));intro b8 w8 N8;have F8:=N8.ge E;have F8_E2:=N8.ge E2;replace aa:=zAn aa N8.ext;replace ac:=Nat.le_trans ac N8.ext.size;replace E:=E.ext N8.ext;have B8:=N8.blk;replace E2:=E2.ext N8.ext;refine zBC (base:=base) (n:=m) (m:=1) (xs:=[]) (news:=[(I6 lo),(I6 hi)]) (size:=2) (bytes:=16) (v:=(.slice la m lc)) qD underlying22 zBB zIl zCb rfl qD rfl aa rfl (rfl) (B8.cells rfl) qS (by unfold maxLen;omega) qO (ac) ?_;intro v9 av ah ag a2;replace E:=E.step ag (fun x hx h=>absurd (aa.lt x h).1 qO);replace E2:=E2.step ag (fun x hx h=>absurd (aa.lt x h).1 qO);obtain ⟨ak,al,rfl⟩:=zAw ah;refine qA _ rfl (zAB (zAS (zAC (zAN (qV (zAy rfl rfl (zBV qO)) (qM _ rfl (zAB (zAC ?_))))))));exact ⟨p.length - (k+1),qO,k+1,ak,al,m+1,[(lo,hi)],zBA.out ⟨rfl,rfl,rfl,rfl,rfl,rfl,trivial⟩,E,E2,qO,(by simp[aw]),qO,hT,(by simpa[zBh] using ah),Nat.le_trans ac ag.size,rfl⟩
  ·have a0:k=p.length:=qO
   refine zAp (zAX (zAX (zAj (zAC (zAA (qM _ rfl (qA _ rfl (zAB (zAR (zAW results87 (v:=(.slice la m lc)) rfl ?_))))))))));subst a0;subst hm;exact ⟨⟨ou,hI.done,⟨la,lc,rfl⟩,zKK aa qO⟩,E⟩
end Go.Proofs
namespace Go.Proofs
open Go Go.Eng Go.Sort
set_option maxRecDepth 100000
theorem zLT:∀{p q:List Int},p.Pairwise (· < ·)→q.Pairwise (· < ·)→(∀x,x∈p↔x∈q)→p=q
  | [],[],_,_,_=>rfl
  | [],y::q,_,_,h=>absurd ((h y).2 List.mem_cons_self) List.not_mem_nil
  | x::p,[],_,_,h=>absurd ((h x).1 List.mem_cons_self) List.not_mem_nil
  | x::p,y::q,hp,hq,h=>by
    have h1:=List.pairwise_cons.1 hp;have h2:=List.pairwise_cons.1 hq;have e:x=y:=by
      rcases List.mem_cons.1 ((h x).1 List.mem_cons_self) with h3|h3
      · exact h3
      · rcases List.mem_cons.1 ((h y).2 List.mem_cons_self) with h4|h4
        · exact h4.symm
        · have:=h1.1 y h4;have:=h2.1 x h3;omega
    subst e;rw[zLT h1.2 h2.2 fun z=>?_];constructor
    · intro hz;rcases List.mem_cons.1 ((h z).1 (List.mem_cons_of_mem _ hz)) with h3|h3
      · subst h3;have:=h1.1 z hz;omega
      · exact h3
    · intro hz;rcases List.mem_cons.1 ((h z).2 (List.mem_cons_of_mem _ hz)) with h3|h3
      · subst h3;have:=h2.1 z hz;omega
      · exact h3
end Go.Proofs
namespace Go.Proofs
open Go Go.Eng Go.Sort
def zBI (ll:List (List Sp)) (r:Int):List Bool:=ll.map fun l=>inS l r
def zMF (acc:List (List Bool)) (m:List Bool):List (List Bool):=if m∈acc then acc else acc++[m]
def zDF (l:List (List Bool)):List (List Bool):=l.foldl zMF []
theorem zEq (l:List (List Bool)) (m:List Bool):zDF (l++[m])=zMF (zDF l) m:=by simp[zDF,List.foldl_append]
theorem zTQ {acc:List (List Bool)} {m x:List Bool}:x∈zMF acc m↔x∈acc∨x=m:=by
 unfold zMF;split
 ·constructor
  ·exact .inl
  ·rintro (h|rfl)<;>assumption
 ·simp
theorem zPF {acc:List (List Bool)} {m:List Bool} (h:acc.Nodup):(zMF acc m).Nodup:=by
 unfold zMF;split
 ·exact h
 ·rename_i hm
  rw[List.nodup_append];exact ⟨h,qP,fun a ha b hb=>by rw[List.mem_singleton] at hb;subst hb;exact fun e=>hm (e▸ha)⟩
theorem zFZ {ll:List (List Sp)} {p:List Int} (hp:zEE ll.flatten p) (hok:∀s∈ll.flatten,vSp s) {i:Nat} {lo r:Int} (hlo:p[i]?=some lo) (h0:lo≤r) (h1:r<nx p (i+1)):zBI ll r=zBI ll lo:=by
 unfold zBI;apply List.map_congr_left;intro l hl;exact CInv.same hp hok (zLO hp hl) hlo h0 h1
structure GInv (ll:List (List Sp)) (p:List Int) (i:Nat) (ks:List (List Bool)) (outs:List (List Sp)):Prop where
 keys:ks=zDF ((p.take i).map (zBI ll))
 nd:ks.Nodup
 len:outs.length=ks.length
 cnt:ks.length≤i
 ok:∀(k:Nat) o,outs[k]?=some o→(∀s∈o,vSp s)∧o.length≤i
 cov:∀r,0≤r→r<nx p i→zBI ll r∈ks
 mem:∀(k:Nat) key o r,ks[k]?=some key→outs[k]?=some o→0≤r→r≤1114111→inS o r=(decide (r<nx p i) && decide (zBI ll r=key))
theorem GInv.start {ll:List (List Sp)} {p:List Int} (hp:zEE ll.flatten p) (hok:∀s∈ll.flatten,vSp s):GInv ll p 0 [] [] where
 keys:=rfl
 nd:=List.nodup_nil
 len:=rfl
 cnt:=Nat.le_refl _
 ok:=fun k o h=>by simp at h
 cov:=fun r h0 h1=>by rw[zIM hp hok] at h1;omega
 mem:=fun k key o r h=>by simp at h
theorem zQl {l:List (List Bool)} (h:l.Nodup) {i j:Nat} {x:List Bool} (hi:l[i]?=some x) (hj:l[j]?=some x):i=j:=by
 have h1:=zAa hi;have h2:=zAa hj;rw[List.getElem?_eq_getElem h1] at hi;rw[List.getElem?_eq_getElem h2] at hj;have e:=(Option.some.inj hi).trans (Option.some.inj hj).symm;rcases Nat.lt_trichotomy i j with h3|h3|h3
 ·exact absurd e (List.pairwise_iff_getElem.1 h i j h1 h2 h3)
 ·exact h3
 ·exact absurd e.symm (List.pairwise_iff_getElem.1 h j i h2 h1 h3)
theorem zSc (o:List Sp) (x:Sp) (r:Int):inS (o++[x]) r=(inS o r || (decide (x.1≤r) && decide (r≤x.2))):=by
  induction o with
  | nil=>simp[zCc,zFL]
  | cons y o ih=>simp only[List.cons_append,zCc,ih,Bool.or_assoc]
theorem GInv.step {ll:List (List Sp)} {p:List Int} {i k:Nat} {ks ks1:List (List Bool)} {outs outs1:List (List Sp)} {o:List Sp} {lo:Int} (h:GInv ll p i ks outs) (hp:zEE ll.flatten p) (hok:∀s∈ll.flatten,vSp s) (hlo:p[i]?=some lo)
    (hk:ks1=zMF ks (zBI ll lo)) (hl1:outs1.length=ks1.length) (hsame:∀(j:Nat) q,outs1[j]?=some q→outs[j]?=some q∨(j=ks.length∧q=[]∧zBI ll lo∉ks)) (hkm:ks1[k]?=some (zBI ll lo)) (ho:outs1[k]?=some o) :
    GInv ll p (i+1) ks1 (outs1.set k (o++[(lo,nx p (i+1) - 1)])):=by
  have al:=zCQ hp hok (List.mem_of_getElem? hlo);have ai:∀q∈p,q≤1114111:=fun q hq=>(zCQ hp hok hq).2;have hnx:=zMV hp.1 hlo ai;have aa:nx p i=lo:=by unfold nx;rw[hlo];rfl
  have ak:nx p (i+1)≤1114112:=by
    unfold nx;cases hq:p[i+1]? with
    | none=>simp
    | some y=>have:=ai y (List.mem_of_getElem? hq);simp;omega
  have hkl:=zAa ho;have ag:ks1.Nodup:=by rw[hk];exact zPF h.nd
  have ah:vSp (lo,nx p (i+1) - 1):=by unfold vSp;simp;omega
  have ac:∀(j:Nat) ab,ks1[j]?=some ab→j<ks.length→ks[j]?=some ab:=by
    intro j ab h1 h2;rw[hk] at h1;unfold zMF at h1;split at h1
    · exact h1
    · rwa [List.getElem?_append_left h2] at h1
  refine ⟨?_,ag,by simp[hl1],by rw[hk];unfold zMF;have:=h.cnt;split;omega;simp;omega,?_,?_,?_⟩
  · rw[hk,zCP hlo,List.map_append,List.map_cons,List.map_nil,zEq,←h.keys]
  · intro j q hq;rw[List.getElem?_set] at hq;split at hq
    · rename_i hkj
      have ad:=Option.some.inj hq;subst ad;rcases hsame k o ho with h2|⟨_,h2,_⟩
      · have h3:=h.ok k o h2;exact ⟨fun s hs=>by rcases List.mem_append.1 hs with h4|h4;exact h3.1 s h4;rw[List.mem_singleton] at h4;subst h4;exact ah,by simp;omega⟩
      · subst h2;exact ⟨fun s hs=>by simp at hs;subst hs;exact ah,by simp⟩
    · rcases hsame j q hq with h2|⟨_,h2,_⟩
      · exact ⟨(h.ok j q h2).1,by have:=(h.ok j q h2).2;omega⟩
      · subst h2;exact ⟨fun s hs=>absurd hs List.not_mem_nil,by simp⟩
  · intro r h0 h1;rw[hk,zTQ];rcases zQT r lo with h2|h2
    · exact .inl (h.cov r h0 (by rw[aa];exact h2))
    · exact .inr (zFZ hp hok hlo h2 h1)
  · intro j ab q r hj hq h0 h1;rw[List.getElem?_set] at hq;split at hq
    · rename_i hkj
      have ad:=Option.some.inj hq;subst ad;subst hkj;rw[hkm] at hj;have ae:=Option.some.inj hj;subst ae;rw[zSc];have am:inS o r=(decide (r<lo) && decide (zBI ll r=zBI ll lo)):=by
        rcases hsame k o ho with h2|⟨_,h2,h3⟩
        · have:=h.mem k _ o r (ac k _ hkm (by have:=zAa h2;have:=h.len;omega)) h2 h0 h1;rw[aa] at this;exact this
        · subst h2;symm;rw[zFL,Bool.and_eq_false_iff];rcases zQT r lo with h4|h4
          · right;rw[decide_eq_false_iff_not];intro h5;exact h3 (h5▸h.cov r h0 (by rw[aa];exact h4))
          · left;rw[decide_eq_false_iff_not];omega
      rw[am];rcases zQT r lo with h4|h4
      · have e1:decide (r<lo)=true:=decide_eq_true h4;have e2:decide (lo≤r)=false:=decide_eq_false (by omega);have e3:decide (r<nx p (i+1))=true:=decide_eq_true (by omega);simp only[e1,e2,e3,Bool.true_and,Bool.false_and,Bool.or_false]
      · have e1:decide (r<lo)=false:=decide_eq_false (by omega);have e2:decide (lo≤r)=true:=decide_eq_true h4;simp only[e1,e2,Bool.true_and,Bool.false_and,Bool.false_or];rcases zQT r (nx p (i+1)) with h5|h5
        · rw[decide_eq_true h5,decide_eq_true (zFZ hp hok hlo h4 h5)];simp;omega
        · rw[decide_eq_false (show ¬r<nx p (i+1) by omega)];simp;omega
    · rename_i hkj
      have af:ab≠zBI ll lo:=fun e=>by subst e;exact hkj (zQl ag hkm hj)
      rcases hsame j q hq with h2|⟨h2,_,h3⟩
      · have aj:j<ks.length:=by have:=zAa h2;have:=h.len;omega
        have:=h.mem j ab q r (ac j ab hj aj) h2 h0 h1;rw[this,aa];rcases zQT r lo with h4|h4
        · rw[decide_eq_true h4,decide_eq_true (show r<nx p (i+1) by omega)]
        · rw[decide_eq_false (show ¬r<lo by omega)];rcases zQT r (nx p (i+1)) with h5|h5
          · rw[zFZ hp hok hlo h4 h5,decide_eq_false (show ¬zBI ll lo=ab from fun e=>af e.symm)];simp
          · rw[decide_eq_false (show ¬r<nx p (i+1) by omega)]
      · exfalso;subst h2;rw[hk] at hj;unfold zMF at hj;rw[if_neg h3,List.getElem?_append_right (Nat.le_refl _)] at hj;simp at hj;exact af hj.symm
def zPE:List (List Sp)→Int
  | []=>0
  | l::ll=>if zBR l≠0 then zBR l else zPE ll
def zPQ (ll:List (List Sp)) (cs:List (List Sp)):Prop:=∃p,zEE ll.flatten p∧cs.length=(zDF (p.map (zBI ll))).length∧∀(k:Nat) key c,(zDF (p.map (zBI ll)))[k]?=some key→cs[k]?=some c→zEF c (fun r=>decide (zBI ll r=key))
def zLU (cs:List (List Sp)):Prop:=(∃c∈cs,16<c.length)∨16<cs.length
def zJp (ll out:List (List Sp)) (e:Int):Prop:=(zPE ll≠0∧e=zPE ll∧out=[])∨(zPE ll=0∧∃cs,zPQ ll cs∧((zLU cs∧e=2∧out=[])∨(¬zLU cs∧e=0∧out=cs)))
theorem zPQ.uniq {ll cs cs':List (List Sp)} (h:zPQ ll cs) (h':zPQ ll cs'):cs=cs':=by
 obtain ⟨p,hp,hl,hm⟩:=h;obtain ⟨q,hq,hl',ac⟩:=h';obtain rfl:p=q:=zLT hp.1 hq.1 fun x=>(hp.2 x).trans (hq.2 x).symm;apply zIa qO;intro i hi;obtain ⟨c,hc⟩:=zAU (l:=cs) (i:=i) hi;obtain ⟨c',aa⟩:=zAU (l:=cs') (i:=i) qO;obtain ⟨ab,hk⟩:=zAU (l:=zDF (p.map (zBI ll))) (i:=i) qO;rw[hc,aa,zEF.eq (hm i ab c hk hc) (ac i ab c' hk aa) fun _ _ _=>rfl]
theorem zJp.uniq {ll o o':List (List Sp)} {e e':Int} (h:zJp ll o e) (h':zJp ll o' e'):e=e'∧o=o':=by
 rcases h with ⟨h1,rfl,rfl⟩|⟨h1,cs,hc,hf⟩<;>rcases h' with ⟨h2,rfl,rfl⟩|⟨h2,ds,hd,hg⟩
 ·exact ⟨rfl,rfl⟩
 ·exact absurd h2 h1
 ·exact absurd h1 h2
 ·obtain rfl:=hc.uniq hd;rcases hf with ⟨h3,rfl,rfl⟩|⟨h3,rfl,rfl⟩<;>rcases hg with ⟨h4,rfl,rfl⟩|⟨h4,rfl,rfl⟩
  ·exact ⟨rfl,rfl⟩
  ·exact absurd h3 h4
  ·exact absurd h4 h3
  ·exact ⟨rfl,rfl⟩
theorem GInv.done {ll:List (List Sp)} {p:List Int} {ks:List (List Bool)} {outs cs:List (List Sp)} (h:GInv ll p p.length ks outs) (hp:zEE ll.flatten p) (hl:cs.length=outs.length) (hj:∀(k:Nat) o c,outs[k]?=some o→cs[k]?=some c→zFr o c):zPQ ll cs:=by
 have aa:=h.keys;rw[List.take_length] at aa;refine ⟨p,hp,by rw[←aa,hl,h.len],fun k ab c hk hc=>?_⟩;rw[←aa] at hk;obtain ⟨o,ho⟩:=zAU (l:=outs) (i:=k) (by have:=zAa hc;omega);have h1:=zEF.join (hj k o c ho hc) (h.ok k o ho).1;refine ⟨h1.1.1,fun r r0 r1=>?_⟩;rw[h1.1.2 r r0 r1,h.mem k ab o r hk ho r0 r1];have:r<nx p p.length:=by unfold nx;rw[List.getElem?_eq_none (Nat.le_refl _)];simp;omega
 rw[decide_eq_true this];simp
end Go.Proofs
namespace Go.Proofs
open Go Go.Eng Go.Sort
abbrev TSs:Nat:=22
structure CSt (w:World) (base:Nat) (vo:Value) (vs:List Value) (outs:List (List Sp)):Prop where
 o:w.ownsRow base TSs 1 vo outs.length vs
 len:vs.length=outs.length
 inn:∀(i:Nat) v l,vs[i]?=some v→outs[i]?=some l→w.ownsRow base TSp 2 v l.length (l.map zBh).flatten
 ap:∀(i j:Nat) v u b,vs[i]?=some v→vs[j]?=some u→v.ownBlock=some b→u.ownBlock=some b→i=j
 apo:∀(i:Nat) v b,vs[i]?=some v→v.ownBlock=some b→vo.ownBlock≠some b
theorem CSt.start (w:World) (base:Nat):CSt w base (.slice none 0 0) [] []:=
 ⟨World.ownsRow_nil _ _ _ _,rfl,fun i v l h=>by simp at h,fun i j v u b h=>by simp at h,fun i v b h=>by simp at h⟩
theorem CSt.some {w:World} {base:Nat} {vo:Value} {vs:List Value} {outs:List (List Sp)} (h:CSt w base vo vs outs) {i:Nat} {v:Value} (hv:vs[i]?=some v):∃l,outs[i]?=some l:=
 zAU (by have:=zAa hv;have:=h.len;omega)
theorem CSt.chg {M:Nat→Prop} {w w':World} {base:Nat} {vo:Value} {vs:List Value} {outs:List (List Sp)} (h:CSt w base vo vs outs) (c:Chg M w w') (hM:∀b,base≤b→b<w.heap.size→¬M b):CSt w' base vo vs outs:=
 ⟨zBi h.o c fun k hk=>hM k (h.o.lt k hk).1 (h.o.lt k hk).2,h.len,fun i v l hv hl=>zBi (h.inn i v l hv hl) c fun k hk=>hM k ((h.inn i v l hv hl).lt k hk).1 ((h.inn i v l hv hl).lt k hk).2,h.ap,h.apo⟩
theorem CSt.ext {w w':World} {base:Nat} {vo:Value} {vs:List Value} {outs:List (List Sp)} (h:CSt w base vo vs outs) (c:Ext w w'):CSt w' base vo vs outs:=h.chg c fun _ _ _ f=>f
theorem CSt.push {w w':World} {base:Nat} {vo v':Value} {vs:List Value} {outs:List (List Sp)} (h:CSt w base vo vs outs) (Ov:w'.ownsRow base TSs 1 v' (outs.length+1) (vs++[.slice none 0 0])) (Cv:Chg (fun x=>vo.ownBlock=.some x) w w')
  (Wv:∀k,v'.ownBlock=.some k→vo.ownBlock=.some k∨w.heap.size≤k):CSt w' base v' (vs++[.slice none 0 0]) (outs++[[]]):=by
 have aa:∀(i:Nat) v,(vs++[.slice none 0 0])[i]?=.some v→vs[i]?=.some v∨(i=vs.length∧v=.slice none 0 0):=by
  intro i v hv;rcases Nat.lt_or_ge i vs.length with h1|h1
  ·left;rwa [List.getElem?_append_left h1] at hv
  ·right;rw[List.getElem?_append_right h1] at hv;have h2:=zAa hv;simp at h2;obtain rfl:i=vs.length:=qO
   simp at hv;exact ⟨rfl,hv.symm⟩
 refine ⟨by simpa using Ov,by simp[h.len],?_,?_,?_⟩
 ·intro i v l hv hl;rcases aa i v hv with h1|⟨h1,rfl⟩
  ·rw[List.getElem?_append_left (by have:=zAa h1;have:=h.len;omega)] at hl;exact zBi (h.inn i v l h1 hl) Cv fun k hk=>h.apo i v k h1 hk
  ·rw[h1,h.len] at hl;simp at hl;subst hl;exact World.ownsRow_nil _ _ _ _
 ·intro i j v u b hv hu hb ab;rcases aa i v hv with h1|⟨_,rfl⟩
  ·rcases aa j u hu with h2|⟨_,rfl⟩
   ·exact h.ap i j v u b h1 h2 hb ab
   ·cases ab
  ·cases hb
 ·intro i v b hv hb ab;rcases aa i v hv with h1|⟨_,rfl⟩
  ·rcases Wv b ab with h2|h2
   ·exact h.apo i v b h1 hb h2
   ·obtain ⟨l,hl⟩:=h.some h1;have:=((h.inn i v l h1 hl).lt b hb).2;omega
  ·cases hb
/-- One list grows, and its new slice is stored in the outer one. -/
theorem CSt.grow {w w' w2:World} {base g cap k n:Nat} {v v':Value} {vs:List Value} {outs:List (List Sp)} {l:List Sp} {x:Sp} {cur:Array Value} (h:CSt w base (.slice (.some ⟨g,0,none⟩) n cap) vs outs) (hn:n=outs.length) (hv:vs[k]?=.some v) (hl:outs[k]?=.some l)
  (Ov:w'.ownsRow base TSp 2 v' (l.length+1) ((l++[x]).map zBh).flatten) (Cv:Chg (fun x=>v.ownBlock=.some x) w w') (Wv:∀k,v'.ownBlock=.some k→v.ownBlock=.some k∨w.heap.size≤k)
  (hB:Blk w' g cur TSs) (P2:Put w' w2 g (cur.setIfInBounds k v') TSs):CSt w2 base (.slice (.some ⟨g,0,none⟩) n cap) (vs.set k v') (outs.set k (l++[x])):=by
 have hkl:=zAa hv;have af:v.ownBlock≠.some g:=fun e=>h.apo k v g hv e rfl;have hgl:=(h.o.lt g rfl).2;have ab:v'.ownBlock≠.some g:=fun e=>by rcases Wv g e with h1|h1;exact af h1;omega
 have ae:w'.ownsRow base TSs 1 (.slice (.some ⟨g,0,none⟩) n cap) outs.length vs:=zBi h.o Cv fun q hq=>by cases hq;exact af
 rw[←hn] at ae;have ag:=zGR ae hB (i:=k) (by have:=h.len;omega) P2.blk;have aa:∀(i:Nat) u,(vs.set k v')[i]?=.some u→(i=k∧u=v')∨(i≠k∧vs[i]?=.some u):=by
  intro i u hu;rw[List.getElem?_set] at hu;split at hu
  ·rename_i he
   exact .inl ⟨he.symm,(Option.some.inj hu).symm⟩
  ·rename_i he
   exact .inr ⟨fun e=>he e.symm,hu⟩
 have ac:∀(i:Nat) u b,i≠k→vs[i]?=.some u→u.ownBlock=.some b→v.ownBlock≠.some b∧v'.ownBlock≠.some b∧b≠g:=by
  intro i u b hi hu hb;have h1:v.ownBlock≠.some b:=fun e=>hi (h.ap i k u v b hu hv hb e);refine ⟨h1,fun e=>?_,fun e=>h.apo i u b hu hb (by rw[e];rfl)⟩;rcases Wv b e with h2|h2
  ·exact h1 h2
  ·obtain ⟨q,hq⟩:=h.some hu;have:=((h.inn i u q hu hq).lt b hb).2;omega
 refine ⟨by rw[List.length_set,←hn];exact ag,by simp[h.len],?_,?_,?_⟩
 ·intro i u q hu hq;rcases aa i u hu with ⟨rfl,rfl⟩|⟨h1,h2⟩
  ·rw[List.getElem?_set] at hq;rw[if_pos rfl,if_pos (by have:=h.len;omega)] at hq;have ah:=Option.some.inj hq;subst ah;rw[List.length_append];exact zBi Ov P2.chg fun b hb e=>ab (e▸hb)
  ·rw[List.getElem?_set,if_neg (fun e=>h1 e.symm)] at hq;exact zBi (zBi (h.inn i u q h2 hq) Cv fun b hb=>(ac i u b h1 h2 hb).1) P2.chg fun b hb e=>(ac i u b h1 h2 hb).2.2 e
 ·intro i j u z b hu hz hb ad;rcases aa i u hu with ⟨rfl,rfl⟩|⟨h1,h2⟩<;>rcases aa j z hz with ⟨rfl,rfl⟩|⟨h3,h4⟩
  ·rfl
  ·exact absurd hb (ac j z b h3 h4 ad).2.1
  ·exact absurd ad (ac i u b h1 h2 hb).2.1
  ·exact h.ap i j u z b h2 h4 hb ad
 ·intro i u b hu hb;rcases aa i u hu with ⟨rfl,rfl⟩|⟨h1,h2⟩
  ·intro e;cases e;exact ab hb
  ·exact h.apo i u b h2 hb
def zTK (b:Bool):Int:=if b then 1 else 0
def zKU (m:List Bool):ByteArray:=strOfNums (m.map zTK)
theorem zSo {m m':List Bool} (h:zKU m=zKU m'):m=m':=by
 have h1:=congrArg (fun s=>s.data.toList) h;simp only[zKU,strOfNums_data,List.map_map] at h1;exact (List.map_inj_right (fun x y aa=>by cases x<;>cases y<;>first|rfl|(simp[zTK] at aa;done)|(exact absurd aa qD))).1 h1
def zEf:List (List Bool)→Nat→List (ByteArray×Int)
  | [],_=>[]
  | m::ks,n=>(zKU m,((n:Nat):Int))::zEf ks (n+1)
theorem zJX:∀(ks:List (List Bool)) (m:List Bool) (n:Nat),zEf (ks++[m]) n=zEf ks n++[(zKU m,(((n+ks.length:Nat):Nat):Int))]
  | [],m,n=>rfl
  | x::ks,m,n=>by
    show (zKU x,_)::zEf (ks++[m]) (n+1)=(zKU x,_)::(zEf ks (n+1)++_);rw[zJX ks m (n+1),List.length_cons,show n+1+ks.length=n+(ks.length+1) by omega]
theorem zLV:∀{ks:List (List Bool)} {n:Nat} {q:ByteArray×Int},q∈zEf ks n→∃(j:Nat) (m:List Bool),ks[j]?=some m∧q=(zKU m,(((n+j:Nat):Nat):Int))
  | [],_,_,h=>by cases h
  | x::ks,n,q,h=>by
    rcases List.mem_cons.1 h with h|h
    · exact ⟨0,x,rfl,h⟩
    · obtain ⟨j,m,h1,h2⟩:=zLV h;exact ⟨j+1,m,h1,by rw[h2];congr 2;omega⟩
theorem zLW:∀{ks:List (List Bool)} {n:Nat} {m:List Bool},m∈ks→zKU m∈(zEf ks n).map (·.1)
  | x::ks,n,m,h=>by
    rcases List.mem_cons.1 h with rfl|h
    · exact List.mem_cons_self
    · exact List.mem_cons_of_mem _ (zLW (n:=n+1) h)
theorem zQW {ks:List (List Bool)} {m:List Bool} {v:Int} (h:zFp (zEf ks 0) (zKU m)=some v):∃j:Nat,v=((j:Nat):Int)∧ks[j]?=some m:=by
 obtain ⟨j,m',h1,h2⟩:=zLV (zKP h);simp only[Prod.mk.injEq,Nat.zero_add] at h2;obtain rfl:=zSo h2.1;exact ⟨j,h2.2,h1⟩
theorem zOk {ks:List (List Bool)} {m:List Bool} (h:zFp (zEf ks 0) (zKU m)=none):m∉ks∧zEm (zEf ks 0) (zKU m) ((ks.length:Nat):Int)=zEf (ks++[m]) 0:=by
 refine ⟨fun hm=>?_,?_⟩
 ·have:=zEp.2 (zLW (n:=0) hm);rw[h] at this;cases this
 ·rw[zFH _ h,zJX,Nat.zero_add]
end Go.Proofs
namespace Go.Proofs
open Go Go.Eng Go.Sort
theorem zUR (w0:World) (base g c:Nat) (l:List Int) (h:w0.ownsRow base zVz 1 (.slice (some ⟨g,0,none⟩) l.length c) l.length (l.map (Value.int .i64))) (hl:l.length≤17592186044416) :
  Ret prog 147 #[.slice (some ⟨g,0,none⟩) l.length c] w0 fun r w=>r=.tuple #[]∧Sort.Holds (Value.int .i64) w g 0 (l.mergeSort leB).toArray∧Chg (fun x=>x=g) w0 w:=by
 have hH:=ownI_holds h;have aa:g<w0.heap.size:=(h.lt g rfl).2;refine Calls.mono (Any.slices_Sort_int Tryz.sortI g 0 c l w0 hH aa qO) ?_;rintro e w' ⟨rfl,n,os,rfl⟩;refine ⟨_,rfl,rfl,?_,zGA _ w0 g 0 n _ os⟩;exact holds_grow _ _ os g 0 _ (by simpa[putRow,mapBlock,Sort.ahead] using aa) (holds_putRow _ (Sort.ahead w0 n) g 0 l.toArray _ hH qP)
theorem zVS (w0:World) (g c:Nat) (l:List Int) (hH:Sort.Holds (Value.int .i64) w0 g 0 l.toArray) (hc:l.length≤c∧c≤9223372036854775807) :
  Ret prog 148 #[.slice (some ⟨g,0,none⟩) l.length c] w0 fun r w=>r=.slice (some ⟨g,0,none⟩) (Lib.compact l).length c∧zBt w r (Lib.compact l)∧Chg (fun x=>x=g) w0 w:=by
 refine Calls.mono (Any.slices_Compact_int Tryz.compI g 0 c l w0 hH qO hc.1) ?_;rintro e w' ⟨rfl,q,rfl⟩;have ac:(Lib.compact l).length≤l.length:=by
  unfold Lib.compact Lib.compactUpTo;rw[List.length_map];exact Nat.le_trans (List.length_filter_le _ _) qP
 have aa:=zGA (Value.int .i64) w0 g 0 q (Lib.compact l++List.replicate (l.length - (Lib.compact l).length) 0).toArray #[];have ab:∀w:World,grow w #[]=w:=fun w=>by simp[grow]
 rw[ab] at aa;refine ⟨_,rfl,rfl,?_,aa⟩;have hh:Sort.Holds (Value.int .i64) (putRow (Value.int .i64) (Sort.ahead w0 q) g 0 (Lib.compact l++List.replicate (l.length - (Lib.compact l).length) 0).toArray) g 0 (Lib.compact l++List.replicate (l.length - (Lib.compact l).length) 0).toArray:=
  holds_putRow _ (Sort.ahead w0 q) g 0 l.toArray _ hH (by simp;omega)
 have ad:Sort.Holds (Value.int .i64) (putRow (Value.int .i64) (Sort.ahead w0 q) g 0 (Lib.compact l++List.replicate (l.length - (Lib.compact l).length) 0).toArray) g 0 (Lib.compact l).toArray:=by
  intro j hj;simp only[List.size_toArray] at hj;have h1:=hh j (by simp;omega);rw[getElem!_pos _ j (by simp;omega)] at h1;rw[getElem!_pos _ j (by simpa using hj)];simpa[List.getElem_append_left hj] using h1
 exact zJd (l:=Lib.compact l) ad rfl qO qO
theorem zLl {l:List Int} (hs:l.Pairwise (·≤·)):∀m,m≤l.length→(Lib.compactUpTo l.toArray m).Pairwise (· < ·)∧∀x,x∈Lib.compactUpTo l.toArray m↔x∈l.take m:=by
  intro m
  induction m with
  | zero=>intro _;simp[Lib.compactUpTo]
  | succ m ih=>
    intro hm;obtain ⟨h1,h2⟩:=ih qO;have hx:l[m]?=some l[m]:=List.getElem?_eq_getElem qO;have hg:l.toArray[m]! = l[m]:=by rw[getElem!_pos _ m (by simp;omega)];simp
    rw[Lib.compactUpTo_succ,zCP hx];have ad:∀x∈l.take m,∃j,j<m∧∃hj:j<l.length,l[j]=x:=fun x hx=>by
      obtain ⟨j,hj⟩:=List.mem_iff_getElem?.1 hx;have h3:=zAa hj;rw[List.length_take] at h3;have ac:j<m:=qO
      have ab:j<l.length:=qO
      rw[List.getElem?_take,if_pos ac,List.getElem?_eq_getElem ab] at hj;exact ⟨j,ac,ab,Option.some.inj hj⟩
    have aa:∀(i j:Nat) (hi:i<l.length) (hj:j<l.length),i≤j→l[i]≤l[j]:=fun i j hi hj ae=>by
      rcases Nat.eq_or_lt_of_le ae with h3|h3
      · subst h3;exact Int.le_refl _
      · exact List.pairwise_iff_getElem.1 hs i j hi hj h3
    by_cases hk:Lib.keeps l.toArray m=true
    · rw[if_pos hk,hg];have af:∀x∈l.take m,x<l[m]:=fun x hx=>by
        obtain ⟨j,hjm,hj,rfl⟩:=ad x hx;have h4:l[j]≤l[m - 1]:=aa j (m - 1) hj qO qO;have h5:l[m - 1]≤l[m]:=aa (m - 1) m qO qO qO;have h6:l[m]≠l[m - 1]:=by
          unfold Lib.keeps at hk;rw[decide_eq_true_eq] at hk;rcases hk with h7|h7
          · omega
          · rw[hg,getElem!_pos _ (m - 1) (by simp;omega)] at h7;simpa using h7
        omega
      refine ⟨?_,fun x=>by rw[List.mem_append,List.mem_append,h2 x]⟩;rw[List.pairwise_append];exact ⟨h1,qP,fun x hx y hy=>by rw[List.mem_singleton] at hy;subst hy;exact af x ((h2 x).1 hx)⟩
    · rw[if_neg hk,List.append_nil];refine ⟨h1,fun x=>?_⟩;rw[h2 x,List.mem_append,List.mem_singleton];constructor
      · exact .inl
      · rintro (h3|h3)
        · exact h3
        · have h4:m≠0∧l.toArray[m]! = l.toArray[m - 1]!:=by
            unfold Lib.keeps at hk;simp only[decide_eq_true_eq,not_or,Decidable.not_not] at hk;exact hk
          rw[hg,getElem!_pos _ (m - 1) (by simp;omega)] at h4;have h5:l[m]=l[m - 1]:=by simpa using h4.2
          rw[h3,h5];exact List.mem_iff_getElem?.2 ⟨m - 1,by rw[List.getElem?_take,if_pos qO,List.getElem?_eq_getElem qO]⟩
theorem zJE (l:List Int):(Lib.compact (l.mergeSort leB)).Pairwise (· < ·)∧∀x,x∈Lib.compact (l.mergeSort leB)↔x∈l:=by
 have hs:(l.mergeSort leB).Pairwise (·≤·):=by
  have:=List.pairwise_mergeSort (le:=leB) (fun a b c h1 h2=>by simp[leB] at *;omega) (fun a b=>by simp[leB];omega) l;exact this.imp fun h=>by simpa[leB] using h
 have h:=zLl hs (l.mergeSort leB).length (Nat.le_refl _);refine ⟨h.1,fun x=>?_⟩;have h2:=h.2 x;rw[List.take_length,List.mem_mergeSort] at h2;exact h2
def zPM (l:List Sp):List Int:=0::l.flatMap fun s=>[s.1,s.2+1]
theorem zKF {l:List Sp} {k:Int}:k∈zPM l↔k=0∨∃s∈l,k=s.1∨k=s.2+1:=by
 unfold zPM;simp[List.mem_flatMap]
theorem zKG (l:List Sp):(zPM l).length=1+2*l.length:=by
  unfold zPM;rw[List.length_cons];have:(l.flatMap fun s=>[s.1,s.2+1]).length=2*l.length:=by
    induction l with
    | nil=>rfl
    | cons x l ih=>rw[List.flatMap_cons,List.length_append,ih];simp;omega
  omega
theorem zSt {l:List Sp} {q:List Int} (hok:∀s∈l,vSp s) (hq:q.Pairwise (· < ·)) (hm:∀x,x∈q↔x∈zPM l):∃p,zEE l p∧(q=p∨q=p++[1114112]):=by
 have hb:∀x∈q,0≤x∧x≤1114112:=fun x hx=>by
  rcases zKF.1 ((hm x).1 hx) with h1|⟨s,hs,h1⟩
  ·omega
  ·have:=hok s hs;unfold vSp at this;omega
 have hP:∀k,k≤1114111→(k∈zPM l↔zHj l k):=fun k hk=>by
  rw[zKF];unfold zHj;constructor
  ·rintro (h1|⟨s,hs,h1|h1⟩)
   ·exact .inl h1
   ·exact .inr ⟨s,hs,.inl h1⟩
   ·exact .inr ⟨s,hs,.inr ⟨qO,h1⟩⟩
  ·rintro (h1|⟨s,hs,h1|h1⟩)
   ·exact .inl h1
   ·exact .inr ⟨s,hs,.inl h1⟩
   ·exact .inr ⟨s,hs,.inr h1.2⟩
 have aa:∀k,zHj l k→k≤1114111:=fun k hk=>by
  rcases hk with h1|⟨s,hs,h1⟩
  ·omega
  ·have:=hok s hs;unfold vSp at this;omega
 rcases List.eq_nil_or_concat q with rfl|⟨q',x,rfl⟩
 ·exact ⟨[],⟨hq,fun k=>⟨fun h=>(hP k (by cases h)).1 ((hm k).1 h),fun h=>(hm k).2 ((hP k (aa k h)).2 h)⟩⟩,.inl rfl⟩
 ·rw[List.concat_eq_append] at *;have ab:∀y∈q',y<x:=fun y hy=>(List.pairwise_append.1 hq).2.2 y hy x qP;have hxb:=hb x qP;by_cases hx:x=1114112
  ·subst hx;refine ⟨q',⟨(List.pairwise_append.1 hq).1,fun k=>⟨fun h=>?_,fun h=>?_⟩⟩,.inr rfl⟩
   ·have:=ab k h;exact (hP k qO).1 ((hm k).1 (by simp[h]))
   ·have h1:=aa k h;have h2:=(hm k).2 ((hP k h1).2 h);rcases List.mem_append.1 h2 with h3|h3
    ·exact h3
    ·rw[List.mem_singleton] at h3;omega
  ·refine ⟨q'++[x],⟨hq,fun k=>⟨fun h=>?_,fun h=>(hm k).2 ((hP k (aa k h)).2 h)⟩⟩,.inl rfl⟩;have:k≤1114111:=by
    rcases List.mem_append.1 h with h3|h3
    ·have:=ab k h3;omega
    ·rw[List.mem_singleton] at h3;omega
   exact (hP k this).1 ((hm k).1 h)
end Go.Proofs
namespace Go.Proofs
open Go Go.Eng Go.Sort
section
variable {P : Program} {N : Nat} {Q : zGJ} {σ : Env} {w : World} {K : Env → World → Prop} {ops : Array Oper} {rest : List Oper} {d : Nat} {ty : TypeId} {pos : String} {af : Array Edge} {t : TypeId} {x y : Operand}
theorem zTY {e bytes n:Nat} {z:Value} (hN:d<N) (hu:P.underlying t=some (.slice e)) (hsz:Siz P e 1) (hby:Byt P e bytes) (hz:Zer P e z) (hz1:z.cells=#[z]) (hx:ev σ x=.int .i64 ((n:Nat):Int)) (hy:ev σ y=.int .i64 ((n:Nat):Int)) (hb:n*bytes≤140737488355328) (hn:n≤140737488355328)
    (k:∀b w',New w w' b (List.replicate n z).toArray e→WpL P N ops K Q rest (upd σ d (.slice (some ⟨b,0,none⟩) n n)) w'):WpL P N ops K Q (⟨some d,.makeSlice t x y,ty,pos,af,none⟩::rest) σ w:=by
  refine zCJ (v:=.slice (some ⟨w.heap.size,0,none⟩) n n) (w':={w with heap:=w.heap.push (.cells (List.replicate n z).toArray e (0,0))}) rfl rfl hN ?_ (k _ _ (New.mk' w _ e));unfold Siz at hsz;unfold Byt at hby;unfold Zer at hz;cases hi:P.info? e with
  | none=>rw[hi] at hsz;simp at hsz
  | some i=>
  rw[hi] at hsz hby hz;simp at hsz hby hz;have h:=run_make (P:=P) w t e i _ hu hi hz .i64 .i64 ((n:Nat):Int) ((n:Nat):Int) qO (Int.le_refl _) (by rw[hby];have:((bytes:Nat):Int)*((n:Nat):Int)=(((n*bytes:Nat):Nat):Int):=(by rw[Int.natCast_mul,Int.mul_comm]);rw[this];omega) qO;have hc:madeCells z.cells (n*i.size)=(List.replicate n z).toArray:=by
    rw[hsz,Nat.mul_one,hz1];apply Array.ext';simp only[madeCells];apply List.ext_getElem?;intro j;simp only[Array.toList_map,List.getElem?_map,List.getElem?_replicate];rcases Nat.lt_or_ge j n with hj|hj
    · have h1:(Array.range n).toList[j]?=some j:=by simp[hj]
      rw[h1,if_pos hj];simp[Nat.mod_one]
    · have h1:(Array.range n).toList[j]?=none:=by simp;omega
      rw[h1,if_neg qO];rfl
  simp only[Int.toNat_natCast,hc] at h;simp only[execOp,hx,hy,Sem.run_bind,h,Result.andThen_ok];rfl
/-- A slice without elements and with room for n is made. -/
theorem zPp {e bytes n size base:Nat} {z:Value} (hN:d<N) (hu:P.underlying t=some (.slice e)) (hsz:Siz P e size) (hby:Byt P e bytes) (hz:Zer P e z) (hx:ev σ x=.int .i64 0) (hy:ev σ y=.int .i64 ((n:Nat):Int)) (hb:n*bytes≤140737488355328) (hn:n≤140737488355328) (hbase:base≤w.heap.size)
    (k:∀w',Ext w w'→w'.ownsRow base e size (.slice (some ⟨w.heap.size,0,none⟩) 0 n) 0 []→WpL P N ops K Q rest (upd σ d (.slice (some ⟨w.heap.size,0,none⟩) 0 n)) w'):WpL P N ops K Q (⟨some d,.makeSlice t x y,ty,pos,af,none⟩::rest) σ w:=by
  unfold Siz at hsz;unfold Byt at hby;unfold Zer at hz;cases hi:P.info? e with
  | none=>rw[hi] at hsz;simp at hsz
  | some i=>
  rw[hi] at hsz hby hz;simp at hsz hby hz;have h:=run_make (P:=P) w t e i _ hu hi hz .i64 .i64 0 ((n:Nat):Int) qO qO (by rw[hby];have:((bytes:Nat):Int)*((n:Nat):Int)=(((n*bytes:Nat):Nat):Int):=(by rw[Int.natCast_mul,Int.mul_comm]);rw[this];omega) qO;have aa:=New.mk' w (madeCells z.cells (n*size)) e;refine zCJ (v:=.slice (some ⟨w.heap.size,0,none⟩) 0 n) (w':={w with heap:=w.heap.push (.cells (madeCells z.cells (n*size)) e (0,0))}) rfl rfl hN ?_ (k _ aa.ext ⟨qP,.inr ⟨w.heap.size,n,madeCells z.cells (n*size),rfl,hbase,aa.blk,Nat.zero_le _,by simp only[maxLen];omega,by simp[madeCells],qP⟩⟩);simp only[Int.toNat_natCast,hsz] at h;simp only[execOp,hx,hy,Sem.run_bind,h,Result.andThen_ok];rfl
theorem zJU {dst:Option Tmp} {g:Option (Nat×Bool)} {s:TypeId} {e:TypeId} {b n c:Nat} {l:List Int} (hs:P.underlying s=some (.slice e)) (he:P.underlying e=some (.int .u8)) (ht:P.underlying t=some .string) (hx:ev σ x=.slice (some ⟨b,0,none⟩) n c)
  (hB:Blk w b (l.map (Value.int .u8)).toArray e) (hl:l.length=n):(execOp (ev σ) ⟨dst,.convert s t x,ty,pos,af,g⟩).run P w=.ok (.value (.string (strOfNums l))) w:=by
 have h:=run_convert_bytes_arg (P:=P) w s e hs he b 0 n c l hl (fun i hi=>by
  rw[Nat.zero_add];have h1:l[i]?=some l[i]:=List.getElem?_eq_getElem qO;have h2:=hB.cell (o:=i) (v:=.int .u8 (l.getD i 0)) (by simp[List.getD,h1]);exact h2) t ht
 simp only[execOp,hx,Sem.run_bind,h,Result.andThen_ok];rfl
end
def zTO (base e size n:Nat) (xs:List Value) (old:Value) (hs:Nat):Fct:=fun v w=>(∃a c,v=.slice a n c)∧w.ownsRow base e size v n xs∧∀k,v.ownBlock=some k→old.ownBlock=some k∨hs≤k
theorem zFi (base e size n:Nat) (xs:List Value) (old:Value) (hs:Nat):∀v w w',Ext w w'→zTO base e size n xs old hs v w→zTO base e size n xs old hs v w':=by
 rintro v w w' e ⟨h1,h2,h3⟩;exact ⟨h1,zAn h2 e,h3⟩
/-- The append to a slice of one's own, in a region that draws its order. -/
theorem zHl {P:Program} {N:Nat} {σ:Env} {w:World} {dst:Option Tmp} {ty:TypeId} {pos:String} {af:Array Edge} {g:Option (Nat×Bool)} {M:Nat→Prop} {t:TypeId} {s x:Operand} {base e size bytes n m c bx ox hs:Nat} {z v:Value} {xs news:List Value} (hu:P.underlying t=some (.slice e)) (hsz:Siz P e size) (hby:Byt P e bytes) (hz:Zer P e z) (hzs:z.cells.size=size) (h0:0<size)
    (he:ev σ s=v) (hown:w.ownsRow base e size v n xs) (hx:ev σ x=.slice (some ⟨bx,ox,none⟩) m c) (hl:news.length=m*size) (hnews:zBD w bx ox news) (h1:∀u∈news,u.oneCell'=true)
    (h63:n+m≤maxLen) (hbytes:(n+m)*bytes≤140737488355328) (hbase:base≤w.heap.size) (hM:∀y,v.ownBlock=some y→M y) (hhs:hs≤w.heap.size) :
    zMw M P N ⟨dst,.call ⟨.builtin .append,#[s,x],#[t,t]⟩,ty,pos,af,g⟩ (zTO base e size (n+m) (xs++news) v hs) σ w:=by
  unfold Siz at hsz;unfold Byt at hby;unfold Zer at hz;cases hi:P.info? e with
  | none=>rw[hi] at hsz;simp at hsz
  | some i=>
  rw[hi] at hsz hby hz;simp at hsz hby hz;have aa:∀j u,news[j]?=some u→w.cell? ((⟨bx,ox,none⟩:Addr).add j)=some u:=fun j u hj=>by rw[Addr.add_lit];exact hnews j u hj
  obtain ⟨v',w',hr,h2,h3,_⟩:=run_append_own (P:=P) w base t ty e i z size bytes hu hi hz hsz hby hzs h0 v n xs hown ⟨bx,ox,none⟩ m c news hl aa h1 h63 hbytes hbase;have hC:Chg (fun x=>v.ownBlock=some x) w w':=⟨h3.os,h3.tape,h3.output,zHg (P:=P) hu hi hz hsz hby hown hl aa h1 h63 hbytes hr,h3.size,fun b hb hn=>h3.block b hb (fun h=>hn h.symm)⟩;have hW:=zHf (P:=P) hu hi hz hsz hby hzs h0 hown hl aa h1 h63 hbytes hr;refine zBb (v:=v') (w':=w') (by simp[execOp,resolve,invoke,builtin,he,hx,hr]) (hC.mono fun y _ hy=>hM y hy) ⟨zAw h2,h2,fun k hk=>?_⟩;rcases hW k hk with h4|h4
  · exact .inl h4
  · exact .inr (Nat.le_trans hhs h4)
/-- A slice of one new element, whose cells are known. -/
def zSV (e:Nat) (c:Array Value) (hs:Nat):Fct:=fun v w=>∃b,v=.slice (some ⟨b,0,none⟩) 1 1∧Blk w b c e∧hs≤b
theorem zFc (e:Nat) (c:Array Value) (hs:Nat):∀v w w',Ext w w'→zSV e c hs v w→zSV e c hs v w':=by
 rintro v w w' x ⟨b,h1,h2,h3⟩;exact ⟨b,h1,Ext.keep x h2,h3⟩
theorem zMD {P:Program} {N:Nat} {σ:Env} {w:World} {dst:Option Tmp} {ty:TypeId} {pos:String} {af:Array Edge} {g:Option (Nat×Bool)} {M:Nat→Prop} {t e n hs:Nat} {x:Operand} {v z:Value} {c:Array Value} (hu:P.underlying t=some (.slice e)) (hsz:Siz P e n) (hz:Zer P e z) (hx:ev σ x=v)
  (hl:¬(1*n > 2 ^ 24)) (h0:1*n≠0) (hc:Instr.fill (fun i=>some (i*n,n)) ((Array.range (1*n)).map (z.cells[· % z.cells.size]!)) [(0,v)]=some c) (hhs:hs≤w.heap.size) :
  zMw M P N ⟨dst,.buildSlice t 1 #[(0,x)],ty,pos,af,g⟩ (zSV e c hs) σ w:=by
 have hn:=New.mk' w c e;exact zBb (zCM (parts:=[(0,x)]) (ps:=[(0,v)]) (by simp only[List.map,hx]) hu hsz hz hl h0 hc) (Ext.chg hn.ext) ⟨_,rfl,hn.blk,hhs⟩
theorem zNZ {w:World} {b e base:Nat} {v:Value} (h:Blk w b #[v] e) (hb:base≤b):w.ownsRow base e 1 (.slice (some ⟨b,0,none⟩) 1 1) 1 [v]:=
 ⟨rfl,.inr ⟨b,1,#[v],rfl,hb,h,Nat.le_refl _,qD,rfl,rfl⟩⟩
def zRU (b:Bool):List Value:=[.bool b]
def zFS (w:World) (v:Value) (l:List Bool):Prop:=zBq w 1 v (l.map zRU)
theorem zGH {w:World} {a:Option Addr} {n c:Nat} {l:List Bool} (h:zFS w (.slice a n c) l) (hn:0<n) :
  ∃b o,a=some ⟨b,o,none⟩∧∀i x,l[i]?=some x→w.cell? ⟨b,o+i,none⟩=some (.bool x):=by
 obtain ⟨b,o,ha,h⟩:=zBq.at h hn;refine ⟨b,o,ha,fun i x hx=>?_⟩;have:=h i (zRU x) (by simp[hx]) 0 _ rfl;simpa using this
theorem zPB (l:List Bool):(l.map zRU).flatten=l.map Value.bool:=by
  induction l with
  | nil=>rfl
  | cons x l ih=>simp[zRU];simpa[zRU] using ih
abbrev TB:Nat:=4
abbrev TBs:Nat:=109
theorem zGT {w:World} {base n:Nat} {v:Value} {l:List Bool} (h:w.ownsRow base TB 1 v n (l.map Value.bool)) (hn:n=l.length):zFS w v l:=by
 rw[←zPB] at h;exact zDC h (by intro x hx;simp only[List.mem_map] at hx;obtain ⟨p,_,rfl⟩:=hx;rfl) (by simp[hn]) qD
structure LSt (To e sz:Nat) (w:World) (base:Nat) (vo:Value) (vs:List Value) (ns:List (Nat×List Value)):Prop where
 o:w.ownsRow base To 1 vo ns.length vs
 len:vs.length=ns.length
 inn:∀(i:Nat) v p,vs[i]?=some v→ns[i]?=some p→w.ownsRow base e sz v p.1 p.2
 apo:∀(i:Nat) v b,vs[i]?=some v→v.ownBlock=some b→vo.ownBlock≠some b
theorem LSt.start (To e sz:Nat) (w:World) (base:Nat):LSt To e sz w base (.slice none 0 0) [] []:=
 ⟨World.ownsRow_nil _ _ _ _,rfl,fun i v p h=>by simp at h,fun i v b h=>by simp at h⟩
theorem LSt.chg {M:Nat→Prop} {To e sz base:Nat} {w w':World} {vo:Value} {vs:List Value} {ns:List (Nat×List Value)} (h:LSt To e sz w base vo vs ns) (c:Chg M w w') (hM:∀b,base≤b→b<w.heap.size→¬M b):LSt To e sz w' base vo vs ns:=
 ⟨zBi h.o c fun k hk=>hM k (h.o.lt k hk).1 (h.o.lt k hk).2,h.len,fun i v l hv hl=>zBi (h.inn i v l hv hl) c fun k hk=>hM k ((h.inn i v l hv hl).lt k hk).1 ((h.inn i v l hv hl).lt k hk).2,h.apo⟩
theorem LSt.ext {To e sz base:Nat} {w w':World} {vo:Value} {vs:List Value} {ns:List (Nat×List Value)} (h:LSt To e sz w base vo vs ns) (c:Ext w w'):LSt To e sz w' base vo vs ns:=h.chg c fun _ _ _ f=>f
theorem LSt.on {To e sz base n:Nat} {w:World} {vo:Value} {vs:List Value} {ns:List (Nat×List Value)} (h:LSt To e sz w base vo vs ns) (hn:n=ns.length):w.ownsRow base To 1 vo n vs:=by subst hn;exact h.o
/-- A slice that was made later is appended. -/
theorem LSt.push {To e sz base bu n m:Nat} {w w':World} {vo v' u:Value} {vs us:List Value} {ns:List (Nat×List Value)} (h:LSt To e sz w base vo vs ns) (hn:n=ns.length) (hu:w.ownsRow bu e sz u m us) (hb:base≤bu) (hbu:∀k,vo.ownBlock=some k→k<bu)
  (Ov:w'.ownsRow base To 1 v' (n+1) (vs++[u])) (Cv:Chg (fun x=>vo.ownBlock=some x) w w') (Wv:∀k,v'.ownBlock=some k→vo.ownBlock=some k∨w.heap.size≤k):LSt To e sz w' base v' (vs++[u]) (ns++[(m,us)]):=by
 have aa:∀(i:Nat) v,(vs++[u])[i]?=some v→vs[i]?=some v∨(i=vs.length∧v=u):=by
  intro i v hv;rcases Nat.lt_or_ge i vs.length with h1|h1
  ·left;rwa [List.getElem?_append_left h1] at hv
  ·right;rw[List.getElem?_append_right h1] at hv;have h2:=zAa hv;simp at h2;obtain rfl:i=vs.length:=qO
   simp at hv;exact ⟨rfl,hv.symm⟩
 have ad:∀b,u.ownBlock=some b→vo.ownBlock≠some b:=fun b ae e'=>by
  have h1:=hbu b e';have h2:=(hu.lt b ae).1;omega
 refine ⟨by rw[List.length_append,←hn];exact Ov,by simp[h.len],?_,?_⟩
 ·intro i v p hv hp;rcases aa i v hv with h1|⟨h1,rfl⟩
  ·rw[List.getElem?_append_left (by have:=zAa h1;have:=h.len;omega)] at hp;exact zBi (h.inn i v p h1 hp) Cv fun k hk=>h.apo i v k h1 hk
  ·rw[h1,h.len] at hp;simp at hp;subst hp;exact zKK (zBi hu Cv fun k hk=>ad k hk) hb
 ·intro i v b hv ab ac;rcases aa i v hv with h1|⟨_,rfl⟩
  ·rcases Wv b ac with h2|h2
   ·exact h.apo i v b h1 ab h2
   ·obtain ⟨p,hp⟩:=zAU (l:=ns) (i:=i) (by have:=zAa h1;have:=h.len;omega);have:=((h.inn i v p h1 hp).lt b ab).2;omega
  ·rcases Wv b ac with h2|h2
   ·exact ad b ab h2
   ·have:=(hu.lt b ab).2;omega
end Go.Proofs
namespace Go.Proofs
open Go Go.Eng Go.Sort
def InO (vo:Value) (w:World) (u:Value) (l:List Sp):Prop:=(∃a c,u=.slice a l.length c)∧zDK (fun b=>vo.ownBlock≠some b) w 2 u (l.map zBh)
theorem zQF {w:World} {base:Nat} {vo v:Value} {l:List Sp} (h:w.ownsRow base TSp 2 v l.length (l.map zBh).flatten) (hb:∀b,v.ownBlock=some b→vo.ownBlock≠some b):InO vo w v l:=by
 obtain ⟨a,c,rfl⟩:=zAw h;refine ⟨⟨a,c,rfl⟩,?_⟩;rcases Nat.eq_zero_or_pos l.length with h0|h0
 ·have:=List.eq_nil_of_length_eq_zero h0;subst this;exact zDK.nil _ _ _ _ _
 ·have hS:zPR w base (.slice a l.length c) l:=⟨⟨a,c,rfl⟩,h⟩;have aa:=hS.at;obtain ⟨g,rfl,_,_⟩:=zCn h h0;exact zDK.mk aa (hb g rfl)
structure JSt (w:World) (base:Nat) (vo:Value) (us:List Value) (outs cs:List (List Sp)) (k:Nat):Prop where
 o:w.ownsRow base TSs 1 vo outs.length us
 len:us.length=outs.length
 cl:cs.length=k
 don:∀(i:Nat) u c,i<k→us[i]?=some u→cs[i]?=some c→InO vo w u c
 rst:∀(i:Nat) u l,k≤i→us[i]?=some u→outs[i]?=some l→InO vo w u l
 jn:∀(i:Nat) q c,outs[i]?=some q→cs[i]?=some c→zFr q c
theorem CSt.join {w:World} {base:Nat} {vo:Value} {vs:List Value} {outs:List (List Sp)} (h:CSt w base vo vs outs):JSt w base vo vs outs [] 0:=
 ⟨h.o,h.len,rfl,fun i u c hi=>absurd hi (Nat.not_lt_zero _),fun i u l _ hu hl=>zQF (h.inn i u l hu hl) fun b hb=>h.apo i u b hu hb,fun i q c _ hc=>by simp at hc⟩
theorem InO.ext {vo u:Value} {w w':World} {l:List Sp} (h:InO vo w u l) (e:Ext w w'):InO vo w' u l:=⟨h.1,h.2.chg e fun _ _ f=>f⟩
theorem JSt.ext {w w':World} {base k:Nat} {vo:Value} {us:List Value} {outs cs:List (List Sp)} (h:JSt w base vo us outs cs k) (e:Ext w w'):JSt w' base vo us outs cs k:=
 ⟨zAn h.o e,h.len,h.cl,fun i u c hi hu hc=>(h.don i u c hi hu hc).ext e,fun i u l hi hu hl=>(h.rst i u l hi hu hl).ext e,h.jn⟩
theorem JSt.step {w w2:World} {base n1 g cap k n:Nat} {u':Value} {us:List Value} {outs cs:List (List Sp)} {q c':List Sp} {cur:Array Value} (h:JSt w base (.slice (some ⟨g,0,none⟩) n cap) us outs cs k) (hn:n=outs.length) (hq:outs[k]?=some q)
  (hO:zPR w n1 u' c') (hn1:g<n1) (hj:zFr q c') (hB:Blk w g cur TSs) (P2:Put w w2 g (cur.setIfInBounds k u') TSs):JSt w2 base (.slice (some ⟨g,0,none⟩) n cap) (us.set k u') outs (cs++[c']) (k+1):=by
 have hkl:=zAa hq;have ad:InO (.slice (some ⟨g,0,none⟩) n cap) w u' c':=zQF hO.2 fun b hb e=>by cases e;have:=(hO.2.lt g hb).1;omega
 have aa:∀u l,InO (.slice (some ⟨g,0,none⟩) n cap) w u l→InO (.slice (some ⟨g,0,none⟩) n cap) w2 u l:=fun u l h1=>⟨h1.1,h1.2.chg P2.chg fun b hb e=>hb (by rw[e];rfl)⟩;have ho:=h.o;rw[←hn] at ho;have ac:=zGR ho hB (i:=k) qO P2.blk;have ab:∀(i:Nat) u,(us.set k u')[i]?=some u→(i=k∧u=u')∨(i≠k∧us[i]?=some u):=by
  intro i u hu;rw[List.getElem?_set] at hu;split at hu
  ·rename_i he
   split at hu
   ·exact .inl ⟨he.symm,(Option.some.inj hu).symm⟩
   ·cases hu
  ·rename_i he
   exact .inr ⟨fun e=>he e.symm,hu⟩
 refine ⟨by rw[←hn];exact ac,by simp[h.len],by simp[h.cl],?_,?_,?_⟩
 ·intro i u c hi hu hc;rcases ab i u hu with ⟨rfl,rfl⟩|⟨h1,h2⟩
  ·rw[List.getElem?_append_right (by have:=h.cl;omega),h.cl,Nat.sub_self] at hc;simp at hc;subst hc;exact aa _ _ ad
  ·rw[List.getElem?_append_left (by have:=h.cl;omega)] at hc;exact aa _ _ (h.don i u c qO h2 hc)
 ·intro i u l hi hu hl;rcases ab i u hu with ⟨rfl,rfl⟩|⟨h1,h2⟩
  ·omega
  ·exact aa _ _ (h.rst i u l qO h2 hl)
 ·intro i r c hr hc;rcases Nat.lt_or_ge i k with h1|h1
  ·rw[List.getElem?_append_left (by have:=h.cl;omega)] at hc;exact h.jn i r c hr hc
  ·rw[List.getElem?_append_right (by have:=h.cl;omega)] at hc;have h2:=zAa hc;simp at h2;have h3:=h.cl;obtain rfl:i=k:=qO
   rw[h3,Nat.sub_self] at hc;simp at hc;subst hc;rw[hq] at hr;cases hr;exact hj
theorem JSt.done {w:World} {base k:Nat} {vo:Value} {us:List Value} {outs cs:List (List Sp)} (h:JSt w base vo us outs cs k) (hk:k=outs.length):zBy w vo cs:=by
 refine ⟨us,?_,by rw[h.len,h.cl,hk],fun i u l hu hl=>(h.don i u l (by have:=zAa hl;have:=h.cl;omega) hu hl).2.at⟩;have ho:=h.o;rw[show us=(us.map fun x=>[x]).flatten by simp[List.flatten_eq_flatMap,List.flatMap_map]] at ho;exact zDC ho (by intro r hr;simp only[List.mem_map] at hr;obtain ⟨x,_,rfl⟩:=hr;rfl) (by simp[h.len]) qD
theorem zVE (o:List Sp):∃c,zFr o c:=by
 let le:Sp→Sp→Bool:=fun s t=>decide (s.1≤t.1)
 refine ⟨_,o.mergeSort le,List.mergeSort_perm o le,?_,rfl⟩;have:=List.pairwise_mergeSort (le:=le) (fun a b c h1 h2=>by simp[le] at *;omega) (fun a b=>by simp[le];omega) o;exact this.imp fun h=>by simpa[le] using h
theorem zNj:∀outs:List (List Sp),∃cs:List (List Sp),cs.length=outs.length∧∀(k:Nat) o c,outs[k]?=some o→cs[k]?=some c→zFr o c
  | []=>⟨[],rfl,fun k o c h=>by simp at h⟩
  | o::outs=>by
    obtain ⟨c,hc⟩:=zVE o;obtain ⟨cs,h1,h2⟩:=zNj outs;refine ⟨c::cs,by simp[h1],fun k q r hq hr=>?_⟩;cases k with
    | zero=>simp at hq hr;subst hq;subst hr;exact hc
    | succ k=>exact h2 k q r (by simpa using hq) (by simpa using hr)
theorem zLt {ll:List (List Sp)} {p:List Int} {ks:List (List Bool)} {outs:List (List Sp)} {o c:List Sp} {k:Nat} (h:GInv ll p p.length ks outs) (hp:zEE ll.flatten p) (ho:outs[k]?=some o) (hj:zFr o c) (hc:16<c.length):∃cs,zPQ ll cs∧zLU cs:=by
 obtain ⟨cs,h1,h2⟩:=zNj outs;refine ⟨cs,h.done hp h1 h2,.inl ?_⟩;obtain ⟨d,hd⟩:=zAU (l:=cs) (i:=k) (by have:=zAa ho;omega);refine ⟨d,List.mem_of_getElem? hd,?_⟩;have hv:=(h.ok k o ho).1;rw[zEF.eq (zEF.join (h2 k o d ho hd) hv).1 (zEF.join hj hv).1 fun _ _ _=>rfl];exact hc
end Go.Proofs
namespace Go.Proofs
open Go Go.Eng Go.Sort
def zTn (ll:List (List Sp)):Prop:=∀r,0≤r→r≤1114111→ll.countP (fun l=>inS l r)=1
def zBl:List Sp→Int
  | []=>-1
  | s::_=>s.1
def zWt (ll:List (List Sp)):Nat→Int
  | 0=>-1
  | k+1=>zBl (ll.getD k [])
def hdOk (ll:List (List Sp)) (k:Nat):Prop:=ll.getD k []≠[]∧zWt ll k<zBl (ll.getD k [])
def zTp (ll:List (List Sp)):Prop:=∀k,k<ll.length→hdOk ll k
open Classical in
noncomputable def partE (ll:List (List Sp)):Int:=if 16<ll.length then 2 else if zPE ll≠0 then zPE ll else if zTp ll∧zTn ll then 0 else 3
/-- Each rune has the marks of the piece that it lies in. -/
theorem zIN {ll:List (List Sp)} {p:List Int} (hp:zEE ll.flatten p) (hok:∀s∈ll.flatten,vSp s):∀i,i≤p.length→∀r,0≤r→r<nx p i→∃k lo,p[k]?=some lo∧lo≤r∧r<nx p (k+1)∧zBI ll r=zBI ll lo
  | 0,_,r,h0,h1=>by rw[zIM hp hok] at h1;omega
  | i+1,hi,r,h0,h1=>by
    obtain ⟨lo,hlo⟩:=zAU (l:=p) (i:=i) qO;rcases zQT r lo with h2|h2
    · exact zIN hp hok i qO r h0 (by rw[zQL hlo];exact h2)
    · exact ⟨i,lo,hlo,h2,h1,zFZ hp hok hlo h2 h1⟩
theorem zSJ {ll:List (List Sp)} {p:List Int} (hp:zEE ll.flatten p) (hok:∀s∈ll.flatten,vSp s) {r:Int} (h0:0≤r) (h1:r≤1114111):∃lo∈p,zBI ll r=zBI ll lo:=by
 obtain ⟨k,lo,h2,_,_,h3⟩:=zIN hp hok p.length (Nat.le_refl _) r h0 (by unfold nx;rw[List.getElem?_eq_none (Nat.le_refl _)];simp;omega);exact ⟨lo,List.mem_of_getElem? h2,h3⟩
def zWr (ll:List (List Sp)):List Int:=ll.map zBl
end Go.Proofs
namespace Go.Proofs
open Go Go.Eng Go.Sort
theorem zNg {α:Type} [DecidableEq α]:∀{l m:List α},l.Nodup→(∀x∈l,x∈m)→l.length≤m.length
  | [],_,_,_=>Nat.zero_le _
  | x::l,m,hd,h=>by
    have hd':=List.nodup_cons.1 hd;have hx:=h x List.mem_cons_self;have h1:=zNg (l:=l) (m:=m.erase x) hd'.2 fun y hy=>(List.mem_erase_of_ne (show y≠x from fun e=>hd'.1 (by rw[←e];exact hy))).2 (h y (List.mem_cons_of_mem _ hy));rw[List.length_erase_of_mem hx] at h1;have:=List.length_pos_of_mem hx;simp only[List.length_cons];omega
theorem zJW {ll:List (List Sp)} {p:List Int} (hp:zEE ll.flatten p) (key:List Bool):zME (fun r=>decide (zBI ll r=key)) p:=by
 intro a r ha h0 h1 hb;have:zBI ll r=zBI ll a:=by
  unfold zBI;apply List.map_congr_left;intro l hl;exact zLO hp hl a r ha h0 h1 hb
 show decide (zBI ll r=key)=decide (zBI ll a=key);rw[this]
/-- The marks in the order of their first place. -/
structure FirstAt (l:List (List Bool)) (ks:List (List Bool)) (js:List Nat):Prop where
 len:js.length=ks.length
 lt:js.Pairwise (· < ·)
 at':∀(k j:Nat) key,js[k]?=some j→ks[k]?=some key→l[j]?=some key∧∀i,i<j→l[i]?≠some key
theorem zSl (l:List (List Bool)):∃js,FirstAt l (zDF l) js∧(∀j∈js,j<l.length)∧∀m∈l,m∈zDF l:=by
  suffices h:∀n,n≤l.length→∃js,FirstAt (l.take n) (zDF (l.take n)) js∧(∀j∈js,j<n)∧∀m∈l.take n,m∈zDF (l.take n) by
    have:=h l.length (Nat.le_refl _)
    rwa [List.take_length] at this
  intro n
  induction n with
  | zero=>intro _;exact ⟨[],⟨rfl,List.Pairwise.nil,fun k j aa h=>by simp at h⟩,fun j h=>(by cases h),fun m h=>(by simp at h)⟩
  | succ n ih=>
    intro hn;obtain ⟨js,hF,hb,hm⟩:=ih (by omega);obtain ⟨x,hx⟩:=zAU (l:=l) (i:=n) (by omega);rw[zCP hx,zEq];have ac:(l.take n).length=n:=by simp;omega
    have ab:∀(i:Nat) aa,i<n→((l.take n++[x])[i]?=some aa↔(l.take n)[i]?=some aa):=fun i aa hi=>by rw[List.getElem?_append_left (by omega)]
    unfold zMF;split
    · rename_i hmem
      refine ⟨js,⟨hF.len,hF.lt,fun k j aa h1 h2=>?_⟩,fun j hj=>by have:=hb j hj;omega,fun m h=>?_⟩
      · have ad:=hb j (List.mem_of_getElem? h1);obtain ⟨h3,h4⟩:=hF.at' k j aa h1 h2;exact ⟨(ab j aa ad).2 h3,fun i hi h5=>h4 i hi ((ab i aa (by omega)).1 h5)⟩
      · rcases List.mem_append.1 h with h1|h1
        · exact hm m h1
        · rw[List.mem_singleton] at h1;rw[h1];exact hmem
    · rename_i hmem
      refine ⟨js++[n],⟨by simp[hF.len],?_,fun k j aa h1 h2=>?_⟩,fun j hj=>?_,fun m h=>?_⟩
      · rw[List.pairwise_append];exact ⟨hF.lt,List.pairwise_singleton _ _,fun a ha b ae=>by rw[List.mem_singleton] at ae;subst ae;exact hb a ha⟩
      · rcases Nat.lt_or_ge k js.length with h3|h3
        · rw[List.getElem?_append_left h3] at h1;rw[List.getElem?_append_left (by rw[←hF.len];exact h3)] at h2;have ad:=hb j (List.mem_of_getElem? h1);obtain ⟨h4,h5⟩:=hF.at' k j aa h1 h2;exact ⟨(ab j aa ad).2 h4,fun i hi h6=>h5 i hi ((ab i aa (by omega)).1 h6)⟩
        · rw[List.getElem?_append_right h3] at h1;rw[List.getElem?_append_right (by rw[←hF.len];exact h3)] at h2;have h4:=zAa h1;simp at h4;rw[show k - js.length=0 by omega] at h1;rw[show k - (zDF (l.take n)).length=0 by have:=hF.len;omega] at h2;simp at h1 h2;subst h1;subst h2;refine ⟨by rw[List.getElem?_append_right (by omega),ac,Nat.sub_self];rfl,fun i hi h5=>hmem (hm _ (List.mem_of_getElem? ((ab i _ hi).1 h5)))⟩
      · rcases List.mem_append.1 hj with h1|h1
        · have:=hb j h1;omega
        · rw[List.mem_singleton] at h1;omega
      · rcases List.mem_append.1 h with h1|h1
        · exact List.mem_append_left _ (hm m h1)
        · exact List.mem_append_right _ h1
theorem zOq {c:List Sp} {m:Int} (h:Canon c) (hm:inS c m=true) (hl:∀r,0≤r→r<m→inS c r=false):c≠[]∧zBl c=m:=by
  cases c with
  | nil=>cases hm
  | cons s l=>
    refine ⟨fun e=>(by cases e),?_⟩;have hv:=h.head;unfold vSp at hv;show s.1=m;rcases Int.lt_trichotomy s.1 m with h1|h1|h1
    · have:=hl s.1 qO h1;have h2:inS (s::l) s.1=true:=zFM.2 ⟨s,List.mem_cons_self,Int.le_refl _,hv.2.1⟩;rw[this] at h2;cases h2
    · exact h1
    · rw[zGG h h1] at hm;cases hm
structure Parted (ll cs:List (List Sp)):Prop where
 can:∀c∈cs,Canon c
 part:zTn cs
 heads:zTp cs
 mark:∀(k:Nat) c r,cs[k]?=some c→0≤r→r≤1114111→(inS c r=true↔zBI ll r=zBI ll (zBl c))
 low:∀c∈cs,0≤zBl c∧zBl c≤1114111
 inj:∀(i j:Nat) c d,cs[i]?=some c→cs[j]?=some d→zBI ll (zBl c)=zBI ll (zBl d)→i=j
theorem zPQ.parted {ll cs:List (List Sp)} (h:zPQ ll cs) (hok:∀s∈ll.flatten,vSp s):Parted ll cs:=by
  obtain ⟨p,hp,hl,hm⟩:=h;obtain ⟨js,hF,hb,ak⟩:=zSl (p.map (zBI ll));have ab:∀(k:Nat) c,cs[k]?=some c→∃aa j lo,(zDF (p.map (zBI ll)))[k]?=some aa∧js[k]?=some j∧p[j]?=some lo∧zBI ll lo=aa∧zEF c (fun r=>decide (zBI ll r=aa))∧c≠[]∧zBl c=lo∧0≤lo∧lo≤1114111:=by
    intro k c hc;obtain ⟨aa,hk⟩:=zAU (l:=zDF (p.map (zBI ll))) (i:=k) (by have:=zAa hc;omega);obtain ⟨j,hj⟩:=zAU (l:=js) (i:=k) (by have:=zAa hk;have:=hF.len;omega);obtain ⟨h1,h2⟩:=hF.at' k j aa hj hk;rw[List.getElem?_map] at h1;obtain ⟨lo,ac,he⟩:=Option.map_eq_some_iff.1 h1;have hS:=hm k aa c hk hc;have aj:=zCQ hp hok (List.mem_of_getElem? ac);obtain ⟨e1,e2⟩:=zOq (m:=lo) hS.1 (by rw[hS.2 lo aj.1 aj.2];exact decide_eq_true he) fun r r0 r1=>by
      rw[hS.2 r r0 qO,decide_eq_false_iff_not];intro hr;obtain ⟨i,li,h4,h5,_,h6⟩:=zIN hp hok j (by have:=zAa ac;omega) r r0 (by rw[zQL ac];exact r1);have a0:i<j:=by
        rcases Nat.lt_or_ge i j with h7|h7
        · exact h7
        · exfalso;have h8:lo≤li:=by
            rcases Nat.lt_or_ge j i with h9|h9
            · have ad:=zAa ac;have af:=zAa h4;rw[List.getElem?_eq_getElem ad] at ac;rw[List.getElem?_eq_getElem af] at h4;cases ac;cases h4;exact Int.le_of_lt (List.pairwise_iff_getElem.1 hp.1 j i ad af h9)
            · obtain rfl:i=j:=qO
              rw[ac] at h4;cases h4;exact Int.le_refl _
          omega
      exact h2 i a0 (by rw[List.getElem?_map,h4,Option.map_some,←h6,hr])
    exact ⟨aa,j,lo,hk,hj,ac,he,hS,e1,e2,aj.1,aj.2⟩
  have av:∀(i j:Nat) aa,(zDF (p.map (zBI ll)))[i]?=some aa→(zDF (p.map (zBI ll)))[j]?=some aa→i=j:=by
    intro i j aa hi hj;obtain ⟨a,ha⟩:=zAU (l:=js) (i:=i) (by have:=zAa hi;have:=hF.len;omega);obtain ⟨b,ai⟩:=zAU (l:=js) (i:=j) (by have:=zAa hj;have:=hF.len;omega);obtain ⟨h1,h2⟩:=hF.at' i a aa ha hi;obtain ⟨h3,h4⟩:=hF.at' j b aa ai hj;have aq:a=b:=by
      rcases Nat.lt_trichotomy a b with h5|h5|h5
      · exact absurd h1 (h4 a h5)
      · exact h5
      · exact absurd h3 (h2 b h5)
    subst aq;have af:=zAa ha;have ad:=zAa ai;rw[List.getElem?_eq_getElem af] at ha;rw[List.getElem?_eq_getElem ad] at ai;have e:=(Option.some.inj ha).trans (Option.some.inj ai).symm;rcases Nat.lt_trichotomy i j with h3|h3|h3
    · have:=List.pairwise_iff_getElem.1 hF.lt i j af ad h3;omega
    · exact h3
    · have:=List.pairwise_iff_getElem.1 hF.lt j i ad af h3;omega
  have ah:∀(i j:Nat) c d,cs[i]?=some c→cs[j]?=some d→zBI ll (zBl c)=zBI ll (zBl d)→i=j:=by
    intro i j c d hc hd he;obtain ⟨aa,_,lo,h1,_,_,h2,_,_,h3,_⟩:=ab i c hc;obtain ⟨aw,_,ar,az,_,_,ap,_,_,a4,_⟩:=ab j d hd;rw[h3,a4,h2,ap] at he;subst he;exact av i j aa h1 az
  have am:∀(k:Nat) c r,cs[k]?=some c→0≤r→r≤1114111→(inS c r=true↔zBI ll r=zBI ll (zBl c)):=by
    intro k c r hc r0 r1;obtain ⟨aa,_,lo,_,_,_,h2,hS,_,h3,_⟩:=ab k c hc;rw[hS.2 r r0 r1,decide_eq_true_eq,h3,h2]
  refine ⟨?_,?_,?_,am,?_,ah⟩
  · intro c hc;obtain ⟨k,hk⟩:=List.getElem?_of_mem hc;obtain ⟨_,_,_,_,_,_,_,hS,_⟩:=ab k c hk;exact hS.1
  · intro r r0 r1;obtain ⟨lo,ac,a3⟩:=zSJ hp hok r0 r1;have ax:=ak (zBI ll lo) (List.mem_map.2 ⟨lo,ac,rfl⟩);obtain ⟨k,hk⟩:=List.getElem?_of_mem ax;obtain ⟨c,hc⟩:=zAU (l:=cs) (i:=k) (by have:=zAa hk;omega);have hS:=hm k _ c hk hc;have h1:inS c r=true:=by rw[hS.2 r r0 r1];exact decide_eq_true a3
    have ag:∀(j:Nat) d,cs[j]?=some d→inS d r=true→j=k:=fun j d hd h2=>
      ah j k d c hd hc (((am j d r hd r0 r1).1 h2).symm.trans ((am k c r hc r0 r1).1 h1))
    have hkl:=zAa hc;rw[show cs=cs.take k++c::cs.drop (k+1) by rw[←zBU hc,List.take_append_drop],List.countP_append,List.countP_cons,h1];have z1:(cs.take k).countP (fun l=>inS l r)=0:=by
      rw[List.countP_eq_zero];intro d hd h2;obtain ⟨j,hj⟩:=List.getElem?_of_mem hd;have ad:=zAa hj;simp at ad;rw[List.getElem?_take_of_lt qO] at hj;have:=ag j d hj h2;omega
    have z2:(cs.drop (k+1)).countP (fun l=>inS l r)=0:=by
      rw[List.countP_eq_zero];intro d hd h2;obtain ⟨j,hj⟩:=List.getElem?_of_mem hd;rw[List.getElem?_drop] at hj;have:=ag _ d hj h2;omega
    rw[z1,z2];rfl
  · intro k hk;obtain ⟨c,hc⟩:=zAU hk;obtain ⟨_,j,lo,_,hj,ac,_,_,au,hh,h0,_⟩:=ab k c hc;have ao:cs.getD k []=c:=by simp[List.getD,hc]
    refine ⟨by rw[ao];exact au,?_⟩;rw[ao,hh];cases k with
    | zero=>show (-1:Int)<lo;omega
    | succ k=>
      obtain ⟨d,hd⟩:=zAU (l:=cs) (i:=k) qO;obtain ⟨_,j',ar,_,an,ae,_,_,_,ay,_⟩:=ab k d hd;have al:cs.getD k []=d:=by simp[List.getD,hd]
      show zBl (cs.getD k [])<lo;rw[al,ay];have a1:=zAa hj;have a2:=zAa an;rw[List.getElem?_eq_getElem a1] at hj;rw[List.getElem?_eq_getElem a2] at an;cases hj;cases an;have h9:=List.pairwise_iff_getElem.1 hF.lt k (k+1) a2 a1 qO;have b1:=zAa ac;have b2:=zAa ae;rw[List.getElem?_eq_getElem b1] at ac;rw[List.getElem?_eq_getElem b2] at ae;cases ac;cases ae;exact List.pairwise_iff_getElem.1 hp.1 _ _ b2 b1 h9
  · intro c hc;obtain ⟨k,hk⟩:=List.getElem?_of_mem hc;obtain ⟨_,_,lo,_,_,_,_,_,_,h3,h4,h5⟩:=ab k c hk;rw[h3];exact ⟨h4,h5⟩
end Go.Proofs
