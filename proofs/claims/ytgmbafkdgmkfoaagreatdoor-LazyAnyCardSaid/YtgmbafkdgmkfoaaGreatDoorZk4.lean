/- Contracts and plain lemmas, part 4. -/
import Derived.Test.YtgmbafkdgmkfoaaGreatDoorZk3
open Go.Proofs.Tryz
set_option maxHeartbeats 16000000
namespace Go.Proofs
open Go Go.Eng Go.Sort
def V7 (base:Nat) (vo:Value) (w:World) (u:Value) (l:List Sp):Prop:=(∃a c,u=.slice a l.length c)∧BY (λb=>base<=b∧vo.ownBlock≠some b) w 2 u (l.map BK)
theorem Qh {w:World} {n0 base:Nat} {f v:Value} {l:List Sp} (h:w.ownsRow base NW 2 v l.length (l.map BK).flatten) (hn:n0<=base) (hb:∀b,v.ownBlock=some b->f.ownBlock≠some b):V7 n0 f w v l:=by
 obtain ⟨a,c,rfl⟩:=Be h;refine ⟨⟨a,c,O⟩,?_⟩;rcases Nat.eq_zero_or_pos l.length with d|d
 .have:=List.eq_nil_of_length_eq_zero d;subst this;exact BY.nil _ _ _ _ _
 .have i:LK w base (.slice a l.length c) l:=⟨⟨a,c,O⟩,h⟩;have e:=i.at;obtain ⟨g,rfl,_,_⟩:=DZ h d;exact BY.mk e ⟨Nat.le_trans hn (h.lt g O).1,hb g O⟩
def DS (S:Nat->Prop) (w:World) (v:Value) (ll:List (List Sp)):Prop:=∃vs:List Value,BY S w 1 v (vs.map λx=>[x])∧vs.length=ll.length∧∀(i:Nat) (u:Value) (l:List Sp),vs[i]?=some u->ll[i]?=some l->BY S w 2 u (l.map BK)
theorem DS.at {S:Nat->Prop} {w:World} {v:Value} {ll:List (List Sp)} (h:DS S w v ll):Dm w v ll:=by
 obtain ⟨vs,a,c,e⟩:=h;exact ⟨vs,a.at,c,λi u l d b=>(e i u l d b).at⟩
theorem DS.mono {S S':Nat->Prop} {w:World} {v:Value} {ll:List (List Sp)} (h:DS S w v ll) (a:∀b,S b->S' b):DS S' w v ll:=by
 obtain ⟨vs,d,f,g⟩:=h;exact ⟨vs,d.mono a,f,λi u l c e=>(g i u l c e).mono a⟩
theorem FB (S:Nat->Prop) (w:World):DS S w (.slice none 0 0) []:=⟨[],BY.nil _ _ _ _ _,O,λi u l h=>by simp at h⟩
structure JSt (w:World) (base:Nat) (vo:Value) (us:List Value) (outs cs:List (List Sp)) (k:Nat):Prop where
 o:w.ownsRow base RF 1 vo outs.length us
 len:us.length=outs.length
 cl:cs.length=k
 don:∀(i:Nat) u c,i<k->us[i]?=some u->cs[i]?=some c->V7 base vo w u c
 rst:∀(i:Nat) u l,k<=i->us[i]?=some u->outs[i]?=some l->V7 base vo w u l
 jn:∀(i:Nat) q c,outs[i]?=some q->cs[i]?=some c->Ff q c
theorem CSt.join {w:World} {base:Nat} {e:Value} {vs:List Value} {a:List (List Sp)} (h:CSt w base e vs a):JSt w base e vs a [] 0:=
 ⟨h.o,h.len,O,λi u c hi=>absurd hi (Nat.not_lt_zero _),λi u l _ d g=>Qh (h.inn i u l d g) (Nat.le_refl _) λb hb=>h.apo i u b d hb,λi q c _ f=>by simp at f⟩
theorem V7.ext {base:Nat} {a u:Value} {w w':World} {l:List Sp} (h:V7 base a w u l) (e:Ae w w'):V7 base a w' u l:=⟨h.1,h.2.chg e λ_ _ f=>f⟩
theorem JSt.ext {w w':World} {base k:Nat} {d:Value} {us:List Value} {a cs:List (List Sp)} (h:JSt w base d us a cs k) (e:Ae w w'):JSt w' base d us a cs k:=
 ⟨BG h.o e,h.len,h.cl,λi u c hi b f=>(h.don i u c hi b f).ext e,λi u l hi b g=>(h.rst i u l hi b g).ext e,h.jn⟩
theorem JSt.step {w z:World} {base n1 g cap k n:Nat} {p:Value} {us:List Value} {a cs:List (List Sp)} {q c':List Sp} {v:Array Value} (h:JSt w base (.slice (some ⟨g,0,none⟩) n cap) us a cs k) (hn:n=a.length) (D:a[k]?=some q)
 (C:LK w n1 p c') (hn1:g<n1) (H:Ff q c') (I:BH w g v RF) (G:Put w z g (v.setIfInBounds k p) RF):JSt z base (.slice (some ⟨g,0,none⟩) n cap) (us.set k p) a (cs++[c']) (k+1):=by
 have hkl:=AM D;have A:V7 base (.slice (some ⟨g,0,none⟩) n cap) w p c':=Qh C.2 (by have E:=h.o;rw[<-hn] at E;have:=(E.lt g O).1;omega) λb hb e=>by cases e;have:=(C.2.lt g hb).1;omega
 have f:∀u l,V7 base (.slice (some ⟨g,0,none⟩) n cap) w u l->V7 base (.slice (some ⟨g,0,none⟩) n cap) z u l:=λu l s=>⟨s.1,s.2.chg G.chg λb hb e=>hb.2 (by rw[e];rfl)⟩;have F:=h.o;rw[<-hn] at F;have B:=I_ F I (i:=k) qO G.blk;have m:∀(i:Nat) u,(us.set k p)[i]?=some u->(i=k∧u=p)∨(i≠k∧us[i]?=some u):=by
  intro i u j;rw[List.getElem?_set] at j;split at j
  .rename_i x
   split at j
   .exact .inl ⟨x.symm,(Option.some.inj j).symm⟩
   .cases j
  .rename_i x
   exact .inr ⟨λe=>x e.symm,j⟩
 refine ⟨by rw[<-hn];exact B,by simp[h.len],by simp[h.cl],?_,?_,?_⟩
 .intro i u c hi j d;rcases m i u j with ⟨rfl,rfl⟩|⟨s,t⟩
  .rw[List.getElem?_append_right (by have:=h.cl;omega),h.cl,Nat.sub_self] at d;simp at d;subst d;exact f _ _ A
  .rw[List.getElem?_append_left (by have:=h.cl;omega)] at d;exact f _ _ (h.don i u c qO t d)
 .intro i u l hi j K;rcases m i u j with ⟨rfl,rfl⟩|⟨s,t⟩
  .omega
  .exact f _ _ (h.rst i u l qO t K)
 .intro i r c y d;rcases Nat.lt_or_ge i k with s|s
  .rw[List.getElem?_append_left (by have:=h.cl;omega)] at d;exact h.jn i r c y d
  .rw[List.getElem?_append_right (by have:=h.cl;omega)] at d;have t:=AM d;simp at t;have J:=h.cl;obtain rfl:i=k:=qO
   rw[J,Nat.sub_self] at d;simp at d;subst d;rw[D] at y;cases y;exact H
theorem JSt.doneN {w:World} {base k:Nat} {vo:Value} {us:List Value} {outs cs:List (List Sp)} (h:JSt w base vo us outs cs k) (hk:k=outs.length):DS (λb=>base<=b) w vo cs:=by
 refine ⟨us,?_,by rw[h.len,h.cl,hk],λi u l hu hl=>(h.don i u l (by have:=AM hl;have:=h.cl;omega) hu hl).2.mono λ_ hb=>hb.1⟩;have ho:=h.o;obtain ⟨a,c,rfl⟩:=Be ho;have aa:BR w 1 (.slice a outs.length c) (us.map λx=>[x]):=by
  rw[show us=(us.map λx=>[x]).flatten by simp[List.flatten_eq_flatMap,List.flatMap_map]] at ho;exact EA ho (by intro r hr;simp only[List.mem_map] at hr;obtain ⟨x,_,rfl⟩:=hr;rfl) (by simp[h.len]) qD
 rcases Nat.eq_zero_or_pos outs.length with h0|h0
 ·have h1:=h.len;rw[h0] at h1;rw[List.eq_nil_of_length_eq_zero h1,h0];exact BY.nil _ _ _ _ _
 ·obtain ⟨g,rfl,_,_⟩:=DZ ho h0;exact BY.mk aa (ho.lt g O).1
theorem Va (o:List Sp):∃c,Ff o c:=by
 let le:Sp->Sp->Bool:=λs t=>decide (s.1<=t.1)
 refine ⟨_,o.mergeSort le,List.mergeSort_perm o le,?_,O⟩;have:=List.pairwise_mergeSort (le:=le) (λa b c h1 h2=>by simp[le] at *;omega) (λa b=>by simp[le];omega) o;exact this.imp λh=>by simpa[le] using h
theorem Oi:∀a:List (List Sp),∃cs:List (List Sp),cs.length=a.length∧∀(k:Nat) o c,a[k]?=some o->cs[k]?=some c->Ff o c
 | []=>⟨[],O,λk o c h=>by simp at h⟩
 | o::a=>by
  obtain ⟨c,e⟩:=Va o;obtain ⟨cs,f,g⟩:=Oi a;refine ⟨c::cs,by simp[f],λk q r b d=>?_⟩;cases k with
  | zero=>simp at b d;subst b;subst d;exact e
  | succ k=>exact g k q r (by simpa using b) (by simpa using d)
theorem MZ {ll:List (List Sp)} {p:List Int} {m:List (List Bool)} {a:List (List Sp)} {o c:List Sp} {k:Nat} (h:GInv ll p p.length m a) (j:FR ll.flatten p) (b:a[k]?=some o) (g:Ff o c) (n:16<c.length):∃cs,HE ll cs∧M9 cs:=by
 obtain ⟨cs,q,f⟩:=Oi a;refine ⟨cs,h.done j q f,.inl ?_⟩;obtain ⟨d,hd⟩:=AX (l:=cs) (i:=k) (by have:=AM b;omega);refine ⟨d,List.mem_of_getElem? hd,?_⟩;have e:=(h.ok k o b).1;rw[Fc.eq (Fc.join (f k o d b hd) e).1 (Fc.join g e).1 λ_ _ _=>rfl];exact n
end Go.Proofs
namespace Go.Proofs
open Go Go.Eng Go.Sort
def Px (ll:List (List Sp)):Prop:=∀r,0<=r->r<=1114111->ll.countP (λl=>Cu l r)=1
def Bl:List Sp->Int
  | []=>-1
  | s::_=>s.1
def Wx (ll:List (List Sp)):Nat->Int
  | 0=>-1
  | k+1=>Bl (ll.getD k [])
def Xj (ll:List (List Sp)) (k:Nat):Prop:=ll.getD k []≠[]∧Wx ll k<Bl (ll.getD k [])
def T7 (ll:List (List Sp)):Prop:=∀k,k<ll.length->Xj ll k
open Classical in
noncomputable def partE (ll:List (List Sp)):Int:=if 16<ll.length then 2 else if LD ll≠0 then LD ll else if T7 ll∧Px ll then 0 else 3
theorem I' {ll:List (List Sp)} {p:List Int} (d:FR ll.flatten p) (b:∀s∈ll.flatten,EZ s):∀i,i<=p.length->∀r,0<=r->r<nx p i->∃k lo,p[k]?=some lo∧lo<=r∧r<nx p (k+1)∧A' ll r=A' ll lo
 | 0,_,r,h0,h1=>by rw[L0 d b] at h1;omega
 | i+1,hi,r,h0,h1=>by
  obtain ⟨lo,a⟩:=AX (l:=p) (i:=i) qO;rcases M7 r lo with c|c
  .exact I' d b i qO r h0 (by rw[WB a];exact c)
  .exact ⟨i,lo,a,c,h1,Gb d b a c h1⟩
theorem TL {ll:List (List Sp)} {p:List Int} (e:FR ll.flatten p) (a:∀s∈ll.flatten,EZ s) {r:Int} (b:0<=r) (h1:r<=1114111):∃lo∈p,A' ll r=A' ll lo:=by
 obtain ⟨k,lo,c,_,_,d⟩:=I' e a p.length (Nat.le_refl _) r b (by unfold nx;rw[List.getElem?_eq_none (Nat.le_refl _)];simp;omega);exact ⟨lo,List.mem_of_getElem? c,d⟩
def Ww (ll:List (List Sp)):List Int:=ll.map Bl
end Go.Proofs
namespace Go.Eng
open Go
def GI (o:Option Nat):Value:=.pointer (o.map λb=>⟨b,0,none⟩)
section
variable {P : Program} {N : Nat} {σ : CC} {w : World} {ty : TypeId} {pos : String} {af : Array Edge} {g : Option (Nat × Bool)} {t : TypeId} {x y : Operand} {M : Nat → Prop} {dst : Option Tmp}
theorem Oy {u:Addr} {e n:TypeId} (d:Nat) (b:P.underlying t=some (.pointer e)) (a:Df P e (n+1)):(Op.equalIn (d+1) t (.pointer (some u)) (.pointer (some u))).run P w=.ok true w:=by
 simp only[Op.equalIn,Sem.run_bind,run_underlying b,Result.andThen_ok,a.run];simp[sameAddr]
theorem IZ {v:Option Addr} {e:TypeId} (d:Nat) (a:P.underlying t=some (.pointer e)):(Op.equalIn (d+1) t (.pointer none) (.pointer v)).run P w=.ok v.isNone w:=by
 simp only[Op.equalIn,Sem.run_bind,run_underlying a,Result.andThen_ok];rfl
theorem Hm {u:Addr} {e:TypeId} (d:Nat) (a:P.underlying t=some (.pointer e)):(Op.equalIn (d+1) t (.pointer (some u)) (.pointer none)).run P w=.ok false w:=by
 simp only[Op.equalIn,Sem.run_bind,run_underlying a,Result.andThen_ok];rfl
theorem TH {o:Option Nat} {e:TypeId} (a:P.underlying t=some (.pointer e)) (c:ev σ x=GI o) (b:ev σ y=.pointer none):(execOp (ev σ) ⟨dst,.binOp .neq t x y t,ty,pos,af,g⟩).run P w=.ok (.value (.bool o.isSome)) w:=by
 simp only[execOp,c,b,GI,eqGuard,binOp,Op.equal,Op.maxDepth];cases o with
 | none=>
  have h:=IZ (P:=P) (w:=w) (v:=none) 9999 a;simp only[Option.map_none] at *;simp[h]
 | some q=>
  have h:=Hm (P:=P) (w:=w) (u:=⟨q,0,none⟩) 9999 a;simp only[Option.map_some] at *;simp[h]
theorem VG {o:Option Nat} {s:Nat} {e n:TypeId} (d:o=none∨o=some s) (a:P.underlying t=some (.pointer e)) (f:Df P e (n+1)) (b:ev σ x=GI o) (c:ev σ y=.pointer (some ⟨s,0,none⟩)):(execOp (ev σ) ⟨dst,.binOp .eql t x y t,ty,pos,af,g⟩).run P w=.ok (.value (.bool o.isSome)) w:=by
 simp only[execOp,b,c,GI,eqGuard,binOp,Op.equal,Op.maxDepth];rcases d with rfl|rfl
 .have h:=IZ (P:=P) (w:=w) (v:=some ⟨s,0,none⟩) 9999 a;simp only[Option.map_none] at *;simp[h]
 .have h:=Oy (P:=P) (w:=w) (u:=⟨s,0,none⟩) 9999 a f;simp only[Option.map_some] at *;simp[h]
def M6 {κ ν:Type} (ek:κ->Value) (eV:ν->Value) (ns:List (κ×ν)) (hs:Nat):G2:=λv w=>∃b,v=.map (some b)∧BS w b ek eV ns∧hs<=b
theorem OS {κ ν:Type} (ek:κ->Value) (eV:ν->Value) (c:List (κ×ν)) (f:Nat):EI (M6 ek eV c f):=by
 rintro v w w' e ⟨b,rfl,a,d⟩;exact ⟨b,O,e.keepM a,d⟩
theorem LZ {κ ν:Type} {d a:Nat} (ek:κ->Value) (eV:ν->Value) (b:a<=w.heap.size):En M P N ⟨some d,.makeMap t none,ty,pos,af,g⟩ (M6 ek eV [] a) σ w:=by
 have hn:=NewO.mk' w (.map #[] 0);refine Ba (v:=.map (some w.heap.size)) (w':={w with heap:=w.heap.push (.map #[] 0)}) ?_ (Ae.chg hn.ext) ⟨_,O,hn.at',b⟩;simp[execOp,Instr.makeMap]
def QB (us:List Value) (ns:List (Int×ByteArray)) (hs:Nat):G2:=λv w=>∃nb,v=.agg (us++[Value.map (some nb)]).toArray∧BS w nb Ei Dl ns∧hs<=nb
theorem PB (us:List Value) (d:List (Int×ByteArray)) (f:Nat):EI (QB us d f):=by
 rintro v w w' e ⟨b,rfl,a,c⟩;exact ⟨b,O,e.keepM a,c⟩
def PA (us:List Value) (ns:List (Int×ByteArray)) (T:TypeId) (hs:Nat):G2:=λv w=>∃b nb,v=.pointer (some ⟨b,0,none⟩)∧BH w b (us++[Value.map (some nb)]).toArray T∧hs<=b∧BS w nb Ei Dl ns∧hs<=nb
theorem O_ (us:List Value) (d:List (Int×ByteArray)) (T:TypeId) (g:Nat):EI (PA us d T g):=by
 rintro v w w' e ⟨b,c,rfl,a,f,h,i⟩;exact ⟨b,c,O,e.keep a,f,e.keepM h,i⟩
theorem LO {d c a:Nat} {us:List Value} {e:List (Int×ByteArray)} (h:ev σ x=.agg (us++[Value.map (some a)]).toArray) (f:(Value.agg (us++[Value.map (some a)]).toArray).cells=(us++[Value.map (some a)]).toArray) (j:BS w a Ei Dl e) (hn:c<=a) (i:c<=w.heap.size):En M P N ⟨some d,.box t x,ty,pos,af,g⟩ (PA us e t c) σ w:=by
 have b:=New.mk' w (us++[Value.map (some a)]).toArray t;refine Ba (v:=.pointer (some ⟨w.heap.size,0,none⟩)) (w':={w with heap:=w.heap.push (.cells (us++[Value.map (some a)]).toArray t (0,0))}) ?_ (Ae.chg b.ext) ⟨_,a,O,b.blk,i,b.keepM j,hn⟩;simp[execOp,h,Instr.box,newVar,newRow,f]
end
def Gg (w:World) (b:Nat):Prop:=∃c T f,w.heap[b]?=some (.cells c T f)
theorem MB {w:World} {b o:Nat} {v:Value} (h:w.cell? ⟨b,o,none⟩=some v):Gg w b:=by
 unfold World.cell? at h;cases hh:w.heap[b]? with
 | none=>simp[hh] at h
 | some q=>
  cases q with
  | cells c T f=>exact ⟨c,T,f,hh⟩
  | _=>simp[hh] at h
theorem DJ {w:World} {b:Nat} {c:Array Value} {T:TypeId} (h:BH w b c T):Gg w b:=⟨_,_,_,h⟩
theorem BS.no {κ ν:Type} {ek:κ->Value} {eV:ν->Value} {es:List (κ×ν)} {w:World} {b:Nat} (h:BS w b ek eV es):¬Gg w b:=by
 rintro ⟨c,T,f,hn⟩;unfold BS at h;rw[hn] at h;cases h
theorem Cg.no {w:World} {it b n:Nat} {seen:List Nat} (h:Cg w it b n seen):¬Gg w it:=by
 rintro ⟨c,T,f,hn⟩;unfold Cg at h;rw[hn] at h;cases h
theorem Ji {κ ν:Type} {ek:κ->Value} {eV:ν->Value} {es:List (κ×ν)} {w:World} {m it b n:Nat} {seen:List Nat} (h:BS w m ek eV es) (hi:Cg w it b n seen):m≠it:=by
 rintro rfl;unfold BS at h;unfold Cg at hi;rw[hi] at h;cases h
theorem DX {κ ν:Type} {ek:κ->Value} {eV:ν->Value} {es:List (κ×ν)} {w:World} {b m:Nat} {c:Array Value} {T:TypeId} (h:BH w b c T) (a:BS w m ek eV es):b≠m:=by
 rintro rfl;exact a.no (DJ h)
theorem BY.nm {S:Nat->Prop} {w:World} {k:Nat} {v:Value} {rows:List (List Value)} (h:BY S w k v rows) (d:∀r∈rows,r≠[]):BY (λb=>S b∧Gg w b) w k v rows:=by
 obtain ⟨a,cap,i,j,f,g⟩:=h;refine ⟨a,cap,i,j,f,?_⟩;rcases g with h|⟨b,o,hb,e,c⟩
 .exact .inl h
 .cases rows with
  | nil=>exact .inl O
  | cons r rs=>
   cases r with
   | nil=>exact absurd O (d [] List.mem_cons_self)
   | cons u us=>
    have:=c 0 (u::us) O 0 _ O;exact .inr ⟨b,o,⟨hb,MB this⟩,e,c⟩
mutual
theorem AS.nm {S:Nat->Prop} {w:World}:∀(t:Re) {vs:List Value},AS S w t vs->AS (λb=>S b∧Gg w b) w t vs
 | .mk k set args mn mx ng,vs,h=>by
  simp only[AS] at h⊢;obtain ⟨sa,sc,aa,ac,g,m,l,i⟩:=h;refine ⟨sa,sc,aa,ac,g,BY.nm m (λr d=>by obtain ⟨p,_,rfl⟩:=List.mem_map.1 d;simp[BK]),l,?_⟩;rcases i with h|⟨b,o,hb,j,a⟩
  .exact .inl h
  .match args,a with
   | [],_=>exact .inl O
   | t::ts,a=>
    have c:=a;simp only[A5] at c;obtain ⟨⟨us,f,e⟩,_⟩:=c;obtain ⟨_,_,_,_,rfl,_⟩:=e.form;have:=f 0 _ O;exact .inr ⟨b,o,⟨hb,MB this⟩,j,A5.nm (t::ts) a⟩
theorem A5.nm {S:Nat->Prop} {w:World} {b:Nat}:∀(a:List Re) {o:Nat},A5 S w b o a->A5 (λb=>S b∧Gg w b) w b o a
 | [],_,_=>by simp only[A5]
 | t::a,o,h=>by
  simp only[A5] at h⊢;obtain ⟨⟨vs,c,d⟩,e⟩:=h;exact ⟨⟨vs,c,AS.nm t d⟩,A5.nm a e⟩
end
theorem AS.chgM {S M:Nat->Prop} {w w':World} (c:Chg M w w') (a:∀b,S b->Gg w b->¬M b) {t:Re} {vs:List Value} (h:AS S w t vs):AS S w' t vs:=
 AS.mono (λ_ hb=>hb.1) t (AS.chg c (λb hb=>a b hb.1 hb.2) t (AS.nm t h))
end Go.Eng
namespace Go.Proofs
open Go Go.Eng Go.Sort
set_option maxRecDepth 100000
section
variable {S S' M : Nat → Prop} {w w' : World} {v : Value} {ll : List (List Sp)}
theorem DS.nm (h:DS S w v ll):DS (λb=>S b∧Gg w b) w v ll:=by
 obtain ⟨vs,e,g,d⟩:=h;exact ⟨vs,e.nm (λr a=>by obtain ⟨p,_,rfl⟩:=List.mem_map.1 a;simp),g,λi u l c f=>(d i u l c f).nm λr a=>by obtain ⟨p,_,rfl⟩:=List.mem_map.1 a;simp[BK]⟩
theorem DS.chgM (h:DS S w v ll) (c:Chg M w w') (a:∀b,S b->Gg w b->¬M b):DS S w' v ll:=by
 have d:=h.nm;obtain ⟨vs,e,g,k⟩:=d;exact ⟨vs,(e.chg c λb hb=>a b hb.1 hb.2).mono λ_ hb=>hb.1,g,λi u l j f=>((k i u l j f).chg c λb hb=>a b hb.1 hb.2).mono λ_ hb=>hb.1⟩
end
structure Cel where
 t:Re
 vs:List Value
 sb:Nat
 nb:Nat
 ns:List (Int×ByteArray)
abbrev QG:TypeId:=120
abbrev Jx:TypeId:=65
def Gr (cs:List (List Sp)) (t:Re) (c:Int):Re:=A6 (Bl (cs.getD c.toNat [])) t
structure CelAt (S:Nat->Prop) (D:Re->Int->Re) (w:World) (x:Cel):Prop where
 blk:BH w x.sb (x.vs++[Value.map (some x.nb)]).toArray QG
 sb:S x.sb
 re:AS S w x.t x.vs
 nx:BS w x.nb Ei Dl x.ns
 nk:Gw x.ns
 ok:Au x.t
 sz:x.t.size<=300
 kv:∀p∈x.ns,p.2=EC (D x.t p.1)
def EW (x:Cel):ByteArray×Option Nat:=(EC x.t,some x.sb)
structure HeldAt (S:Nat->Prop) (D:Re->Int->Re) (w:World) (mb:Nat) (L:List Cel):Prop where
 map:BS w mb Dl GI (L.map EW)
 cel:∀x∈L,CelAt S D w x
 nd:(L.map (·.t)).Nodup
 ap:(mb::L.map (·.nb)).Nodup
structure RepA (L:List Cel) (a:LzA Re):Prop where
 dom:∀t,a.dom t↔∃x∈L,x.t=t
 kn:∀t c,a.kn t c↔∃x∈L,x.t=t∧(CT x.ns c).isSome=true
 n:a.n=L.length
section
variable {S S' M : Nat → Prop} {D : Re → Int → Re} {w w' : World} {x : Cel} {mb : Nat} {L : List Cel} {a : LzA Re}
theorem CelAt.mono (h:CelAt S D w x) (a:∀b,S b->S' b):CelAt S' D w x:=⟨h.blk,a _ h.sb,AS.mono a _ h.re,h.nx,h.nk,h.ok,h.sz,h.kv⟩
theorem CelAt.chg (h:CelAt S D w x) (c:Chg M w w') (a:∀b,S b->Gg w b->¬M b) (hn:¬M x.nb):CelAt S D w' x:=
 ⟨c.keep (a _ h.sb (DJ h.blk)) h.blk,h.sb,AS.chgM c a h.re,c.keepM hn h.nx,h.nk,h.ok,h.sz,h.kv⟩
theorem HeldAt.mono (h:HeldAt S D w mb L) (a:∀b,S b->S' b):HeldAt S' D w mb L:=⟨h.map,λx c=>(h.cel x c).mono a,h.nd,h.ap⟩
theorem HeldAt.chg (h:HeldAt S D w mb L) (c:Chg M w w') (f:∀b,S b->Gg w b->¬M b) (d:¬M mb) (e:∀x∈L,¬M x.nb):HeldAt S D w' mb L:=
 ⟨c.keepM d h.map,λx a=>(h.cel x a).chg c f (e x a),h.nd,h.ap⟩
theorem HeldAt.ext (h:HeldAt S D w mb L) (c:Ae w w'):HeldAt S D w' mb L:=h.chg c (λ_ _ _ f=>f) (λf=>f) λ_ _ f=>f
theorem HeldAt.inj (h:HeldAt S D w mb L) {y z:Cel} (b:y∈L) (c:z∈L) (e:y.t=z.t):y=z:=by
 obtain ⟨i,hi⟩:=List.mem_iff_getElem?.1 b;obtain ⟨j,a⟩:=List.mem_iff_getElem?.1 c;have d:(L.map (·.t))[i]?=(L.map (·.t))[j]?:=by rw[List.getElem?_map,List.getElem?_map,hi,a];simp only[Option.map_some,Option.some.injEq];exact e
 have:=(List.getElem?_inj (by rw[List.length_map];exact AM hi) h.nd).1 d;subst this;rw[hi] at a;exact Option.some.inj a
theorem HeldAt.get (h:HeldAt S D w mb L) {t:Re} (f:Au t):(∃x∈L,x.t=t∧CT (L.map EW) (EC t)=some (some x.sb))∨((∀x∈L,x.t≠t)∧CT (L.map EW) (EC t)=none):=by
 have d:∀x∈L,Au x.t:=λx a=>(h.cel x a).ok;clear h
 induction L with
 | nil=>exact .inr ⟨qP,O⟩
 | cons y L ih=>
  rw[List.map_cons];unfold CT;by_cases e:EC y.t=EC t
  .rw[if_pos (show (EW y).1=EC t from e)];exact .inl ⟨y,List.mem_cons_self,VX (d y List.mem_cons_self) f e,O⟩
  .rw[if_neg (show ¬(EW y).1=EC t from e)];rcases ih λx a=>d x (List.mem_cons_of_mem _ a) with ⟨x,a,b,c⟩|⟨b,c⟩
   .exact .inl ⟨x,List.mem_cons_of_mem _ a,b,c⟩
   .refine .inr ⟨λx a=>?_,c⟩;rcases List.mem_cons.1 a with rfl|a
    .exact λg=>e (by rw[g])
    .exact b x a
theorem HeldAt.add (h:HeldAt S D w mb L) (p:∀b,S b->S' b) (c:Chg (λq=>q=mb) w w') (m:BS w' mb Dl GI (D9 (L.map EW) (EC x.t) (some x.sb))) (l:CelAt S' D w' x) (j:∀y∈L,y.t≠x.t) (n:x.nb≠mb) (o:∀y∈L,y.nb≠x.nb):HeldAt S' D w' mb (L++[x]):=by
 have f:CT (L.map EW) (EC x.t)=none:=by
  rcases h.get l.ok with ⟨y,a,e,_⟩|⟨_,e⟩
  .exact absurd e (j y a)
  .exact e
 have d:=h.ap;rw[List.nodup_cons] at d;refine ⟨?_,λy a=>?_,?_,?_⟩
 .rw[EO _ f] at m;rw[List.map_append];exact m
 .rcases List.mem_append.1 a with a|a
  .exact ((h.cel y a).chg c (λq _ hn e=>by subst e;exact h.map.no hn) λe=>d.1 (List.mem_map.2 ⟨y,a,e⟩)).mono p
  .rw[List.mem_singleton.1 a];exact l
 .rw[List.map_append,List.nodup_append];refine ⟨h.nd,qP,λu k v i e=>?_⟩;obtain ⟨y,a,rfl⟩:=List.mem_map.1 k;simp at i;exact j y a (e.trans i)
 .rw[List.map_append,List.nodup_cons];refine ⟨λg=>?_,?_⟩
  .rcases List.mem_append.1 g with g|g
   .exact d.1 g
   .simp at g;exact n g.symm
  .rw[List.nodup_append];refine ⟨d.2,qP,λu k v i e=>?_⟩;obtain ⟨y,a,rfl⟩:=List.mem_map.1 k;simp at i;exact o y a (e.trans i)
theorem RepA.none (b a:Int):RepA [] ⟨λ_=>False,λ_ _=>False,0,b,a⟩:=⟨qP,qP,O⟩
theorem RepA.add (h:RepA L a) (f:x.ns=[]):RepA (L++[x]) ⟨λy=>a.dom y∨y=x.t,a.kn,a.n+1,a.made,a.drops⟩:=by
 refine ⟨λt=>?_,λt c=>?_,by rw[List.length_append,<-h.n];rfl⟩
 .show a.dom t∨t=x.t↔_;rw[h.dom t];constructor
  .rintro (⟨y,b,d⟩|rfl)
   .exact ⟨y,List.mem_append_left _ b,d⟩
   .exact ⟨x,List.mem_append_right _ (List.mem_singleton.2 O),O⟩
  .rintro ⟨y,b,d⟩;rcases List.mem_append.1 b with b|b
   .exact .inl ⟨y,b,d⟩
   .rw[List.mem_singleton.1 b] at d;exact .inr d.symm
 .show a.kn t c↔_;rw[h.kn t c];constructor
  .rintro ⟨y,b,d⟩;exact ⟨y,List.mem_append_left _ b,d⟩
  .rintro ⟨y,b,d,e⟩;rcases List.mem_append.1 b with b|b
   .exact ⟨y,b,d,e⟩
   .rw[List.mem_singleton.1 b,f] at e;cases e
theorem RepA.one (hx:x.ns=[]) (made drops:Int):RepA [x] ⟨λy=>y=x.t,λ_ _=>False,1,made,drops⟩:=by
 refine ⟨λt=>?_,λt c=>?_,O⟩
 ·constructor
  ·rintro rfl;exact ⟨x,List.mem_singleton.2 O,O⟩
  ·rintro ⟨y,h1,h2⟩;rw[List.mem_singleton.1 h1] at h2;exact h2.symm
 ·constructor
  ·intro f;exact f.elim
  ·rintro ⟨y,h1,h2,h3⟩;rw[List.mem_singleton.1 h1,hx] at h3;cases h3
end
end Go.Proofs
namespace Go.Eng
open Go
theorem V4 {P:Program} {N:Nat} {Q:Dn} {σ:CC} {w:World} {x:Code} {K:CC->World->Prop} (J:CC->World->Prop) (h:Wp P N x (Li J Q) σ w) (k:∀σ' w',J σ' w'->K σ' w'):Wp P N x (Li K Q) σ w:=
 RE h λe σ' w' q=>by cases e<;>first|exact k _ _ q|exact q
end Go.Eng
namespace Go.Proofs
open Go Go.Eng Go.Sort
set_option maxRecDepth 100000
def Hn (most:Nat) (a:LzA Re) (t:Re) (L:List Cel) (mb n0:Nat) (L':List Cel) (mb':Nat):Prop:=
 (a.dom t∧L'=L∧mb'=mb)∨(¬a.dom t∧∃c:Cel,c.t=t∧c.ns=[]∧n0<=c.nb∧((a.n=most∧L'=[c]∧n0<=mb')∨(a.n≠most∧L'=L++[c]∧mb'=mb)))
theorem Hn.rep {most:Nat} {a:LzA Re} {t:Re} {L L':List Cel} {mb n0 mb':Nat} (h:Hn most a t L mb n0 L' mb') (r:RepA L a):RepA L' (holdA most a t):=by
 rcases h with ⟨hd,rfl,_⟩|⟨hd,c,rfl,hn,_,⟨b,rfl,_⟩|⟨b,rfl,_⟩⟩
 .rw[Dt hd];exact r
 .rw[ER hd b];exact RepA.one hn _ _
 .rw[Dr hd b];exact RepA.add r hn
theorem Hn.of {most:Nat} {a:LzA Re} {t:Re} {L f:List Cel} {mb n0 b:Nat} {d:Int} (hd:¬a.dom t) (k:(a.n=most∧f=[]∧n0<=b∧d=IW a.drops)∨(a.n≠most∧f=L∧b=mb∧d=a.drops)) {X:Cel} (i:X.t=t) (j:X.ns=[]) (h:n0<=X.nb):Hn most a t L mb n0 (f++[X]) b∧(holdA most a t).drops=d:=by
 rcases k with ⟨c,rfl,g,e⟩|⟨c,rfl,g,e⟩
 .exact ⟨.inr ⟨hd,X,i,j,h,.inl ⟨c,O,g⟩⟩,by rw[ER hd c,e]⟩
 .exact ⟨.inr ⟨hd,X,i,j,h,.inr ⟨c,O,g⟩⟩,by rw[Dr hd c,e]⟩
theorem T6 (S:Nat→Prop) (D:Re→Int→Re) (w0:World) (b mb most:Nat) (t:Re) (vs:List Value) (x0 x1 x2 x3 x4 x5 vc:Value) (L:List Cel) (a:LzA Re)
  (hB:BH w0 b #[x0,x1,x2,x3,x4,x5,.int .i64 ((most:Nat):Int),vc,.map (some mb),.int .i64 a.made,.int .i64 a.drops] Jx)
  (hH:HeldAt S D w0 mb L) (hR:RepA L a) (hb:¬S b) (ht:AS S w0 t vs) (hs:Au t) (hz:t.size≤300) (hm:1≤most∧most≤100) (hn:a.n≤most) :
  Bi prog 90 #[.pointer (some ⟨b,0,none⟩),.string (EC t),.agg vs.toArray] w0 fun _ w=>∃mb' L',Hn most a t L mb w0.heap.size L' mb'∧
   BH w b #[x0,x1,x2,x3,x4,x5,.int .i64 ((most:Nat):Int),vc,.map (some mb'),.int .i64 (holdA most a t).made,.int .i64 (holdA most a t).drops] Jx∧
   HeldAt (fun y=>S y∨w0.heap.size≤y) D w mb' L'∧Chg (fun q=>q=b∨q=mb) w0 w:=by
 have bl:=ht;obtain ⟨sa,sc,aa,ac,rfl,bx,b7,a2⟩:=ht.form;have af:=hH.map;have bt:=hH;have a4:=hR.n;obtain ⟨o,ho⟩:∃o,o=(CT (L.map EW) (EC t)).getD none:=⟨_,rfl⟩;have a5:o.isSome=true↔a.dom t:=by
  rw[hR.dom t,ho];rcases hH.get hs with ⟨x,hx,h1,h2⟩|⟨h1,h2⟩
  ·rw[h2];exact ⟨fun _=>⟨x,hx,h1⟩,fun _=>rfl⟩
  ·rw[h2];exact ⟨fun h=>(Bool.noConfusion h),fun ⟨x,hx,h⟩=>absurd h (h1 x hx)⟩
 refine EY func90 rfl ntmps90 (Qo rfl) ?_;have E:Chg (fun q=>q=b∨q=mb) w0 w0:=Chg.refl _ _;refine AA (BL (v:=(.agg (R6 t sa sc aa ac))) (c:=(R6 t sa sc aa ac)) qD rfl rfl ?_);intro br wr Nr;have Fr:=Nr.ge E;have Or_b:=Nr.lt hB;have Or_mb:=Nr.ltM af;replace hB:=Nr.keep hB;replace af:=Nr.keepM af;replace hH:=hH.ext Nr.ext;replace E:=E.ext Nr.ext;have Br:=Nr.blk;refine AB (AG (AA (qM _ rfl (qV (Ag rfl) (qF b 0 8 rfl underlying65 rfl Fv rfl (qV (AL rfl Gn (hB.cell rfl)) (qM _ rfl (Bn (v:=(GI o)) rfl rfl qD (Eq.trans (IG (eV:=GI) (k:=(EC t)) (z:=none) underlying63 (G_ underlying9) Mk af rfl rfl) (by rw[←ho])) (qV (TH underlying117 rfl rfl) (AB (A_ rfl (fun ai=>?_) (fun ai=>?_))))))))))))
 ·have a1:=ai;have hd:=a5.1 ai;refine AJ (AP (JM results90 ?_));exact ⟨mb,L,.inl ⟨hd,rfl,rfl⟩,by rw[Dt hd];exact hB,hH.mono fun _ h=>.inl h,E⟩
 ·have a1:=ai;have hd:¬a.dom t:=fun h=>by rw[a5.2 h] at ai;exact Bool.noConfusion ai
  refine AO (AC (AG ?_));have b6:w0.heap.size≤wr.heap.size:=E.size;have ay:b<wr.heap.size:=hB.lt;have aq:mb<wr.heap.size:=af.lt;have ar:br<wr.heap.size:=Br.lt;refine AG ?_;obtain ⟨bi,ae⟩:∃Fs:List CJ,Fs=[(eF (P6 b 0)),(eF (P6 b 0)),(eF (P6 b 8)),(eF (.map (some mb))),(eF (I6 (((L.map EW).length:Nat):Int))),(eF (P6 b 0)),(eF (P6 b 0)),(eF (P6 b 6)),(eF (I6 (most:Int))),(eF undef)]:=⟨_,rfl⟩;refine EH (NT []) [true,true,true,true,true,true,true,true,true,false] [9] [13,14,15,16,17,18,19,20,21,52] [[],[0],[1],[2],[3],[],[5],[6],[7],[]] [[],[0],[1,0],[2,1,0],[3,2,1,0],[],[5],[6,5],[7,6,5],[]] bi ae qK mixed qK qK qK qK ?_ ?_
  ·intro wd X0;refine qZ (fun S s' w' hi hN X U V H=>?_) ?_
   ·replace X:=CK X;exact AT (Ai (U 0 rfl)) rfl
   refine qZ (fun S s' w' hi hN X U V H=>?_) ?_
   ·replace X:=CK X;have bb:=(H 0 rfl).2 13 _ rfl (by rw[ae];rfl);exact AT (Ag bb) rfl
   refine qZ (fun S s' w' hi hN X U V H=>?_) ?_
   ·replace X:=CK X;have bh:=(H 1 rfl).2 14 _ rfl (by rw[ae];rfl);exact AT (AY bh underlying65 rfl Fv rfl) rfl
   refine qZ (fun S s' w' hi hN X U V H=>?_) ?_
   ·replace X:=CK X;have bk:=(H 2 rfl).2 15 _ rfl (by rw[ae];rfl);exact AT (AL bk Gn (((X0.trans X).keep hB).cell rfl)) rfl
   refine qZ (fun S s' w' hi hN X U V H=>?_) ?_
   ·replace X:=CK X;have bd:=(H 3 rfl).2 16 _ rfl (by rw[ae];rfl);exact AT (OC underlying63 ((Ae.trans X0 X).keepM af) bd) rfl
   refine qZ (fun S s' w' hi hN X U V H=>?_) ?_
   ·replace X:=CK X;exact AT (Ai (U 0 rfl)) rfl
   refine qZ (fun S s' w' hi hN X U V H=>?_) ?_
   ·replace X:=CK X;have bu:=(H 5 rfl).2 18 _ rfl (by rw[ae];rfl);exact AT (Ag bu) rfl
   refine qZ (fun S s' w' hi hN X U V H=>?_) ?_
   ·replace X:=CK X;have b0:=(H 6 rfl).2 19 _ rfl (by rw[ae];rfl);exact AT (AY b0 underlying65 rfl Ay rfl) rfl
   refine qZ (fun S s' w' hi hN X U V H=>?_) ?_
   ·replace X:=CK X;have b1:=(H 7 rfl).2 20 _ rfl (by rw[ae];rfl);exact AT (AL b1 Al (((X0.trans X).keep hB).cell rfl)) rfl
   refine DagStepsS.tail ?_;exact DagStepsS.nil
  ·intro s' wd2 w2 X0 X2 U H;replace X2:=X2.mono (M':=Ak) (fun y _ h=>by
     obtain ⟨j,hj,h⟩:=h;exact h.elim)
   have be:=H 4 rfl 17 _ rfl (by rw[ae];rfl);have bp:=H 8 rfl 21 _ rfl (by rw[ae];rfl);obtain ⟨j2,rfl⟩:=Am.out (σ:=s') (l:=[(0,(.pointer (some ⟨b,0,none⟩))),(1,(.string (EC t))),(5,(.pointer (some ⟨br,0,none⟩))),(17,(.int .i64 (((L.map EW).length:Nat):Int))),(21,(.int .i64 ((most:Nat):Int)))]) ⟨U 0 rfl,U 1 rfl,U 5 rfl,be,bp,trivial⟩;clear U H;replace hB:=(X0.trans X2).keep hB;replace af:=(X0.trans X2).keepM af;replace Br:=(X0.trans X2).keep Br;replace hH:=hH.ext (X0.trans X2);replace X2:=X0.trans X2;replace E:=E.ext X2;refine qV (Aj rfl rfl) (AB (AC (V4 (fun σ W3=>∃(ag:Nat) (L1:List Cel) (dr:Int),(∃jj_,σ=Bj jj_ [(0,(P6 b 0)),(1,(.string (EC t))),(5,(P6 br 0))])∧Chg (fun q=>q=b∨q=mb) w0 W3∧BH W3 b (#[x0,x1,x2,x3,x4,x5,Value.int .i64 (most:Int),vc,.map (some ag),.int .i64 a.made,.int .i64 dr]) Jx∧BH W3 br (R6 t sa sc aa ac) 25∧(HeldAt S D W3 ag L1)∧((a.n=most∧L1=[]∧w0.heap.size≤ag∧dr=IW a.drops)∨(a.n≠most∧L1=L∧ag=mb∧dr=a.drops))) ?_ ?_)))
   ·skip
    refine qC rfl (fun ah=>?_) (fun ah=>?_)
    ·refine AA (qM _ rfl (HQ Dl GI qD ?_));intro bm wm Nm;have Fm:=Nm.ge E;have Om_b:=Nm.lt hB;have Om_br:=Nm.lt Br;replace hB:=Nm.keep hB;replace Br:=Nm.keep Br;replace E:=E.ext Nm.ext;intro Mm;refine qV (Ag rfl) (qF b 0 8 rfl underlying65 rfl Fv rfl (Bb (b:=b) (o:=8) (c':=#[x0,x1,x2,x3,x4,x5,(I6 (most:Int)),vc,(.map (some bm)),(I6 a.made),(I6 a.drops)]) (v:=(.map (some bm))) rfl rfl rfl Fv hB qP rfl ?_));intro w5 S5;replace Br:=S5.keep qO Br;replace Mm:=S5.keepM qO Mm;replace E:=S5.step E qQ;replace hB:=S5.blk;refine AB (AR (qM _ rfl (qV (Ag rfl) (qF b 0 10 rfl underlying65 rfl Ay rfl (qV (AL rfl Al (hB.cell rfl)) (qV (Ax (c:=IW a.drops) rfl rfl (rfl)) (qV (Ag rfl) (qF b 0 10 rfl underlying65 rfl Ay rfl (Bb (b:=b) (o:=10) (c':=#[x0,x1,x2,x3,x4,x5,(I6 (most:Int)),vc,(.map (some bm)),(I6 a.made),(I6 (IW a.drops))]) (v:=(I6 (IW a.drops))) rfl rfl rfl Ay hB qP rfl ?_)))))))));intro w6 S6;replace Br:=S6.keep qO Br;replace Mm:=S6.keepM qO Mm;replace E:=S6.step E qQ;replace hB:=S6.blk;refine AB (AC ?_);exact ⟨bm,[],IW a.drops,Am.out ⟨rfl,rfl,rfl,trivial⟩,E,hB,Br,⟨Mm,qP,List.nodup_nil,qP⟩,.inl ⟨by have h9:=ah;rw[List.length_map,←a4] at h9;omega,rfl,qO,rfl⟩⟩
    ·refine AO (AC ?_);exact ⟨mb,L,a.drops,Am.out ⟨rfl,rfl,rfl,trivial⟩,E,hB,Br,hH,.inr ⟨by have h9:=ah;rw[List.length_map,←a4] at h9;omega,rfl,rfl,rfl⟩⟩
   ·clear E hB Br;rintro _ W3 ⟨ag,L1,dr,⟨j3,rfl⟩,E,hB,Br,ak,a0⟩;have ab:=ak.map;obtain ⟨z0,au⟩:∃z0,z0=(W3).heap.size:=⟨_,rfl⟩;have hbm:b≠ag:=DX hB ab;have hbr:br≠ag:=DX Br ab;have av:w0.heap.size≤ag∨(ag=b∨ag=mb):=by rcases a0 with h|h;exact .inl h.2.2.1;exact .inr (.inr h.2.2.1)
    have hml:ag<z0:=by rw[au];exact ab.lt
    have bn:∀y∈L1,y.nb<z0:=fun y hy=>by rw[au];exact (ak.cel y hy).nx.lt
    have hwz:w0.heap.size≤z0:=by rw[au];exact E.size
    have b3:w0.heap.size≤W3.heap.size:=E.size;have aw:b<W3.heap.size:=hB.lt;have ao:br<W3.heap.size:=Br.lt;have am:ag<W3.heap.size:=ab.lt;obtain ⟨bv,ad⟩:∃Fs:List CJ,Fs=[(eF (P6 b 0)),(eF (P6 b 0)),(eF (P6 b 8)),(eF (.map (some ag))),(eF (.string (EC t))),(eF (.agg (R6 t sa sc aa ac))),(fun _ _=>M6 Ei Dl ([]:List (Int×ByteArray)) z0),(fun _ _=>QB [.int .i64 t.kind,.slice sa t.set.length sc,.slice aa t.args.length ac,.int .i64 t.mn,.int .i64 t.mx,.bool t.neg] [] z0),(fun _ _=>PA [.int .i64 t.kind,.slice sa t.set.length sc,.slice aa t.args.length ac,.int .i64 t.mn,.int .i64 t.mx,.bool t.neg] [] QG z0),(eF undef)]:=⟨_,rfl⟩;refine EH (NT []) [true,true,true,true,true,true,true,true,true,false] [9] [34,35,36,37,38,39,40,41,42,52] [[],[0],[1],[2],[],[],[],[5,6],[7],[]] [[],[0],[1,0],[2,1,0],[],[],[],[5,6],[7,5,6],[]] bv ad qK mixed qK qK qK qK ?_ ?_
    ·intro wd X0;refine qZ (fun S s' w' hi hN X U V H=>?_) ?_
     ·replace X:=CK X;exact AT (Ai (U 0 rfl)) rfl
     refine qZ (fun S s' w' hi hN X U V H=>?_) ?_
     ·replace X:=CK X;have bc:=(H 0 rfl).2 34 _ rfl (by rw[ad];rfl);exact AT (Ag bc) rfl
     refine qZ (fun S s' w' hi hN X U V H=>?_) ?_
     ·replace X:=CK X;have bw:=(H 1 rfl).2 35 _ rfl (by rw[ad];rfl);exact AT (AY bw underlying65 rfl Fv rfl) rfl
     refine qZ (fun S s' w' hi hN X U V H=>?_) ?_
     ·replace X:=CK X;have b2:=(H 2 rfl).2 36 _ rfl (by rw[ad];rfl);exact AT (AL b2 Gn (((X0.trans X).keep hB).cell rfl)) rfl
     refine qZ (fun S s' w' hi hN X U V H=>?_) ?_
     ·replace X:=CK X;exact AT (Ai (U 1 rfl)) rfl
     refine qZ (fun S s' w' hi hN X U V H=>?_) ?_
     ·replace X:=CK X;exact AT (AK (U 5 rfl) Ad AH rfl (((X0.trans X).keep Br).cells rfl)) rfl
     refine DagStepsS.cons (Em.chg (U:=Ak) (OS _ _ _ _) (fun p y hp hw h=>by
        exact h.elim)) (HJ.const) (fun S s' w' hi hN X U V H=>Or.inl ⟨AD rfl,?_⟩) ?_
     ·replace X:=CK X;exact LZ Ei Dl (by have:=X0.size;have:=X.size;omega)
     refine DagStepsS.cons (Em.chg (U:=Ak) (PB _ _ _) (fun p y hp hw h=>by
        exact h.elim)) (HJ.const) (fun S s' w' hi hN X U V H=>Or.inl ⟨AD rfl,?_⟩) ?_
     ·replace X:=CK X;have bg:=(H 5 rfl).2 39 _ rfl (by rw[ad];rfl);obtain ⟨az,bf,b5,b4⟩:=(show ((fun _ _=>M6 Ei Dl ([]:List (Int×ByteArray)) z0):CJ) S s' (s' 40) w' from (H 6 rfl).2 40 (fun _ _=>M6 Ei Dl ([]:List (Int×ByteArray)) z0) rfl (by rw[ad];rfl));exact AT (BJ (ps:=[(0,.agg #[.int .i64 t.kind,.slice sa t.set.length sc,.slice aa t.args.length ac,.int .i64 t.mn,.int .i64 t.mx,.bool t.neg]),(1,.map (some az))]) (v:=.agg #[.int .i64 t.kind,.slice sa t.set.length sc,.slice aa t.args.length ac,.int .i64 t.mn,.int .i64 t.mx,.bool t.neg,.map (some az)]) (Xs bg bf) qK) ⟨az,rfl,b5,b4⟩
     refine DagStepsS.cons (Em.chg (U:=Ak) (O_ _ _ _ _) (fun p y hp hw h=>by
        exact h.elim)) (HJ.const) (fun S s' w' hi hN X U V H=>Or.inl ⟨AD rfl,?_⟩) ?_
     ·replace X:=CK X;obtain ⟨b41,a9,ba,bz⟩:=(show ((fun _ _=>QB [.int .i64 t.kind,.slice sa t.set.length sc,.slice aa t.args.length ac,.int .i64 t.mn,.int .i64 t.mx,.bool t.neg] [] z0):CJ) S s' (s' 41) w' from (H 7 rfl).2 41 (fun _ _=>QB [.int .i64 t.kind,.slice sa t.set.length sc,.slice aa t.args.length ac,.int .i64 t.mn,.int .i64 t.mx,.bool t.neg] [] z0) rfl (by rw[ad];rfl));exact LO a9 rfl ba bz (by have:=X0.size;have:=X.size;omega)
     refine DagStepsS.tail ?_;exact DagStepsS.nil
    ·intro s' wd7 w7 X0 X7 U H;replace X7:=X7.mono (M':=Ak) (fun y _ h=>by
       obtain ⟨j,hj,h⟩:=h;exact h.elim)
     have bq:=H 3 rfl 37 _ rfl (by rw[ad];rfl);have b8:=H 4 rfl 38 _ rfl (by rw[ad];rfl);obtain ⟨ap,a3,bo,a7,g42,bj,h42⟩:=(show ((fun _ _=>PA [.int .i64 t.kind,.slice sa t.set.length sc,.slice aa t.args.length ac,.int .i64 t.mn,.int .i64 t.mx,.bool t.neg] [] QG z0):CJ) (PH [true,true,true,true,true,true,true,true,true,false]) s' (s' 42) w7 from H 8 rfl 42 (fun _ _=>PA [.int .i64 t.kind,.slice sa t.set.length sc,.slice aa t.args.length ac,.int .i64 t.mn,.int .i64 t.mx,.bool t.neg] [] QG z0) rfl (by rw[ad];rfl));obtain ⟨j7,rfl⟩:=Am.out (σ:=s') (l:=[(37,(.map (some ag))),(38,(.string (EC t))),(42,(.pointer (some ⟨ap,0,none⟩)))]) ⟨bq,b8,bo,trivial⟩;clear U H;replace hB:=(X0.trans X7).keep hB;replace Br:=(X0.trans X7).keep Br;replace ab:=(X0.trans X7).keepM ab;replace ak:=ak.ext (X0.trans X7);replace X7:=X0.trans X7;replace E:=E.ext X7;have bs:∀y∈L1,y.t≠t:=fun y hy e=>hd ((hR.dom t).2 (by rcases a0 with h|h;rw[h.2.1] at hy;cases hy;exact ⟨y,h.2.1▸hy,e⟩));obtain ⟨X,aj,a8,ax,al,an⟩:∃X:Cel,X.t=t∧X.vs=[.int .i64 t.kind,.slice sa t.set.length sc,.slice aa t.args.length ac,.int .i64 t.mn,.int .i64 t.mx,.bool t.neg]∧X.sb=ap∧X.nb=a3∧X.ns=[]:=⟨⟨t,_,ap,a3,[]⟩,rfl,rfl,rfl,rfl,rfl⟩;have a6:=Hn.of hd a0 aj an (by rw[al];omega);refine FW (eV:=GI) (k:=(EC t)) (v:=(some ap)) underlying63 (G_ underlying9) ab rfl rfl rfl ?_;intro w8 S8 H8;replace hB:=S8.keep qO hB;replace Br:=S8.keep qO Br;replace E:=S8.step E (av);replace ab:=H8;refine AB (HC results90 ?_);exact ⟨ag,L1++[X],a6.1,by rw[GK,a6.2];exact hB,ak.add (fun _ h=>.inl h) S8.chg (by rw[aj,ax];exact ab) ⟨by rw[a8,ax,al];exact S8.keep (DX a7 ak.map) a7,by rw[ax];exact .inr qO,by rw[aj,a8];exact AS.mono (fun _ h=>.inl h) _ (AS.chgM E (fun y hy hn e=>by rcases e with rfl|rfl;exact hb hy;exact bt.map.no hn) bl),by rw[al,an];exact S8.keepM qO bj,by rw[an];exact Gw.nil,by rw[aj];exact hs,by rw[aj];exact hz,fun _ h=>by rw[an] at h;cases h⟩ (by rw[aj];exact bs) (by rw[al];omega) (fun y hy=>by have:=bn y hy;rw[al];omega),E⟩
end Go.Proofs
namespace Go.Proofs
open Go Go.Eng Go.Sort Go.Lib
set_option maxRecDepth 100000
def SO (L:List Cel) (seen:List Nat) (L':List Cel):Prop:=L'.length=seen.length∧∀(j:Nat) i,seen[j]?=some i->∃x y,L[i]?=some x∧L'[j]?=some y∧y.t=x.t∧y.ns=x.ns
theorem SO.nil (L:List Cel):SO L [] []:=⟨O,λj i h=>by simp at h⟩
theorem SO.add {L L':List Cel} {seen:List Nat} {i:Nat} {x y:Cel} (h:SO L seen L') (e:L[i]?=some x) (g:y.t=x.t) (m:y.ns=x.ns):SO L (seen++[i]) (L'++[y]):=by
 refine ⟨by rw[List.length_append,List.length_append,h.1];rfl,λj k a=>?_⟩;rcases Nat.lt_or_ge j seen.length with c|c
 .rw[List.getElem?_append_left c] at a;obtain ⟨d,l,n,f,o⟩:=h.2 j k a;exact ⟨d,l,n,by rw[List.getElem?_append_left (by rw[h.1];exact c)];exact f,o⟩
 .rw[List.getElem?_append_right c] at a;have b:j - seen.length=0:=by
   have:=AM a;simp at this;omega
  rw[b] at a;simp at a;subst a;exact ⟨x,y,e,by rw[List.getElem?_append_right (by rw[h.1];exact c),h.1,b];rfl,g,m⟩
theorem SO.back {L L':List Cel} {seen:List Nat} (h:SO L seen L') {y:Cel} (d:y∈L'):∃i∈seen,∃x,L[i]?=some x∧y.t=x.t∧y.ns=x.ns:=by
 obtain ⟨j,b⟩:=List.mem_iff_getElem?.1 d;have a:=AM b;rw[h.1] at a;obtain ⟨x,y',e,c,g,f⟩:=h.2 j _ (List.getElem?_eq_getElem a);rw[b] at c;cases c;exact ⟨_,List.getElem_mem a,x,e,g,f⟩
theorem SO.rep {L L':List Cel} {seen:List Nat} {a:LzA Re} (h:SO L seen L') (hn:seen.length=L.length) (k:∀i,i<L.length->i∈seen) (r:RepA L a):RepA L' a:=by
 have o:∀x∈L,∃y∈L',y.t=x.t∧y.ns=x.ns:=λx d=>by
  obtain ⟨i,hi⟩:=List.mem_iff_getElem?.1 d;obtain ⟨j,p⟩:=List.mem_iff_getElem?.1 (k i (AM hi));obtain ⟨x',y,b,g,l⟩:=h.2 j i p;rw[hi] at b;cases b;exact ⟨y,List.mem_of_getElem? g,l⟩
 have m:∀y∈L',∃x∈L,y.t=x.t∧y.ns=x.ns:=λy f=>by
  obtain ⟨i,_,x,b,g⟩:=h.back f;exact ⟨x,List.mem_of_getElem? b,g⟩
 refine ⟨λt=>(r.dom t).trans ⟨?_,?_⟩,λt c=>(r.kn t c).trans ⟨?_,?_⟩,by rw[r.n,h.1,hn]⟩
 .rintro ⟨x,d,e⟩;obtain ⟨y,f,b,_⟩:=o x d;exact ⟨y,f,b.trans e⟩
 .rintro ⟨y,f,e⟩;obtain ⟨x,d,b,_⟩:=m y f;exact ⟨x,d,b.symm.trans e⟩
 .rintro ⟨x,d,e,g⟩;obtain ⟨y,f,b,l⟩:=o x d;exact ⟨y,f,b.trans e,by rw[l];exact g⟩
 .rintro ⟨y,f,e,g⟩;obtain ⟨x,d,b,l⟩:=m y f;exact ⟨x,d,b.symm.trans e,by rw[<-l];exact g⟩
theorem Te (a:World) (b:Nat) (c:List (Int×ByteArray)) (z:Nat) (h:BS a b Ei Dl c) (d:z<=a.heap.size):Bi prog 88 #[.map (some b)] a λv w=>M6 Ei Dl c z v w∧Ae a w:=by
 refine (AnyW.maps_Clone Tryz.mapCl b _ _ a h).mono ?_;rintro e w' ⟨rfl,rfl⟩;have hn:=NewO.mk' a (.map (Dz Ei Dl c).toArray c.length);exact ⟨_,O,⟨_,O,hn.at',d⟩,hn.ext⟩
theorem SO.fresh {L L':List Cel} {seen:List Nat} {i:Nat} {x:Cel} (h:SO L seen L') (a:(L.map (·.t)).Nodup) (d:L[i]?=some x) (b:i∉seen):∀y∈L',y.t≠x.t:=λy f e=>by
 obtain ⟨j,g,x',c,k,_⟩:=h.back f;have l:(L.map (·.t))[j]?=(L.map (·.t))[i]?:=by rw[List.getElem?_map,List.getElem?_map,c,d];simp only[Option.map_some,Option.some.injEq];exact k.symm.trans e
 have m:j<(L.map (·.t)).length:=by rw[List.length_map];exact AM c
 have:=(List.getElem?_inj m a).1 l;subst this;exact b g
theorem Ss {n:Nat} {seen:List Nat} (c:seen.Nodup) (b:∀j∈seen,j<n) (a:∀i,i<n->i∈seen):seen.length=n:=by
 have:=((List.perm_ext_iff_of_nodup c List.nodup_range).2 λi=>⟨λh=>List.mem_range.2 (b i h),λh=>a i (List.mem_range.1 h)⟩).length_eq;rw[this,List.length_range]
theorem HeldAt.put_eq {S:Nat->Prop} {D:Re->Int->Re} {w:World} {mb:Nat} {L:List Cel} {x:Cel} (h:HeldAt S D w mb L) (c:Au x.t) (b:∀y∈L,y.t≠x.t):D9 (L.map EW) (EC x.t) (some x.sb)=(L++[x]).map EW:=by
 have a:CT (L.map EW) (EC x.t)=none:=by
  rcases h.get c with ⟨y,d,e,_⟩|⟨_,e⟩
  .exact absurd e (b y d)
  .exact e
 rw[EO _ a,List.map_append];rfl
theorem VW (S:Nat→Prop) (D:Re→Int→Re) (w0:World) (b mb most:Nat) (f:Re) (fsa faa ca:Option Addr) (fsc fac cn cc:Nat) (L:List Cel) (a:LzA Re)
  (hB:BH w0 b #[.int .i64 f.kind,.slice fsa f.set.length fsc,.slice faa f.args.length fac,.int .i64 f.mn,.int .i64 f.mx,.bool f.neg,.int .i64 ((most:Nat):Int),.slice ca cn cc,.map (some mb),.int .i64 a.made,.int .i64 a.drops] Jx)
  (hH:HeldAt S D w0 mb L) (hR:RepA L a) (hn:a.n≤1000) :
  Bi prog 51 #[.pointer (some ⟨b,0,none⟩)] w0 fun v w=>(∃b' mb' L',v=.pointer (some ⟨b',0,none⟩)∧w0.heap.size≤b'∧w0.heap.size≤mb'∧(∀y∈L',w0.heap.size≤y.nb)∧
   BH w b' #[.int .i64 f.kind,.slice fsa f.set.length fsc,.slice faa f.args.length fac,.int .i64 f.mn,.int .i64 f.mx,.bool f.neg,.int .i64 ((most:Nat):Int),.slice ca cn cc,.map (some mb'),.int .i64 a.made,.int .i64 a.drops] Jx∧
   HeldAt (fun y=>S y∨(w0.heap.size≤y∧y≠b')) D w mb' L'∧RepA L' a)∧Ae w0 w:=by
 have aa:=hH.map;have hln:=hR.n;refine qR func51 rfl ntmps51 rfl (fun E=>(AA (qA _ rfl (AB (AA (qM _ rfl (qV (Ag rfl) (qV (AK (vs:=[(I6 f.kind),(.slice fsa f.set.length fsc),(.slice faa f.args.length fac),(I6 f.mn),(I6 f.mx),(.bool f.neg),(I6 (most:Int)),(.slice ca cn cc),(.map (some mb)),(I6 a.made),(I6 a.drops)]) rfl WK QV rfl (hB.cells rfl)) (As (v:=(.agg #[(I6 f.kind),(.slice fsa f.set.length fsc),(.slice faa f.args.length fac),(I6 f.mn),(I6 f.mx),(.bool f.neg),(I6 (most:Int)),(.slice ca cn cc),(.map (some mb)),(I6 a.made),(I6 a.drops)])) (c:=#[(I6 f.kind),(.slice fsa f.set.length fsc),(.slice faa f.args.length fac),(I6 f.mn),(I6 f.mx),(.bool f.neg),(I6 (most:Int)),(.slice ca cn cc),(.map (some mb)),(I6 a.made),(I6 a.drops)]) (n:=11) qD XQ rfl QV rfl rfl rfl qS ?_)))))))));intro bx wx Nx;have Fx:=Nx.ge E;have Ox_b:=Nx.lt hB;have Ox_mb:=Nx.ltM aa;replace hB:=Nx.keep hB;replace aa:=Nx.keepM aa;replace E:=E.ext Nx.ext;have Bx:=Nx.blk;refine AB (AA (HQ Dl GI qD ?_));intro bm wm Nm;have Fm:=Nm.ge E;have Om_b:=Nm.lt hB;have Om_mb:=Nm.ltM aa;have Om_bx:=Nm.lt Bx;replace hB:=Nm.keep hB;replace aa:=Nm.keepM aa;replace Bx:=Nm.keep Bx;replace E:=E.ext Nm.ext;intro Mm;refine qF bx 0 8 rfl underlying65 rfl Fv rfl (Bb (b:=bx) (o:=8) (c':=#[(I6 f.kind),(.slice fsa f.set.length fsc),(.slice faa f.args.length fac),(I6 f.mn),(I6 f.mx),(.bool f.neg),(I6 (most:Int)),(.slice ca cn cc),(.map (some bm)),(I6 a.made),(I6 a.drops)]) (v:=(.map (some bm))) rfl rfl rfl Fv Bx qP rfl ?_);intro w1 S1;replace hB:=S1.keep qO hB;replace aa:=S1.keepM qO aa;replace Mm:=S1.keepM qO Mm;replace E:=S1.step E qQ;replace Bx:=S1.blk;refine AB (AG (AA (qM _ rfl (qV (Ag rfl) (qF b 0 8 rfl underlying65 rfl Fv rfl (qV (AL rfl Gn (hB.cell rfl)) (U9 qD underlying63 aa rfl ?_)))))));intro bi wi Ni;have Fi:=Ni.ge E;have Oi_b:=Ni.lt hB;have Oi_mb:=Ni.ltM aa;have Oi_bx:=Ni.lt Bx;have Oi_bm:=Ni.ltM Mm;replace hB:=Ni.keep hB;replace aa:=Ni.keepM aa;replace Bx:=Ni.keep Bx;replace Mm:=Ni.keepM Mm;replace E:=E.ext Ni.ext;have Ii:Cg wi bi mb (L.map EW).length []:=Ni.at';refine AB (AU (Av (fun nn_ σ W2=>∃(ac:List Nat) (L':List Cel) (es:List (ByteArray×Option Nat)),(∃jj_,σ=Bj jj_ [(15,(P6 bi 0)),(3,(P6 bx 0))])∧Chg Ak w0 W2∧BH W2 b #[(I6 f.kind),(.slice fsa f.set.length fsc),(.slice faa f.args.length fac),(I6 f.mn),(I6 f.mx),(.bool f.neg),(I6 (most:Int)),(.slice ca cn cc),(.map (some mb)),(I6 a.made),(I6 a.drops)] Jx∧BS W2 mb Dl GI (L.map EW)∧BH W2 bx #[(I6 f.kind),(.slice fsa f.set.length fsc),(.slice faa f.args.length fac),(I6 f.mn),(I6 f.mx),(.bool f.neg),(I6 (most:Int)),(.slice ca cn cc),(.map (some bm)),(I6 a.made),(I6 a.drops)] 65∧BS W2 bm Dl GI es∧Cg W2 bi mb ((L.map EW).length) ac∧(ac.Nodup)∧(∀j∈ac,j<L.length)∧(es=L'.map EW)∧(SO L ac L')∧(HeldAt (fun y=>S y∨(w0.heap.size≤y∧y≠bx)) D W2 bm L')∧(∀y∈L',w0.heap.size≤y.nb)∧nn_=L.length - ac.length) (n:=L.length - ([]:List Nat).length) ?_ ?_))
 ·exact ⟨([]:List Nat),[],[],Am.out ⟨rfl,rfl,trivial⟩,E,hB,aa,Bx,Mm,Ii,List.nodup_nil,(fun j hj=>absurd hj List.not_mem_nil),rfl,SO.nil L,⟨Mm,qP,List.nodup_nil,qP⟩,qP,rfl⟩
 ·clear E hB aa Bx Mm Ii;rintro _ _ W2 ⟨ac,L',es,⟨j2,rfl⟩,E,hB,aa,Bx,Mm,Ii,a2,a5,a4,hC,ae,a3,rfl⟩;refine AA (Wa qD aa Ii rfl (fun ao=>?_) ?_)
  ·skip
   refine qV (A2 rfl rfl) (AB (AG (Ah rfl (Aw (AZ (AZ (Ap (AC (AA (qA _ rfl (AB (AJ (AV results51 (v:=(.pointer (some ⟨bx,0,none⟩))) rfl ?_)))))))))))));exact ⟨⟨bx,bm,L',rfl,Fx,Fm,a3,Bx,ae,hC.rep (Ss a2 a5 (by simpa using ao)) (by simpa using ao) hR⟩,E⟩
  ·intro i p w3 hp a9 S3;replace ae:=ae.chg S3.chg (fun q _ hn e=>by subst e;exact Ii.no hn) (Ji Mm Ii) (fun y hy=>Ji (ae.cel y hy).nx Ii);replace hB:=S3.keep qO hB;replace aa:=S3.keepM qO aa;replace Bx:=S3.keep qO Bx;replace Mm:=S3.keepM qO Mm;replace E:=S3.step E (by first|exact Or.inl qO|exact Or.inr rfl|exact Or.inr qO);replace Ii:Cg w3 bi mb ((L.map EW).length) (ac++[i]):=S3.at';refine qV (A2 rfl rfl) (AB (AG (Az rfl (AO (AC (AU (AA (Bn (v:=(.tuple #[(.string p.1),(GI p.2)])) rfl rfl qD (VH aa Ii hp rfl) (qV (A2 rfl rfl) (qV (A2 rfl rfl) (qA _ rfl (qA _ rfl (AB ?_)))))))))))));have a1:=hp;rw[List.getElem?_map] at a1;obtain ⟨x,hx,rfl⟩:=Option.map_eq_some_iff.1 a1;have aj:=hH.cel x (List.mem_of_getElem? hx);obtain ⟨af,ah,ai,ag,bb,_,_,_⟩:=aj.re.form;have ay:=aj.blk;rw[bb] at ay;obtain ⟨z0,av⟩:∃z0,z0=(w3).heap.size:=⟨_,rfl⟩;have hml:bm<z0:=by rw[av];exact Mm.lt
   have bf:∀y∈L',y.nb<z0:=fun y hy=>by rw[av];exact (ae.cel y hy).nx.lt
   have hwz:w0.heap.size≤z0:=by rw[av];exact E.size
   have hxz:bx<z0:=by rw[av];exact Bx.lt
   have a8:=hC.fresh hH.nd hx a9;have al:(ac++[i]).Nodup:=List.nodup_append.2 ⟨a2,qP,fun u hu z hz=>by simp at hz;subst hz;exact fun h9=>a9 (h9▸hu)⟩;have am:∀j∈ac++[i],j<L.length:=fun j hj=>by rcases List.mem_append.1 hj with h9|h9;exact a5 j h9;rw[List.mem_singleton] at h9;subst h9;exact AM hx
   have hl2:=Sr al am;have hl3:(ac++[i]).length=ac.length+1:=qP
   have bv:w0.heap.size≤w3.heap.size:=E.size;have az:b<w3.heap.size:=hB.lt;have ap:mb<w3.heap.size:=aa.lt;have aw:bx<w3.heap.size:=Bx.lt;have ar:bm<w3.heap.size:=Mm.lt;have ax:bi<w3.heap.size:=Ii.lt;obtain ⟨br,ab⟩:∃Fs:List CJ,Fs=[(eF (P6 bx 8)),(eF (.map (some bm))),(eF (.string (EC x.t))),(eF (.pointer (some ⟨x.sb,0,none⟩))),(eF (.pointer (some ⟨x.sb,0,none⟩))),(eF (.pointer (some ⟨x.sb,0,none⟩))),(eF (.agg #[(I6 x.t.kind),(.slice af x.t.set.length ah),(.slice ai x.t.args.length ag),(I6 x.t.mn),(I6 x.t.mx),(.bool x.t.neg)])),(eF (.pointer (some ⟨x.sb,0,none⟩))),(eF (.pointer (some ⟨x.sb,0,none⟩))),(eF (.pointer (some ⟨x.sb,6,none⟩))),(eF (.map (some x.nb))),(fun _ _=>M6 Ei Dl x.ns z0),(fun _ _=>QB [.int .i64 x.t.kind,.slice af x.t.set.length ah,.slice ai x.t.args.length ag,.int .i64 x.t.mn,.int .i64 x.t.mx,.bool x.t.neg] x.ns z0),(fun _ _=>PA [.int .i64 x.t.kind,.slice af x.t.set.length ah,.slice ai x.t.args.length ag,.int .i64 x.t.mn,.int .i64 x.t.mx,.bool x.t.neg] x.ns QG z0),(eF undef)]:=⟨_,rfl⟩;refine EH (NT []) [true,true,true,true,true,true,true,true,true,true,true,true,true,true,false] [14] [21,22,23,24,25,26,27,28,29,30,31,32,33,34,49] [[],[0],[],[],[3],[4],[5],[],[7],[8],[9],[10],[6,11],[12],[]] [[],[0],[],[],[3],[4,3],[5,4,3],[],[7],[8,7],[9,8,7],[10,9,8,7],[6,5,4,3,11,10,9,8,7],[12,6,5,4,3,11,10,9,8,7],[]] br ab qK mixed qK qK qK qK ?_ ?_
   ·intro wd X0;refine qZ (fun S s' w' hi hN X U V H=>?_) ?_
    ·replace X:=CK X;exact AT (AY (U 3 rfl) underlying65 rfl Fv rfl) rfl
    refine qZ (fun S s' w' hi hN X U V H=>?_) ?_
    ·replace X:=CK X;have bh:=(H 0 rfl).2 21 _ rfl (by rw[ab];rfl);exact AT (AL bh Gn (((X0.trans X).keep Bx).cell rfl)) rfl
    refine qZ (fun S s' w' hi hN X U V H=>?_) ?_
    ·replace X:=CK X;exact AT (Ai (U 4 rfl)) rfl
    refine qZ (fun S s' w' hi hN X U V H=>?_) ?_
    ·replace X:=CK X;exact AT (Ai (U 5 rfl)) rfl
    refine qZ (fun S s' w' hi hN X U V H=>?_) ?_
    ·replace X:=CK X;have bw:=(H 3 rfl).2 24 _ rfl (by rw[ab];rfl);exact AT (Ag bw) rfl
    refine qZ (fun S s' w' hi hN X U V H=>?_) ?_
    ·replace X:=CK X;have bg:=(H 4 rfl).2 25 _ rfl (by rw[ab];rfl);exact AT (AY bg underlying120 rfl AH rfl) rfl
    refine qZ (fun S s' w' hi hN X U V H=>?_) ?_
    ·replace X:=CK X;have bz:=(H 5 rfl).2 26 _ rfl (by rw[ab];rfl);exact AT (AK bz Ad AH rfl (((Ae.trans E (X0.trans X)).keep ay).cells rfl)) rfl
    refine qZ (fun S s' w' hi hN X U V H=>?_) ?_
    ·replace X:=CK X;exact AT (Ai (U 5 rfl)) rfl
    refine qZ (fun S s' w' hi hN X U V H=>?_) ?_
    ·replace X:=CK X;have b1:=(H 7 rfl).2 28 _ rfl (by rw[ab];rfl);exact AT (Ag b1) rfl
    refine qZ (fun S s' w' hi hN X U V H=>?_) ?_
    ·replace X:=CK X;have bu:=(H 8 rfl).2 29 _ rfl (by rw[ab];rfl);exact AT (AY bu underlying120 rfl Pa rfl) rfl
    refine qZ (fun S s' w' hi hN X U V H=>?_) ?_
    ·replace X:=CK X;have bp:=(H 9 rfl).2 30 _ rfl (by rw[ab];rfl);exact AT (AL bp NH (((Ae.trans E (X0.trans X)).keep ay).cell rfl)) rfl
    refine DagStepsS.cons (Em.chg (U:=Ak) (OS _ _ _ _) (fun p y hp hw h=>by
       exact h.elim)) (HJ.const) (fun S s' w' hi hN X U V H=>Or.inl ⟨AD rfl,?_⟩) ?_
    ·replace X:=CK X;have bs:=(H 10 rfl).2 31 _ rfl (by rw[ab];rfl);exact Cr (AI func88 kQ kQ (G9 bs)) (Te _ x.nb x.ns z0 ((Ae.trans E (X0.trans X)).keepM aj.nx) (by have:=X0.size;have:=X.size;omega))
    refine DagStepsS.cons (Em.chg (U:=Ak) (PB _ _ _) (fun p y hp hw h=>by
       exact h.elim)) (HJ.const) (fun S s' w' hi hN X U V H=>Or.inl ⟨AD rfl,?_⟩) ?_
    ·replace X:=CK X;have bo:=(H 6 rfl).2 27 _ rfl (by rw[ab];rfl);obtain ⟨a0,bc,bj,bk⟩:=(show ((fun _ _=>M6 Ei Dl x.ns z0):CJ) S s' (s' 32) w' from (H 11 rfl).2 32 (fun _ _=>M6 Ei Dl x.ns z0) rfl (by rw[ab];rfl));exact AT (BJ (ps:=[(0,.agg #[.int .i64 x.t.kind,.slice af x.t.set.length ah,.slice ai x.t.args.length ag,.int .i64 x.t.mn,.int .i64 x.t.mx,.bool x.t.neg]),(1,.map (some a0))]) (v:=.agg #[.int .i64 x.t.kind,.slice af x.t.set.length ah,.slice ai x.t.args.length ag,.int .i64 x.t.mn,.int .i64 x.t.mx,.bool x.t.neg,.map (some a0)]) (Xs bo bc) qK) ⟨a0,rfl,bj,bk⟩
    refine DagStepsS.cons (Em.chg (U:=Ak) (O_ _ _ _ _) (fun p y hp hw h=>by
       exact h.elim)) (HJ.const) (fun S s' w' hi hN X U V H=>Or.inl ⟨AD rfl,?_⟩) ?_
    ·replace X:=CK X;obtain ⟨b33,be,bn,bq⟩:=(show ((fun _ _=>QB [.int .i64 x.t.kind,.slice af x.t.set.length ah,.slice ai x.t.args.length ag,.int .i64 x.t.mn,.int .i64 x.t.mx,.bool x.t.neg] x.ns z0):CJ) S s' (s' 33) w' from (H 12 rfl).2 33 (fun _ _=>QB [.int .i64 x.t.kind,.slice af x.t.set.length ah,.slice ai x.t.args.length ag,.int .i64 x.t.mn,.int .i64 x.t.mx,.bool x.t.neg] x.ns z0) rfl (by rw[ab];rfl));exact LO be rfl bn bq (by have:=X0.size;have:=X.size;omega)
    refine DagStepsS.tail ?_;exact DagStepsS.nil
   ·intro s' wd4 w4 X0 X4 U H;replace X4:=X4.mono (M':=Ak) (fun y _ h=>by
      obtain ⟨j,hj,h⟩:=h;exact h.elim)
    have bd:=H 1 rfl 22 _ rfl (by rw[ab];rfl);have bl:=H 2 rfl 23 _ rfl (by rw[ab];rfl);obtain ⟨an,a6,bt,a7,g34,b0,h34⟩:=(show ((fun _ _=>PA [.int .i64 x.t.kind,.slice af x.t.set.length ah,.slice ai x.t.args.length ag,.int .i64 x.t.mn,.int .i64 x.t.mx,.bool x.t.neg] x.ns QG z0):CJ) (PH [true,true,true,true,true,true,true,true,true,true,true,true,true,true,false]) s' (s' 34) w4 from H 13 rfl 34 (fun _ _=>PA [.int .i64 x.t.kind,.slice af x.t.set.length ah,.slice ai x.t.args.length ag,.int .i64 x.t.mn,.int .i64 x.t.mx,.bool x.t.neg] x.ns QG z0) rfl (by rw[ab];rfl));obtain ⟨j4,rfl⟩:=Am.out (σ:=s') (l:=[(3,(.pointer (some ⟨bx,0,none⟩))),(15,(.pointer (some ⟨bi,0,none⟩))),(22,(.map (some bm))),(23,(.string (EC x.t))),(34,(.pointer (some ⟨an,0,none⟩)))]) ⟨U 3 rfl,U 15 rfl,bd,bl,bt,trivial⟩;clear U H;replace hB:=(X0.trans X4).keep hB;replace aa:=(X0.trans X4).keepM aa;replace Bx:=(X0.trans X4).keep Bx;replace Mm:=(X0.trans X4).keepM Mm;replace Ii:=Ae.keepI Ii (X0.trans X4);replace ae:=ae.ext (X0.trans X4);replace X4:=X0.trans X4;replace E:=E.ext X4;obtain ⟨X,ad,ba,aq,ak,au⟩:∃X:Cel,X.t=x.t∧X.vs=[.int .i64 x.t.kind,.slice af x.t.set.length ah,.slice ai x.t.args.length ag,.int .i64 x.t.mn,.int .i64 x.t.mx,.bool x.t.neg]∧X.sb=an∧X.nb=a6∧X.ns=x.ns:=⟨⟨x.t,_,an,a6,x.ns⟩,rfl,rfl,rfl,rfl,rfl⟩;refine FW (eV:=GI) (k:=(EC x.t)) (v:=(some an)) underlying63 (G_ underlying9) Mm rfl rfl rfl ?_;intro w5 S5 H5;replace hB:=S5.keep qO hB;replace aa:=S5.keepM qO aa;replace Bx:=S5.keep qO Bx;replace Ii:=PutO.keepI Ii S5 qO;replace E:=S5.step E qQ;replace Mm:=H5;refine AB (AQ (AC ?_));exact ⟨L.length - (ac++[i]).length,qO,ac++[i],L'++[X],D9 es (EC x.t) (some an),Am.out ⟨rfl,rfl,trivial⟩,E,hB,aa,Bx,Mm,Ii,al,am,(by rw[a4,←aq,←ad];exact ae.put_eq (by rw[ad];exact aj.ok) (by rw[ad];exact a8)),hC.add hx ad au,ae.add (fun _ h=>h) S5.chg (by rw[ad,aq,←a4];exact Mm) ⟨by rw[ba,aq,ak];exact S5.keep (DX a7 ae.map) a7,by rw[aq];exact .inr ⟨qO,qO⟩,by rw[ad,ba];exact AS.mono (fun _ h=>.inl h) _ (by have h9:=AS.ext E _ aj.re;rw[bb] at h9;exact h9),by rw[ak,au];exact S5.keepM qO b0,by rw[au];exact aj.nk,by rw[ad];exact aj.ok,by rw[ad];exact aj.sz,by rw[au,ad];exact aj.kv⟩ (by rw[ad];exact a8) (by rw[ak];omega) (fun y hy=>by have:=bf y hy;rw[ak];omega),(fun y hy=>by rcases List.mem_append.1 hy with h9|h9;exact a3 y h9;rw[List.mem_singleton.1 h9,ak];omega),rfl⟩
end Go.Proofs
namespace Go.Eng
open Go
theorem BY.ltg {S:Nat->Prop} {w:World} {k:Nat} {v:Value} {rows:List (List Value)} (h:BY S w k v rows) (d:∀r∈rows,r≠[]):BY (λb=>S b∧b<w.heap.size) w k v rows:=by
 obtain ⟨a,cap,i,j,f,g⟩:=h;refine ⟨a,cap,i,j,f,?_⟩;rcases g with h|⟨b,o,hb,e,c⟩
 .exact .inl h
 .cases rows with
  | nil=>exact .inl O
  | cons r rs=>
   cases r with
   | nil=>exact absurd O (d [] List.mem_cons_self)
   | cons u us=>
    have:=c 0 (u::us) O 0 _ O;exact .inr ⟨b,o,⟨hb,World.block_lt_of_cell? w _ this⟩,e,c⟩
end Go.Eng
namespace Go.Proofs
open Go Go.Eng Go.Sort
set_option maxRecDepth 100000
theorem DS.lt {S:Nat->Prop} {w:World} {v:Value} {ll:List (List Sp)} (h:DS S w v ll):DS (λb=>S b∧b<w.heap.size) w v ll:=by
 obtain ⟨vs,e,g,d⟩:=h;exact ⟨vs,e.ltg (λr a=>by obtain ⟨p,_,rfl⟩:=List.mem_map.1 a;simp),g,λi u l c f=>(d i u l c f).ltg λr a=>by obtain ⟨p,_,rfl⟩:=List.mem_map.1 a;simp[BK]⟩
structure LzF (S:Nat->Prop) (cs:List (List Sp)) (w:World) (f:Re) (fv:List Value) (vc:Value) (mb:Nat) (L:List Cel):Prop where
 hf:AS S w f fv
 sp:DS S w vc cs
 hd:HeldAt S (Gr cs) w mb L
section
variable {S S' M : Nat → Prop} {cs : List (List Sp)} {w w' : World} {f : Re} {fv : List Value} {vc : Value} {mb : Nat} {L : List Cel}
theorem LzF.mono (h:LzF S cs w f fv vc mb L) (a:∀b,S b->S' b):LzF S' cs w f fv vc mb L:=⟨AS.mono a _ h.hf,h.sp.mono a,h.hd.mono a⟩
theorem LzF.chg (h:LzF S cs w f fv vc mb L) (c:Chg M w w') (a:∀b,S b->Gg w b->¬M b) (e:¬M mb) (d:∀x∈L,¬M x.nb):LzF S cs w' f fv vc mb L:=
 ⟨AS.chgM c a h.hf,h.sp.chgM c a,h.hd.chg c a e d⟩
theorem LzF.ext (h:LzF S cs w f fv vc mb L) (c:Ae w w'):LzF S cs w' f fv vc mb L:=h.chg c (λ_ _ _ f=>f) (λf=>f) λ_ _ f=>f
theorem LzF.cells (h:LzF S cs w f fv vc mb L) {q:Nat} (c:Chg (λy=>y=q) w w') (d:¬S q) (hn:Gg w q):LzF S cs w' f fv vc mb L:=
 h.chg c (λb hb _ e=>d (e▸hb)) (λe=>h.hd.map.no (e▸hn)) λx a e=>(h.hd.cel x a).nx.no (e▸hn)
theorem CelAt.lt {D:Re->Int->Re} {x:Cel} (h:CelAt S D w x):CelAt (λb=>S b∧b<w.heap.size) D w x:=⟨h.blk,⟨h.sb,h.blk.lt⟩,AS.lt _ h.re,h.nx,h.nk,h.ok,h.sz,h.kv⟩
theorem LzF.lt (h:LzF S cs w f fv vc mb L):LzF (λb=>S b∧b<w.heap.size) cs w f fv vc mb L:=⟨AS.lt _ h.hf,h.sp.lt,h.hd.map,λx a=>(h.hd.cel x a).lt,h.hd.nd,h.hd.ap⟩
end
section
variable {S : Nat → Prop} {D : Re → Int → Re} {w w' : World} {x : Cel} {mb i : Nat} {L : List Cel} {a : LzA Re} {n : Int} {q : ByteArray}
def Rr (x:Cel) (n:Int) (q:ByteArray):Cel:=⟨x.t,x.vs,x.sb,x.nb,D9 x.ns n q⟩
theorem I2 {y:Cel} (b:L[i]?=some x) (c:y∈L.set i (Rr x n q)):y=Rr x n q∨∃j,j≠i∧L[j]?=some y:=by
 obtain ⟨j,a⟩:=List.mem_iff_getElem?.1 c;rw[List.getElem?_set] at a;by_cases e:i=j
 .rw[if_pos e,if_pos (AM b)] at a;cases a;exact .inl O
 .rw[if_neg e] at a;exact .inr ⟨j,λh=>e h.symm,a⟩
theorem Ny (a:L[i]?=some x):Rr x n q∈L.set i (Rr x n q):=List.mem_of_getElem? (i:=i) (by rw[List.getElem?_set,if_pos O,if_pos (AM a)])
theorem RS {y:Cel} {j:Nat} (b:L[j]?=some y) (a:j≠i):y∈L.set i (Rr x n q):=List.mem_of_getElem? (i:=j) (by rw[List.getElem?_set,if_neg (λh=>a h.symm)];exact b)
theorem OE:∀{es:List (Int×ByteArray)} {k:Int} {b:ByteArray},∀p∈D9 es k b,p∈es∨p=(k,b)
 | [],k,b,p,h=>by
  unfold D9 at h;exact .inr (List.mem_singleton.1 h)
 | e::es,k,b,p,h=>by
  unfold D9 at h;split at h
  .rcases List.mem_cons.1 h with h|h
   .exact .inr h
   .exact .inl (List.mem_cons_of_mem _ h)
  .rcases List.mem_cons.1 h with h|h
   .exact .inl (by rw[h];exact List.mem_cons_self)
   .rcases OE p h with h|h
    .exact .inl (List.mem_cons_of_mem _ h)
    .exact .inr h
theorem map_set {β:Type} (g:Cel->β) (a:L[i]?=some x) (b:g (Rr x n q)=g x):(L.set i (Rr x n q)).map g=L.map g:=by
 apply List.ext_getElem?;intro j;rw[List.getElem?_map,List.getElem?_set,List.getElem?_map];by_cases e:i=j
 .subst e;rw[if_pos O,if_pos (AM a),a];simp[b]
 .rw[if_neg e]
theorem HeldAt.know (h:HeldAt S D w mb L) (g:L[i]?=some x) (c:Chg (λy=>y=x.nb) w w') (z:BS w' x.nb Ei Dl (D9 x.ns n q)) (u:q=EC (D x.t n)):HeldAt S D w' mb (L.set i (Rr x n q)):=by
 have f:=h.ap;rw[List.nodup_cons] at f;have k:=List.mem_of_getElem? g;have a:=h.cel x k;have d:∀b,S b->Gg w b->¬b=x.nb:=λb _ hn e=>a.nx.no (e▸hn);refine ⟨?_,λy r=>?_,?_,?_⟩
 .rw[map_set EW g rfl];exact c.keepM (λe=>f.1 (List.mem_map.2 ⟨x,k,e.symm⟩)) h.map
 .rcases I2 g r with rfl|⟨j,o,l⟩
  .exact ⟨c.keep (d _ a.sb (DJ a.blk)) a.blk,a.sb,AS.chgM c d a.re,z,a.nk.put _ _,a.ok,a.sz,λp s=>by
    rcases OE p s with m|m
    .exact a.kv p m
    .rw[m];exact u⟩
  .refine (h.cel y (List.mem_of_getElem? l)).chg c d λe=>?_;have v:(L.map (·.nb))[j]?=(L.map (·.nb))[i]?:=by rw[List.getElem?_map,List.getElem?_map,l,g];simp only[Option.map_some,Option.some.injEq];exact e
   exact o ((List.getElem?_inj (by rw[List.length_map];exact AM l) f.2).1 v)
 .rw[map_set (·.t) g rfl];exact h.nd
 .rw[map_set (·.nb) g rfl];exact h.ap
theorem RepA.know (h:RepA L a) (hx:L[i]?=some x):RepA (L.set i (Rr x n q)) (knowA a x.t n):=by
 have aa:=List.mem_of_getElem? hx;rw[Ez ((h.dom x.t).2 ⟨x,aa,O⟩)];have mm:∀(l:List Cel) (t:Re),(∃y∈l,y.t=t)↔t∈l.map (·.t):=λl t=>by rw[List.mem_map]
 refine ⟨λt=>?_,λt c=>?_,by rw[List.length_set];exact h.n⟩
 ·show a.dom t↔_;rw[h.dom t,mm,mm,map_set (·.t) hx rfl]
 ·show a.kn t c∨(t=x.t∧c=n)↔_;rw[h.kn t c];constructor
  ·rintro (⟨y,hy,h1,h2⟩|⟨rfl,rfl⟩)
   ·obtain ⟨j,hj⟩:=List.mem_iff_getElem?.1 hy;by_cases e:j=i
    ·subst e;rw[hx] at hj;cases hj;refine ⟨_,Ny hx,h1,?_⟩;show (CT (D9 x.ns n q) c).isSome=true;rw[Kw];split
     ·rfl
     ·exact h2
    ·exact ⟨y,RS hj e,h1,h2⟩
   ·refine ⟨_,Ny hx,O,?_⟩;show (CT (D9 x.ns c q) c).isSome=true;rw[Kw,if_pos rfl];rfl
  ·rintro ⟨y,hy,h1,h2⟩;rcases I2 hx hy with rfl|⟨j,_,hj⟩
   ·have h3:(CT (D9 x.ns n q) c).isSome=true:=h2;rw[Kw] at h3;by_cases e:n=c
    ·exact .inr ⟨h1.symm,e.symm⟩
    ·rw[if_neg e] at h3;exact .inl ⟨x,aa,h1,h3⟩
   ·exact .inl ⟨y,List.mem_of_getElem? hj,h1,h2⟩
end
end Go.Proofs
namespace Go.Proofs
open Go Go.Eng Go.Sort
set_option maxRecDepth 100000
theorem NN:∀{ll:List (List Sp)} {k:Nat} {l:List Sp},(∀x∈ll.take k,BT x=0)->ll[k]?=some l->BT l≠0->LD ll=BT l
 | [],_,_,_,h,_=>by simp at h
 | x::ll,0,l,_,h,hc=>by simp at h;subst h;unfold LD;rw[if_pos hc]
 | x::ll,k+1,l,hz,h,hc=>by
  unfold LD;rw[if_neg (by simpa using hz x qP)];exact NN (k:=k) (λy a=>hz y (by simp[a])) (by simpa using h) hc
theorem JU:∀{ll:List (List Sp)},(∀x∈ll,BT x=0)->LD ll=0
 | [],_=>rfl
 | x::ll,h=>by
  unfold LD;rw[if_neg (by simpa using h x qP)];exact JU λy a=>h y (by simp[a])
theorem TQ {w:World} {base e size n c:Nat} {a:Option Addr} {xs:List Value} (h:w.ownsRow base e size (.slice a n c) n xs):n<=c∧c<=9223372036854775807:=by
 rcases h.2 with ⟨i,h0⟩|⟨g,cap,cur,f,_,_,b,d,_⟩
 .simp only[Value.slice.injEq] at i;omega
 .simp only[Value.slice.injEq] at f;obtain ⟨_,_,rfl⟩:=f;exact ⟨b,d⟩
def XN (base:Nat) (w:World) (r:Value) (out:List (List Sp)) (e:Int):Prop:=∃a c,r=.tuple #[.slice a out.length c,.int .i64 e]∧DS (λb=>base<=b) w (.slice a out.length c) out
theorem TF {ll:List (List Sp)} {i:Nat} {l:List Sp} (h:ll[i]?=some l):Jt (ll.take (i+1)).flatten=Jt (ll.take i).flatten++l.flatMap λs=>[s.1,s.2+1]:=by
 rw[JC h];unfold Jt;rw[List.flatMap_append,List.cons_append]
theorem TG {l:List Sp} {j:Nat} {s:Sp} (h:l[j]?=some s):(l.take (j+1)).flatMap (λs=>[s.1,s.2+1])=(l.take j).flatMap (λs=>[s.1,s.2+1])++[s.1,s.2+1]:=by
 rw[E5 h,List.flatMap_append];simp
theorem UT {p q:List Int} {i:Nat} {c:Int} (d:q=p∨q=p++[1114112]) (a:q[i]?=some c) (hb:∀x∈p,x<=1114111):(c<=1114111->p[i]?=some c)∧(1114111<c->p.length<=i):=by
 rcases d with rfl|rfl
 .exact ⟨λ_=>a,λh=>absurd (hb c (List.mem_of_getElem? a)) qO⟩
 .rcases Nat.lt_or_ge i p.length with b|b
  .rw[List.getElem?_append_left b] at a;exact ⟨λ_=>a,λh=>absurd (hb c (List.mem_of_getElem? a)) qO⟩
  .rw[List.getElem?_append_right b] at a;have e:=AM a;simp at e;rw[show i - p.length=0 by omega] at a;simp at a;exact ⟨λh=>qO,λ_=>b⟩
theorem Q4 {p q:List Int} (a:q=p∨q=p++[1114112]):p.length<=q.length∧q.length<=p.length+1:=by
 rcases a with rfl|rfl<;>simp
theorem UR {p q:List Int} {i:Nat} {c:Int} (d:q=p∨q=p++[1114112]) (hi:i<=p.length) (a:q[i]?=some c):nx p i=c:=by
 unfold nx;rcases d with rfl|rfl
 .rw[a];rfl
 .rcases Nat.lt_or_ge i p.length with b|b
  .rw[List.getElem?_append_left b] at a;rw[a];rfl
  .rw[List.getElem?_append_right b] at a;rw[show i - p.length=0 by omega] at a;simp at a;rw[List.getElem?_eq_none b];simpa using a
theorem US {p q:List Int} {i:Nat} (a:q=p∨q=p++[1114112]) (hi:q.length<=i):nx p i=1114112:=by
 have:=Q4 a;unfold nx;rw[List.getElem?_eq_none qO];rfl
theorem CSt.on {w:World} {base n:Nat} {b:Value} {vs:List Value} {a:List (List Sp)} (h:CSt w base b vs a) (hn:n=a.length):w.ownsRow base RF 1 b n vs:=by subst hn;exact h.o
theorem Si {a:List (List Sp)} {c:List (List Bool)} {m:List Bool} (hl:a.length=c.length) (hn:m∉c):∀(j:Nat) q,(a++[[]])[j]?=some q->a[j]?=some q∨(j=c.length∧q=[]∧m∉c):=by
 intro j q b;rcases Nat.lt_or_ge j a.length with d|d
 .left;rwa [List.getElem?_append_left d] at b
 .right;rw[List.getElem?_append_right d] at b;have e:=AM b;simp at e;rw[show j - a.length=0 by omega] at b;simp at b;exact ⟨qO,by simp[b],hn⟩
theorem Sj {vs:List Value} {z:Nat} (h:∀(i:Nat) v b,vs[i]?=some v->v.ownBlock=some b->b<z):∀(i:Nat) v b,(vs++[.slice none 0 0])[i]?=some v->v.ownBlock=some b->b<z:=by
 intro i v b a hb;rcases Nat.lt_or_ge i vs.length with c|c
 .rw[List.getElem?_append_left c] at a;exact h i v b a hb
 .rw[List.getElem?_append_right c] at a;have d:=AM a;simp at d;rw[show i - vs.length=0 by omega] at a;simp at a;subst a;cases hb
def DU (ll:List (List Sp)) (c:Int) (e:Nat):List Int:=(A' (ll.take e) c).map NM++List.replicate (ll.length - e) 0
theorem OP (ll:List (List Sp)) (c:Int):DU ll c 0=List.replicate ll.length 0:=by simp[DU,A']
theorem Pp {ll:List (List Sp)} {c:Int} {e:Nat} (h:e<=ll.length):(DU ll c e).length=ll.length:=by
 simp[DU,A'];omega
theorem OQ {ll:List (List Sp)} {c:Int} {e:Nat} {l:List Sp} (h:ll[e]?=some l):DU ll c (e+1)=(DU ll c e).set e (NM (Cu l c)):=by
 have hl:=AM h;unfold DU A';rw[E5 h,show ll.length - e=(ll.length - (e+1))+1 by omega,List.replicate_succ,List.map_append,List.map_append,List.append_assoc];have a:(((ll.take e).map λl=>Cu l c).map NM).length=e:=by simp;omega
 rw[List.set_append_right _ _ qO,a,Nat.sub_self];simp
theorem OR {ll:List (List Sp)} {c:Int} {e:Nat} {l:List Sp} (h:ll[e]?=some l) (hi:Cu l c=false):DU ll c (e+1)=DU ll c e:=by
 have hl:=AM h;unfold DU A';rw[E5 h,show ll.length - e=(ll.length - (e+1))+1 by omega,List.replicate_succ,List.map_append,List.map_append,List.append_assoc];simp[hi,NM]
theorem Pq (ll:List (List Sp)) (c:Int):DU ll c ll.length=(A' ll c).map NM:=by simp[DU]
theorem Vp (a:World) (g c n:Nat) (l q:List Int) (d:Sort.Holds (Value.int .i64) a g 0 l.toArray) (b:l.length<=c∧c<=9223372036854775807) (hn:l.length=n) (e:q=Lib.compact l) :
 Bi prog 66 #[.slice (some ⟨g,0,none⟩) n c] a λr w=>r=.slice (some ⟨g,0,none⟩) q.length c∧BZ w r q∧Chg (λx=>x=g) a w:=by
 subst hn;subst e;exact Vq a g c l d b
theorem UV (w0:World) (v:Value) (ll:List (List Sp)) (h:Dm w0 v ll) (hL:ll.flatten.length≤1048576) (hL2:ll.length≤1048576) :
  Bi prog 26 #[v] w0 fun r w=>(∃out e,XD ll out e∧XN w0.heap.size w r out e)∧Ae w0 w:=by
 obtain ⟨a,c,rfl,_,hle⟩:=h.form;obtain ⟨base,ed⟩:∃base,base=w0.heap.size:=⟨_,rfl⟩;refine qR func26 rfl ntmps26 rfl (fun E=>(AA (qA _ rfl (qA _ rfl (AB (AG (AA (qM _ rfl (qV (Aa underlying34 rfl) (qM _ rfl (AB (AU (Av (fun nn_ σ W1=>∃(k:Nat),(∃jj_,σ=Bj jj_ [(0,(.slice a ll.length c)),(23,(.slice a ll.length c)),(24,(I6 (ll.length:Int))),(25,(I6 (k:Int)))])∧Chg Ak w0 W1∧(k≤ll.length)∧(∀l∈ll.take k,BT l=0)∧nn_=ll.length - k) (n:=ll.length - 0) ?_ ?_)))))))))))))
 ·exact ⟨0,Am.out ⟨rfl,rfl,rfl,rfl,trivial⟩,E,Nat.zero_le _,qP,rfl⟩
 ·clear E;rintro _ _ W1 ⟨k,⟨j1,rfl⟩,E,hk,hz,rfl⟩;refine AA (qV (BE rfl rfl) (AB (AG (qC rfl (fun fl=>?_) (fun fl=>?_)))))
  ·obtain ⟨l,hx⟩:=AX (l:=ll) (i:=k) qO;obtain ⟨b,o,rfl,b7⟩:=EN h qO;obtain ⟨ra,rc,af,aq⟩:=b7 k l hx;refine AO (AC (AG (AU (AA (qV (AN (b:=b) (o:=o) (len:=ll.length) (cap:=c) (i:=k) (o':=o+k) rfl rfl rfl underlying34 CM qO qO) (qV (AL rfl Cb (E.cell (fun f=>f) af)) (qA _ rfl (AB (AA (qM _ rfl (qE rfl (AI func64 kQ kQ rfl) (OA _ _ l (aq.ext E)) ?_)))))))))));rintro _ w9 ⟨rfl,X9⟩;replace E:=E.ext X9;refine qA _ rfl (AB (AA (qM _ rfl (qV (Cy rfl rfl) (AB (qC rfl (fun hc=>?_) (fun hc=>?_)))))))
   ·refine AA (qM _ rfl (qA _ rfl (qA _ rfl (AB (AJ (Ac (AP (AP (Ac (AP (Bf results26 (v:=(.slice none 0 0)) (v':=(.int .i64 (BT l))) rfl rfl ?_)))))))))));exact ⟨⟨[],BT l,.inl ⟨by rw[NN hz hx hc];exact hc,(NN hz hx hc).symm,rfl⟩,none,0,rfl,FB _ _⟩,E⟩
   ·refine AO (AQ (AC (AR (qV (Ax rfl rfl (A8 qO)) (qM _ rfl (AB (AC ?_)))))));exact ⟨ll.length - (k+1),qO,k+1,Am.out ⟨rfl,rfl,rfl,rfl,trivial⟩,E,qO,(fun y hy=>by rw[E5 hx] at hy;rcases List.mem_append.1 hy with h1|h1;exact hz y h1;rw[List.mem_singleton] at h1;subst h1;omega),rfl⟩
  ·have e5:k=ll.length:=qO
   rw[e5,List.take_length] at hz;have bg:=JU hz;have be:∀s∈ll.flatten,EZ s:=fun s hs=>by obtain ⟨l,hl,hs⟩:=List.mem_flatten.1 hs;exact (Gq (hz l hl)).1.ok s hs
   refine Aw (AZ (AZ (Ap (AC (AA (A3 (ps:=[(0,(I6 0))]) (c:=#[(I6 0)]) qD rfl underlying46 Ay Iw qD qD qK ?_))))));intro bq wq Nq;have Fq:=Nq.ge E;replace E:=E.ext Nq.ext;have Bq:=Nq.blk;refine qA _ rfl (AB (AG (AA (qM _ rfl (qV (Aa underlying34 rfl) (qM _ rfl (AB (AU ?_))))))));have b2:=TN (base:=base) Bq qO;have dq:base≤wq.heap.size:=by have:=E.size;omega
   refine Av (fun nn_ σ W4=>∃(i:Nat) (la:Option Addr) (lc:Nat) (n:Nat) (rs:List Int),(∃jj_,σ=Bj jj_ [(0,(.slice a ll.length c)),(36,(.slice a ll.length c)),(37,(I6 (ll.length:Int))),(38,(I6 (i:Int))),(7,(.slice la n lc))])∧Chg Ak w0 W4∧(i≤ll.length)∧(rs=Jt (ll.take i).flatten)∧(n=rs.length)∧(W4.ownsRow base V6 1 (.slice la n lc) n (rs.map (Value.int .i64)))∧(base≤W4.heap.size)∧nn_=ll.length - i) (n:=ll.length - 0) ?_ ?_
   ·exact ⟨0,some ⟨bq,0,none⟩,1,1,[0],Am.out ⟨rfl,rfl,rfl,rfl,rfl,trivial⟩,E,Nat.zero_le _,rfl,rfl,b2,dq,rfl⟩
   ·clear E;rintro _ _ W4 ⟨i,la,lc,n,rs,⟨j4,rfl⟩,E,hi,b9,hn,ah,fo,rfl⟩;refine AA (qV (BE rfl rfl) (AB (AG (qC rfl (fun c7=>?_) (fun c7=>?_)))))
    ·obtain ⟨l,hx⟩:=AX (l:=ll) (i:=i) qO;obtain ⟨b,o,rfl,b7⟩:=EN h qO;obtain ⟨ra,rc,af,aq⟩:=b7 i l hx;have et:=VU ll (i+1);rw[JC hx,List.length_append] at et;have dp:=Kd (ll.take i).flatten;rw[←b9] at dp;refine AO (AC (AG (AU (AA (qV (AN (b:=b) (o:=o) (len:=ll.length) (cap:=c) (i:=i) (o':=o+i) rfl rfl rfl underlying34 CM qO qO) (qV (AL rfl Cb (E.cell (fun f=>f) af)) (qA _ rfl (AB (AA (qM _ rfl (qV (Aa underlying22 rfl) (qM _ rfl (AB (AU (Av (fun nn_ σ W6=>∃(j:Nat) (bv:Option Addr) (cf:Nat) (n2:Nat),(∃jj_,σ=Bj jj_ [(0,(.slice (some ⟨b,o,none⟩) ll.length c)),(36,(.slice (some ⟨b,o,none⟩) ll.length c)),(37,(I6 (ll.length:Int))),(38,(I6 (i:Int))),(42,(.slice ra l.length rc)),(43,(I6 (l.length:Int))),(44,(I6 (j:Int))),(7,(.slice bv n2 cf))])∧Chg Ak w0 W6∧(j≤l.length)∧(n2=rs.length+2*j)∧(W6.ownsRow base V6 1 (.slice bv n2 cf) n2 ((rs++(l.take j).flatMap fun s=>[s.1,s.2+1]).map (Value.int .i64)))∧(base≤W6.heap.size)∧nn_=l.length - j) (n:=l.length - 0) ?_ ?_)))))))))))))))
     ·exact ⟨0,la,lc,n,Am.out ⟨rfl,rfl,rfl,rfl,rfl,rfl,rfl,rfl,trivial⟩,E,Nat.zero_le _,qO,(by simpa using ah),fo,rfl⟩
     ·clear E;rintro _ _ W6 ⟨j,bv,cf,n2,⟨j6,rfl⟩,E,hj,hn2,ac,aj,rfl⟩;refine AA (qV (BE rfl rfl) (AB (AG (qC rfl (fun c2=>?_) (fun c2=>?_)))))
      ·obtain ⟨s,hs⟩:=AX (l:=l) (i:=j) qO;obtain ⟨sb,so,rfl,fb⟩:=Bd aq qO;have e0:=be s (List.mem_flatten.2 ⟨l,List.mem_of_getElem? hx,List.mem_of_getElem? hs⟩);unfold EZ at e0;have d5:=ac;refine AO (AC (AG (AU (AA (qV (AN (b:=sb) (o:=so) (len:=l.length) (cap:=rc) (i:=j) (o':=so+j*2) rfl rfl rfl underlying22 BU qO qO) (qV (AK rfl Ew BU rfl ((fb j s hs).ext E)) (As (v:=(.agg #[(I6 s.1),(I6 s.2)])) (c:=#[(I6 s.1),(I6 s.2)]) (n:=2) qD Ed rfl BU rfl rfl rfl qS ?_)))))));intro bt wt Nt;have Ft:=Nt.ge E;replace ac:=BG ac Nt.ext;replace aj:=Nat.le_trans aj Nt.ext.size;replace E:=E.ext Nt.ext;have Bt:=Nt.blk;refine AB (AR (qM _ rfl (qF bt 0 0 rfl underlying80 rfl Ay rfl (qV (AL rfl Al (Bt.cell rfl)) (qF bt 0 1 rfl underlying80 rfl Ay rfl (qV (AL rfl Al (Bt.cell rfl)) (qV (Ax rfl rfl (A8 qO)) (A3 (ps:=[(0,(I6 s.1)),(1,(I6 (s.2+1)))]) (c:=#[(I6 s.1),(I6 (s.2+1))]) qD rfl underlying46 Ay Iw qD qD qK ?_))))))));intro b8 w8 N8;have F8:=N8.ge E;have O8_bt:=N8.lt Bt;replace Bt:=N8.keep Bt;replace ac:=BG ac N8.ext;replace aj:=Nat.le_trans aj N8.ext.size;replace E:=E.ext N8.ext;have B8:=N8.blk;refine CQ (base:=base) (n:=n2) (m:=2) (xs:=((rs++(l.take j).flatMap fun s=>[s.1,s.2+1]).map (Value.int .i64))) (news:=[(I6 s.1),(I6 (s.2+1))]) (size:=1) (bytes:=8) (v:=(.slice bv n2 cf)) qD underlying46 Ay Xr Iw rfl qD rfl ac rfl (rfl) (B8.cells rfl) qS (by unfold maxLen;omega) qO (aj) ?_;intro v9 ez dy ea Dv9;replace E:=E.step ea (fun x hx h=>absurd (ac.lt x h).1 qO);obtain ⟨e7,eh,rfl⟩:=Be dy;refine qA _ rfl (AB (AQ (AC (AR (qV (Ax rfl rfl (A8 qO)) (qM _ rfl (AB (AC ?_))))))));exact ⟨l.length - (j+1),qO,j+1,e7,eh,n2+2,Am.out ⟨rfl,rfl,rfl,rfl,rfl,rfl,rfl,rfl,trivial⟩,E,qO,qO,(by rw[TG hs,←List.append_assoc];simpa using dy),Nat.le_trans aj ea.size,rfl⟩
      ·have fa:j=l.length:=qO
       rw[fa,List.take_length] at ac;refine Aw (AZ (AZ (Ap (AQ (AC (AR (qV (Ax rfl rfl (A8 qO)) (qM _ rfl (AB (AC ?_))))))))));exact ⟨ll.length - (i+1),qO,i+1,bv,cf,n2,Jt (ll.take (i+1)).flatten,Am.out ⟨rfl,rfl,rfl,rfl,rfl,trivial⟩,E,qO,rfl,(by rw[Kd,JC hx,List.length_append];omega),(by rw[TF hx,←b9];exact ac),aj,rfl⟩
    ·have fh:i=ll.length:=qO
     rw[fh,List.take_length] at b9;have dp:=Kd ll.flatten;rw[←b9] at dp;obtain ⟨d0,d7⟩:n≤lc∧lc≤9223372036854775807:=TQ ah;obtain ⟨g,rfl,hgb,hgc⟩:=DZ ah qO;have hgl:=ah.lt g rfl;obtain ⟨q,hq⟩:∃q,q=Lib.compact (rs.mergeSort Tq):=⟨_,rfl⟩;obtain ⟨e3,d3⟩:q.Pairwise (· < ·)∧∀x,x∈q↔x∈Jt ll.flatten:=by rw[hq,←b9];exact K9 rs
     obtain ⟨p,hP,br⟩:=UQ be e3 d3;subst hn;refine Aw (AZ (AZ (Ap (AC (AA (qM _ rfl (qE rfl (AI func65 kQ kQ rfl) (U1 _ base g lc rs ah qO) ?_)))))));rintro _ w31 ⟨rfl,fq,dw⟩;replace E:=E.step dw (fun x hx hm=>absurd (ah.lt g rfl).1 qO);refine AB (AA (qM _ rfl (qE rfl (AI func66 kQ kQ rfl) (Vp _ g lc rs.length (rs.mergeSort Tq) q fq (by simp;omega) qP hq) ?_)));rintro _ fg ⟨rfl,fd,eb⟩;replace E:=E.step eb (fun x hx hm=>absurd (ah.lt g rfl).1 qO);refine qA _ rfl (AB (AA (qA _ rfl (AB (AA (HQ Dl Ei qD ?_))))));intro bm wm Nm;have Fm:=Nm.ge E;replace E:=E.ext Nm.ext;intro Mm;refine qA _ rfl (AB (AG (AA (qM _ rfl (qV (Aa underlying46 rfl) (qM _ rfl (AB (AU ?_))))))));obtain ⟨n1,ex⟩:∃n,n=wm.heap.size:=⟨_,rfl⟩;have ew:BY (fun b=>b=g) wm 1 (.slice (some ⟨g,0,none⟩) q.length lc) (q.map GJ):=BY.mk (fd.ext Nm.ext) rfl;have e2:bm<n1:=by have:=Mm.lt;omega
     have fp:g<bm:=by have:=eb.size;have:=dw.size;have:=Nm.eq;omega
     have b3:w0.heap.size≤n1:=by have:=E.size;omega
     have d9:∀x∈p,x≤1114111:=fun x hx=>(EP hP be hx).2;have hpl:p.length≤1114112:=VJ hP.1 (fun x hx=>EP hP be hx);have hql:=Q4 br;have fr:∀x∈q,0≤x∧x≤1114112:=fun x hx=>by rcases Kc.1 ((d3 x).1 hx) with h1|⟨s,hs,h1⟩;omega;have:=be s hs;unfold EZ at this;omega
     refine Av (fun nn_ σ W9=>∃(i2:Nat) (ks:List (List Bool)) (aa:List (List Sp)) (vs:List Value) (oa:Option Addr) (oc:Nat) (on:Nat),(∃jj_,σ=Bj jj_ [(0,(.slice a ll.length c)),(7,(.slice (some ⟨g,0,none⟩) q.length lc)),(13,(.map (some bm))),(63,(.slice (some ⟨g,0,none⟩) q.length lc)),(64,(I6 (q.length:Int))),(65,(I6 (i2:Int))),(12,(.slice oa on oc))])∧Chg Ak w0 W9∧BS W9 bm Dl Ei (D5 ks 0)∧(GInv ll p i2 ks aa)∧(i2≤p.length)∧(CSt W9 n1 (.slice oa on oc) vs aa)∧(on=aa.length)∧(BY (fun b=>b=g) W9 1 (.slice (some ⟨g,0,none⟩) q.length lc) (q.map GJ))∧(n1≤W9.heap.size)∧nn_=p.length - i2) (n:=p.length - 0) ?_ ?_
     ·exact ⟨0,[],[],[],none,0,0,Am.out ⟨rfl,rfl,rfl,rfl,rfl,rfl,rfl,trivial⟩,E,Mm,GInv.start hP be,Nat.zero_le _,CSt.start _ _,rfl,ew,qO,rfl⟩
     ·clear E Mm;rintro _ _ W9 ⟨i2,ks,aa,vs,oa,oc,on,⟨j9,rfl⟩,E,Mm,hG,hi2,hC,ax,hI,cw,rfl⟩;refine AA (qV (BE rfl rfl) (AB (AG (qC rfl (fun dg=>?_) (fun dg=>?_)))))
      ·obtain ⟨c1,c4⟩:=AX (l:=q) (i:=i2) qO;obtain ⟨qb,qo,b5,fn⟩:=DE (l:=q) hI.at qO;simp only[Option.some.injEq,Addr.mk.injEq,and_true] at b5;obtain ⟨rfl,rfl⟩:=b5;refine AO (AC (AG (AU (AA (qM _ rfl (qV (AN (b:=g) (o:=0) (len:=q.length) (cap:=lc) (i:=i2) (o':=0+i2) rfl rfl rfl underlying46 Ay qO qO) (qV (AL rfl Al (fn i2 c1 c4)) (qA _ rfl (qA _ rfl (AB (AG (AA (qM _ rfl (qV (D0 rfl rfl) (AB (qC rfl (fun ch=>?_) (fun ch=>?_)))))))))))))))))
       ·have cq:i2=p.length:=by have:=(UT br c4 d9).2 ch;omega
        have a1:=hG;rw[cq] at a1;have c6:=hC.join;have cb:=hG.cnt;have co:=hG.len;refine Aw (AZ (Rz qD (AZ (AZ (Ap (AC (AG (AA (qM _ rfl (qV (Aa underlying34 rfl) (qM _ rfl (AB (AU (Av (fun nn_ σ cn=>∃(k3:Nat) (cs:List (List Sp)) (us:List Value),(∃jj_,σ=Bj jj_ [(12,(.slice oa on oc)),(133,(I6 (on:Int))),(134,(I6 (k3:Int)))])∧Chg Ak w0 cn∧(k3≤aa.length)∧(JSt cn n1 (.slice oa on oc) us aa cs k3)∧(∀c∈cs,c.length≤16)∧(n1≤cn.heap.size)∧nn_=aa.length - k3) (n:=aa.length - 0) ?_ ?_))))))))))))))
        ·exact ⟨0,[],vs,Am.out ⟨rfl,rfl,rfl,trivial⟩,E,Nat.zero_le _,c6,qP,cw,rfl⟩
        ·clear E;rintro _ _ cn ⟨k3,cs,us,⟨j12,rfl⟩,E,ep,hJ,b1,ef,rfl⟩;refine AA (qV (BE rfl rfl) (AB (AG (qC rfl (fun bd=>?_) (fun bd=>?_)))))
         ·obtain ⟨o1,ag⟩:=AX (l:=aa) (i:=k3) qO;obtain ⟨u1,bn⟩:=AX (l:=us) (i:=k3) (by have:=hJ.len;omega);obtain ⟨⟨ua,uc,rfl⟩,da⟩:=hJ.rst k3 u1 o1 (Nat.le_refl _) bn ag;have au:=hJ.o;rw[←ax] at au;obtain ⟨gg,rfl,ee,c8⟩:=DZ au qO;have a0:=au.lt gg rfl;have du:=(a1.ok k3 o1 ag);refine AO (AC (AG (AU (AA (qM _ rfl (qA _ rfl (AB (AA (qM _ rfl (qM _ rfl (qM _ rfl (qM _ rfl (qV (AN (b:=gg) (o:=0) (len:=on) (cap:=oc) (i:=k3) (o':=0+k3) rfl rfl rfl underlying34 CM qO qO) (qV (AL (v:=(.slice ua o1.length uc)) rfl Cb ((by have h1:=(au.cells (g:=gg) rfl) k3 _ bn;rwa [Addr.add_lit] at h1))) (qE rfl (AI func68 kQ kQ rfl) (Tz _ _ o1 da.at qO du.1) ?_)))))))))))))));rintro _ ej ⟨⟨j1,bw,⟨⟨ja,jc,rfl⟩,c5⟩⟩,a2⟩;replace E:=E.ext a2;obtain ⟨bz,al,dz⟩:=J3 (BG au a2);refine qV (AN (b:=gg) (o:=0) (len:=on) (cap:=oc) (i:=k3) (o':=0+k3) rfl rfl rfl underlying34 CM qO qO) ?_;have ap:=al;have ay:True:=trivial;refine Bb (b:=gg) (o:=0+k3) (c':=bz.setIfInBounds (0+k3) (.slice ja j1.length jc)) (v:=(.slice ja j1.length jc)) rfl rfl rfl CM al qO (rfl) ?_;intro w14 di;replace ay:=di;replace E:=di.step E qQ;replace al:=di.blk;refine AB (AA (qM _ rfl (qM _ rfl (qV (AN (b:=gg) (o:=0) (len:=on) (cap:=oc) (i:=k3) (o':=0+k3) rfl rfl rfl underlying34 CM qO qO) (qV (AL rfl Cb (al.cell (by rw[Array.getElem?_setIfInBounds_self_of_lt qO]))) ?_)))));refine qV (Aa underlying22 rfl) (qV (D0 rfl rfl) (AB (qC rfl (fun dn=>?_) (fun dn=>?_))))
          ·refine AA (qA _ rfl (qA _ rfl (AB (AJ (Ac (AP (AP (Ac (AP (Bf results26 (v:=(.slice none 0 0)) (v':=(.int .i64 2)) rfl rfl ?_))))))))));obtain ⟨cF,cp,dr⟩:=MZ a1 hP ag bw qO;exact ⟨⟨[],2,.inr ⟨bg,cF,cp,.inl ⟨dr,rfl,rfl⟩⟩,none,0,rfl,FB _ _⟩,E⟩
          ·refine AO (AQ (AC (AR (qV (Ax rfl rfl (A8 qO)) (qM _ rfl (AB (AC ?_)))))));exact ⟨aa.length - (k3+1),qO,k3+1,cs++[j1],us.set k3 (.slice ja j1.length jc),Am.out ⟨rfl,rfl,rfl,trivial⟩,E,qO,(by have hS:=JSt.step (hJ.ext a2) ax ag (⟨⟨_,_,rfl⟩,c5⟩:LK _ _ _ j1) a0.2 bw ap (by simpa using ay);exact hS),(fun c hc=>by rcases List.mem_append.1 hc with h1|h1;exact b1 c h1;rw[List.mem_singleton] at h1;subst h1;omega),(by have:=a2.size;have:=ay.chg.size;omega),rfl⟩
         ·have ai:k3=aa.length:=qO
          have ao:=a1.done hP (by rw[hJ.cl,ai]) hJ.jn;have aq:=(hJ.doneN ai).mono (S':=fun b=>w0.heap.size≤b) (fun b hb=>Nat.le_trans b3 hb);have ar:cs.length=on:=by rw[hJ.cl,ai,ax]
          refine Aw (AZ (AZ (Ap (AC (AG (AA (qM _ rfl (qV (Aa underlying34 rfl) (qV (D0 rfl rfl) (AB (qC rfl (fun a9=>?_) (fun a9=>?_))))))))))))
          ·refine AA (qA _ rfl (qA _ rfl (AB (AJ (AP (Bf results26 (v:=(.slice none 0 0)) (v':=(.int .i64 2)) rfl rfl ?_))))));exact ⟨⟨[],2,.inr ⟨bg,cs,ao,.inl ⟨.inr qO,rfl,rfl⟩⟩,none,0,rfl,FB _ _⟩,E⟩
          ·refine AO (AC (AA (qM _ rfl (qA _ rfl (qA _ rfl (AB (AJ (Bf results26 (v:=(.slice oa on oc)) (v':=(.int .i64 0)) rfl rfl ?_))))))));rw[←ar] at aq;exact ⟨⟨cs,0,.inr ⟨bg,cs,ao,.inr ⟨fun df=>by rcases df with ⟨c,h1,h2⟩|h2;have:=b1 c h1;omega;omega,rfl,rfl⟩⟩,oa,oc,by rw[ar],aq⟩,E⟩
       ·have E6:Chg Ak W9 W9:=Chg.refl _ _;obtain ⟨z0,e4⟩:∃z0,z0=(W9).heap.size:=⟨_,rfl⟩;have b4:∀(i:Nat) v b,vs[i]?=some v→v.ownBlock=some b→b<z0:=fun i v b hv hb=>by obtain ⟨l,hl⟩:=hC.some hv;have:=((hC.inn i v l hv hl).lt b hb).2;omega
        have d2:=(UT br c4 d9).1 qO;have hlp:=AM d2;refine AO (AC (AA (qM _ rfl (qV (BJ (ps:=[(0,(I6 c1)),(1,(I6 1114111))]) (v:=(.agg #[(I6 c1),(I6 1114111)])) rfl qK) (As (v:=(.agg #[(I6 c1),(I6 1114111)])) (c:=#[(I6 c1),(I6 1114111)]) (n:=2) qD Ed rfl BU rfl rfl rfl qS ?_)))));intro bx wx Nx;have Fx:=Nx.ge E;have Fx_E6:=Nx.ge E6;have Ox_bm:=Nx.ltM Mm;replace Mm:=Nx.keepM Mm;replace E:=E.ext Nx.ext;have Bx:=Nx.blk;replace E6:=E6.ext Nx.ext;refine AB (JV (fun σ cg=>∃(hi:Int),(∃jj_,σ=Bj jj_ [(0,(.slice a ll.length c)),(7,(.slice (some ⟨g,0,none⟩) q.length lc)),(12,(.slice oa on oc)),(13,(.map (some bm))),(15,(I6 c1)),(16,(P6 bx 0)),(63,(.slice (some ⟨g,0,none⟩) q.length lc)),(64,(I6 (q.length:Int))),(65,(I6 (i2:Int)))])∧Chg Ak w0 cg∧Chg Ak W9 cg∧BS cg bm Dl Ei (D5 ks 0)∧BH cg bx (#[Value.int .i64 c1,Value.int .i64 hi]) 80∧(hi=nx p (i2+1) - 1)) ?_ ?_)
        ·skip
         refine AA (qM _ rfl (qV (Ax rfl rfl (A8 qO)) (qM _ rfl (qV (Aa underlying46 rfl) (qV (BE rfl rfl) (AB (qC rfl (fun fm=>?_) (fun fm=>?_))))))))
         ·obtain ⟨d1,dt⟩:=AX (l:=q) (i:=i2+1) qO;have hdn:=UR br qO dt;have hdb:=fr d1 (List.mem_of_getElem? dt);refine AR (qM _ rfl (qM _ rfl (qV (Ax rfl rfl (A8 qO)) (qV (AN (b:=g) (o:=0) (len:=q.length) (cap:=lc) (i:=i2+1) (o':=0+(i2+1)) rfl rfl qO underlying46 Ay qO qO) (qV (AL rfl Al (((hI.chg E6 fun _ _ f=>f).at |> fun hh=>by obtain ⟨qb,qo,dx,ff⟩:=DE (l:=q) hh qO;simp only[Option.some.injEq,Addr.mk.injEq,and_true] at dx;obtain ⟨rfl,rfl⟩:=dx;exact ff (i2+1) d1 dt))) (qV (DI (k:=.i64) (a:=d1) (b:=1) (c:=d1 - 1) rfl rfl (A8 qO)) (qF bx 0 1 rfl underlying80 rfl Ay rfl (Bb (b:=bx) (o:=1) (c':=#[(I6 c1),(I6 (d1 - 1))]) (v:=(I6 (d1 - 1))) rfl rfl rfl Ay Bx qP rfl ?_))))))));intro w19 ck;replace Mm:=ck.keepM qO Mm;replace E:=ck.step E qQ;replace E6:=ck.step E6 (Or.inl qO);replace Bx:=ck.blk;refine AB (AC ?_);exact ⟨d1 - 1,Am.out ⟨rfl,rfl,rfl,rfl,rfl,rfl,rfl,rfl,rfl,trivial⟩,E,E6,Mm,Bx,qO⟩
         ·refine AO (AC ?_);exact ⟨1114111,Am.out ⟨rfl,rfl,rfl,rfl,rfl,rfl,rfl,rfl,rfl,trivial⟩,E,E6,Mm,Bx,(by rw[US br qO];rfl)⟩
        ·clear E E6 Mm Bx;rintro _ cg ⟨hi,⟨j17,rfl⟩,E,E6,Mm,Bx,fe⟩;refine AA (qM _ rfl (qV (Aa underlying34 rfl) (Wb (n:=ll.length) (z:=(.int .u8 0)) (bytes:=1) qD underlying105 U6 YJ X' rfl rfl rfl qO qO ?_)));intro bk wk Nk;have Fk:=Nk.ge E;have Fk_E6:=Nk.ge E6;have Ok_bm:=Nk.ltM Mm;have Ok_bx:=Nk.lt Bx;replace Mm:=Nk.keepM Mm;replace Bx:=Nk.keep Bx;replace E:=E.ext Nk.ext;have Bk:=Nk.blk;replace E6:=E6.ext Nk.ext;refine qA _ rfl (AB (AG (AA (qM _ rfl (qV (Aa underlying34 rfl) (qM _ rfl (AB (AU ?_))))))));rw[show (List.replicate ll.length (Value.int .u8 0))=(DU ll c1 0).map (Value.int .u8) from by rw[OP,List.map_replicate]] at Bk;refine Av (fun nn_ σ bj=>∃(e1:Nat),(∃jj_,σ=Bj jj_ [(0,(.slice a ll.length c)),(7,(.slice (some ⟨g,0,none⟩) q.length lc)),(12,(.slice oa on oc)),(13,(.map (some bm))),(15,(I6 c1)),(16,(P6 bx 0)),(17,(.slice (some ⟨bk,0,none⟩) ll.length ll.length)),(63,(.slice (some ⟨g,0,none⟩) q.length lc)),(64,(I6 (q.length:Int))),(65,(I6 (i2:Int))),(89,(.slice a ll.length c)),(90,(I6 (ll.length:Int))),(91,(I6 (e1:Int)))])∧Chg Ak w0 bj∧Chg Ak W9 bj∧BS bj bm Dl Ei (D5 ks 0)∧BH bj bx #[(I6 c1),(I6 hi)] 80∧BH bj bk (((DU ll c1 e1).map (Value.int .u8)).toArray) 5∧(e1≤ll.length)∧nn_=ll.length - e1) (n:=ll.length - 0) ?_ ?_
         ·exact ⟨0,Am.out ⟨rfl,rfl,rfl,rfl,rfl,rfl,rfl,rfl,rfl,rfl,rfl,rfl,rfl,trivial⟩,E,E6,Mm,Bx,Bk,Nat.zero_le _,rfl⟩
         ·clear E E6 Mm Bx Bk;rintro _ _ bj ⟨e1,⟨j20,rfl⟩,E,E6,Mm,Bx,Bk,es,rfl⟩;refine AA (qV (BE rfl rfl) (AB (AG (qC rfl (fun db=>?_) (fun db=>?_)))))
          ·obtain ⟨l6,dd⟩:=AX (l:=ll) (i:=e1) qO;obtain ⟨b,o,rfl,b7⟩:=EN h qO;obtain ⟨ra,rc,af,aq⟩:=b7 e1 l6 dd;refine AO (AC (AG (AU (AA (qM _ rfl (qV (AN (b:=b) (o:=o) (len:=ll.length) (cap:=c) (i:=e1) (o':=o+e1) rfl rfl rfl underlying34 CM qO qO) (qV (AL rfl Cb (E.cell (fun f=>f) af)) (qA _ rfl (qA _ rfl (AB (AA (qM _ rfl (qM _ rfl (qE rfl (AI func67 kQ kQ rfl) (Vf _ _ l6 c1 (aq.ext E)) ?_))))))))))))));rintro _ w51 ⟨rfl,ca⟩;replace Mm:=ca.keepM Mm;replace Bx:=ca.keep Bx;replace Bk:=ca.keep Bk;replace E:=E.ext ca;replace E6:=E6.ext ca;refine AB (A_ rfl (fun bo=>?_) (fun bo=>?_))
           ·have dv:=bo;have hml:=Pp (c:=c1) es;refine AR (qM _ rfl (qM _ rfl (qV (AN (b:=bk) (o:=0) (len:=ll.length) (cap:=ll.length) (i:=e1) (o':=0+e1) rfl rfl rfl underlying105 U6 qO qO) (Bb (b:=bk) (o:=0+e1) (c':=((DU ll c1 (e1+1)).map (Value.int .u8)).toArray) (v:=(.int .u8 1)) rfl rfl rfl U6 Bk (by simp;omega) (by rw[OQ dd,bo];simp[NM,List.map_set]) ?_))));intro w23 bp;replace Mm:=bp.keepM qO Mm;replace Bx:=bp.keep qO Bx;replace E:=bp.step E qQ;replace E6:=bp.step E6 (Or.inl qO);replace Bk:=bp.blk;refine AB (AQ (AC (AR (qV (Ax rfl rfl (A8 qO)) (qM _ rfl (AB (AC ?_)))))));exact ⟨ll.length - (e1+1),qO,e1+1,Am.out ⟨rfl,rfl,rfl,rfl,rfl,rfl,rfl,rfl,rfl,rfl,rfl,rfl,rfl,trivial⟩,E,E6,Mm,Bx,Bk,qO,rfl⟩
           ·have dv:=bo;have cz:DU ll c1 (e1+1)=DU ll c1 e1:=OR dd bo;rw[←cz] at Bk;refine AO (AQ (AC (AR (qV (Ax rfl rfl (A8 qO)) (qM _ rfl (AB (AC ?_)))))));exact ⟨ll.length - (e1+1),qO,e1+1,Am.out ⟨rfl,rfl,rfl,rfl,rfl,rfl,rfl,rfl,rfl,rfl,rfl,rfl,rfl,trivial⟩,E,E6,Mm,Bx,Bk,qO,rfl⟩
          ·have ek:e1=ll.length:=qO
           rw[ek,Pq] at Bk;refine Aw (AZ (AZ (Ap (AC (AA (qM _ rfl (qM _ rfl (qV (Kf underlying105 underlying5 underlying9 rfl Bk (by simp[A'])) (Bn (v:=(.tuple #[(I6 ((CT (D5 ks 0) (Gp (A' ll c1))).getD 0)),(.bool ((CT (D5 ks 0) (Gp (A' ll c1))).isSome))])) rfl rfl qD (Lw (k:=(Gp (A' ll c1))) (z:=0) underlying104 (G_ underlying9) Iw Mm rfl rfl) (qM _ rfl (qV (A2 rfl rfl) (qV (A2 rfl rfl) (qA _ rfl (qA _ rfl (AB ?_)))))))))))))));have az:=hC.ext E6;have bi:=hI.chg E6 fun _ _ f=>f;have a7:=Nat.le_trans cw E6.size;have cb:=hG.cnt;have bs:on=ks.length:=by rw[ax,hG.len]
           refine JV (fun σ a3=>∃(kk:Nat) (bl:List (List Bool)) (ad:List (List Sp)) (b6:List Value) (ds:Option Addr) (am ak:Nat),(∃jj_,σ=Bj jj_ [(0,(.slice a ll.length c)),(7,(.slice (some ⟨g,0,none⟩) q.length lc)),(13,(.map (some bm))),(16,(P6 bx 0)),(63,(.slice (some ⟨g,0,none⟩) q.length lc)),(64,(I6 (q.length:Int))),(65,(I6 (i2:Int))),(12,(.slice ds ak am)),(20,(I6 (kk:Int)))])∧Chg Ak w0 a3∧BS a3 bm Dl Ei (D5 bl 0)∧BH a3 bx #[(I6 c1),(I6 hi)] 80∧BH a3 bk ((((A' ll c1).map NM).map (Value.int .u8)).toArray) 5∧(bl=Hi ks (A' ll c1))∧(ad.length=bl.length)∧(∀(j:Nat) q,ad[j]?=some q→aa[j]?=some q∨(j=ks.length∧q=[]∧A' ll c1∉ks))∧(bl[kk]?=some (A' ll c1))∧(CSt a3 n1 (.slice ds ak am) b6 ad)∧(ak=ad.length)∧(BY (fun b=>b=g) a3 1 (.slice (some ⟨g,0,none⟩) q.length lc) (q.map GJ))∧(n1≤a3.heap.size)∧(∀(i:Nat) v b,b6[i]?=some v→v.ownBlock=some b→b<z0)) ?_ ?_
           ·skip
            refine AA (qM _ rfl (qV (Dg rfl) (AB (A_ rfl (fun ae=>?_) (fun ae=>?_)))))
            ·have b0:=ae;replace ae:=by simpa using ae
             have er:CT (D5 ks 0) (Gp (A' ll c1))=none:=by simpa using ae
             obtain ⟨cc,de⟩:=Pv er;refine AA (qM _ rfl (qV (Aa underlying34 rfl) (qA _ rfl (AB (AA (qM _ rfl (qM _ rfl (qV (Kf underlying105 underlying5 underlying9 rfl Bk (by simp[A'])) (qM _ rfl (FW (k:=(Gp (A' ll c1))) (v:=(on:Int)) underlying104 (G_ underlying9) Mm rfl rfl rfl ?_))))))))));intro w26 bh fc;replace a7:=Nat.le_trans a7 bh.chg.size;replace az:=az.chg bh.chg fun b h1 _ h2=>absurd h2 qO;replace bi:=bi.chg bh.chg fun b h1 h2=>by subst h1;omega
             replace Bx:=bh.keep qO Bx;replace Bk:=bh.keep qO Bk;replace E:=bh.step E qQ;replace Mm:=fc;refine AB (AR (qM _ rfl (A3 (ps:=[(0,(.slice none 0 0))]) (c:=#[(.slice none 0 0)]) qD rfl underlying34 CM QM qD qD qK ?_)));intro b27 w27 an;have F27:=an.ge E;have O27_bm:=an.ltM Mm;have O27_bx:=an.lt Bx;have O27_bk:=an.lt Bk;replace Mm:=an.keepM Mm;replace Bx:=an.keep Bx;replace Bk:=an.keep Bk;replace az:=az.ext an.ext;replace bi:=bi.chg an.ext fun _ _ f=>f;replace a7:=Nat.le_trans a7 an.ext.size;replace E:=E.ext an.ext;have eo:=an.blk;refine CQ (base:=n1) (n:=on) (m:=1) (xs:=vs) (news:=[(.slice none 0 0)]) (size:=1) (bytes:=24) (v:=(.slice oa on oc)) qD underlying34 CM WJ QM rfl qD rfl (az.on ax) rfl (rfl) (eo.cells rfl) qS (by unfold maxLen;omega) qO (a7) ?_;intro v7 w59 d8 a8 eu;replace Mm:=a8.keepM (fun h=>by have:=(az.o.lt _ h).1;omega) Mm;replace Bx:=a8.keep (fun h=>by have:=(hC.o.lt _ h).2;omega) Bx;replace Bk:=a8.keep (fun h=>by have:=(hC.o.lt _ h).2;omega) Bk;replace E:=E.step a8 (fun x hx h=>absurd ((az.on ax).lt x h).1 qO);obtain ⟨en,em,rfl⟩:=Be d8;rw[bs,de] at Mm;refine qA _ rfl (AB (AC ?_));exact ⟨on,ks++[A' ll c1],aa++[[]],vs++[.slice none 0 0],en,em,on+1,Am.out ⟨rfl,rfl,rfl,rfl,rfl,rfl,rfl,rfl,rfl,trivial⟩,E,Mm,Bx,Bk,(by unfold Hi;rw[if_neg cc]),(by simp;omega),Si hG.len cc,(by rw[bs];simp),az.push (by rw[←ax];exact d8) a8 eu,(by simp;omega),bi.chg a8 fun b h1 h2=>by subst h1;have:=(az.o.lt _ h2).1;omega,Nat.le_trans a7 a8.size,Sj b4⟩
            ·have b0:=ae;replace ae:=by simpa using ae
             have ey:(CT (D5 ks 0) (Gp (A' ll c1))).isSome=true:=by simpa using ae
             obtain ⟨v9,ec⟩:=Option.isSome_iff_exists.1 ey;obtain ⟨j9,rfl,d4⟩:=Rt ec;rw[show (CT (D5 ks 0) (Gp (A' ll c1))).getD 0=((j9:Nat):Int) from by rw[ec];rfl];refine AO (AC ?_);exact ⟨j9,ks,aa,vs,oa,oc,on,Am.out ⟨rfl,rfl,rfl,rfl,rfl,rfl,rfl,rfl,rfl,trivial⟩,E,Mm,Bx,Bk,(by unfold Hi;rw[if_pos (List.mem_of_getElem? d4)]),qO,(fun j q h=>.inl h),d4,az,ax,bi,a7,b4⟩
           ·clear E Mm Bx Bk;rintro _ a3 ⟨kk,bl,ad,b6,ds,am,ak,⟨j24,rfl⟩,E,Mm,Bx,Bk,dk,c0,bu,ba,a5,bb,fi,e8,d6⟩;obtain ⟨o1,ag⟩:=AX (l:=ad) (i:=kk) (by have:=AM ba;omega);obtain ⟨v1,bc⟩:=AX (l:=b6) (i:=kk) (by have:=a5.len;have:=AM ba;omega);obtain ⟨va,vc,rfl⟩:=Be (a5.inn kk v1 o1 bc ag);have hko:=AM ag;have e6:o1.length≤i2:=by rcases bu kk o1 ag with h1|⟨_,h1,_⟩;exact (hG.ok kk o1 h1).2;subst h1;exact Nat.zero_le _
            obtain ⟨gg,rfl,ee,c8⟩:=DZ (a5.on bb) qO;have a0:=a5.o.lt gg rfl;have a4:=a5.inn kk _ o1 bc ag;obtain ⟨h0,fk⟩:∃h0,h0=(a3).heap.size:=⟨_,rfl⟩;obtain ⟨cr,ab⟩:∃Fs:List (FactT ((fun y=>(Value.slice va o1.length vc).ownBlock=some y))),Fs=[.eq (.slice (some ⟨gg,0,none⟩) ak am),.eq (I6 (kk:Int)),.eq (.slice (some ⟨gg,0,none⟩) ak am),.eq (I6 (kk:Int)),.eq (.pointer (some ⟨gg,0+kk,none⟩)),.eq (.slice va o1.length vc),.eq (.agg #[(I6 c1),(I6 hi)]),.till (Rk NW #[.int .i64 c1,.int .i64 hi] 0) (Ko _ _ _),.own (SI n1 NW 2 (o1.length+1) ((o1.map BK).flatten++[Value.int .i64 c1,Value.int .i64 hi]) (.slice va o1.length vc) h0) (LE _ _ _ _ _ _ _)]:=⟨_,rfl⟩;refine NP ((fun y=>(Value.slice va o1.length vc).ownBlock=some y)) 9 8 [121,122,123,124,125,126,127,128,129] [[],[],[],[],[2,3],[4],[],[6],[5,7]] cr ab rfl mixed qK qK qK ?_ ?_
            ·intro wd X0;refine DagStepsT.cons (fun s' w' X U H=>?_) ?_
             ·exact Ba (Ai (U 12 rfl)) (Chg.refl _ _) rfl
             refine DagStepsT.cons (fun s' w' X U H=>?_) ?_
             ·exact Ba (Ai (U 20 rfl)) (Chg.refl _ _) rfl
             refine DagStepsT.cons (fun s' w' X U H=>?_) ?_
             ·exact Ba (Ai (U 12 rfl)) (Chg.refl _ _) rfl
             refine DagStepsT.cons (fun s' w' X U H=>?_) ?_
             ·exact Ba (Ai (U 20 rfl)) (Chg.refl _ _) rfl
             refine DagStepsT.cons (fun s' w' X U H=>?_) ?_
             ·have dj:s' 123=(.slice (some ⟨gg,0,none⟩) ak am):=H 2 rfl 123 (.eq (.slice (some ⟨gg,0,none⟩) ak am)) rfl (by rw[ab];rfl);have cv:s' 124=(.int .i64 ((kk:Nat):Int)):=H 3 rfl 124 (.eq (.int .i64 ((kk:Nat):Int))) rfl (by rw[ab];rfl);exact Ba (AN (i:=kk) dj cv rfl underlying34 CM qO qO) (Chg.refl _ _) rfl
             refine DagStepsT.cons (fun s' w' X U H=>?_) ?_
             ·have dl:s' 125=(.pointer (some ⟨gg,0+kk,none⟩)):=H 4 rfl 125 (.eq (.pointer (some ⟨gg,0+kk,none⟩))) rfl (by rw[ab];rfl);exact Ba (AL dl Cb (by have h1:=c8 kk _ bc;exact (Ae.cell X (X0.cell h1)))) (Chg.refl _ _) rfl
             refine DagStepsT.cons (fun s' w' X U H=>?_) ?_
             ·exact Ba (AK (U 16 rfl) Ew BU rfl ((Chg.keep X (fun h=>by have:=d6 kk _ _ bc h;omega) (X0.keep Bx)).cells rfl)) (Chg.refl _ _) rfl
             refine DagStepsT.cons (fun s' w' X U H=>?_) ?_
             ·have c9:s' 127=(.agg #[(.int .i64 c1),(.int .i64 hi)]):=H 6 rfl 127 (.eq (.agg #[(.int .i64 c1),(.int .i64 hi)])) rfl (by rw[ab];rfl);exact SN underlying22 BU Ed c9 qD qD qK (Nat.zero_le _)
             refine DagStepsT.cons (fun s' w' X U H=>?_) ?_
             ·have cy:s' 126=(.slice va o1.length vc):=H 5 rfl 126 (.eq (.slice va o1.length vc)) rfl (by rw[ab];rfl);obtain ⟨e9,dm,cx,_⟩:=(show (.till (Rk NW #[.int .i64 c1,.int .i64 hi] 0) (Ko _ _ _):FactT ((fun y=>(Value.slice va o1.length vc).ownBlock=some y))).In (s' 128) w' from FactT.at_false (H 7 rfl 128 (.till (Rk NW #[.int .i64 c1,.int .i64 hi] 0) (Ko _ _ _)) rfl (by rw[ab];rfl)));exact NV underlying22 BU O' Ed rfl qD cy (BG (BG a4 X0) X) dm rfl (cx.cells rfl) qS (by unfold maxLen;omega) qO (by have:=X0.size;have:=X.size;omega) (fun y h=>h) (by have:=X0.size;have:=X.size;omega)
             exact DagStepsT.nil
            ·intro s' fj eg X0 cm U H;have dc:s' 121=(.slice (some ⟨gg,0,none⟩) ak am):=H 0 121 (.eq (.slice (some ⟨gg,0,none⟩) ak am)) rfl (by rw[ab];rfl);have cu:s' 122=(.int .i64 ((kk:Nat):Int)):=H 1 122 (.eq (.int .i64 ((kk:Nat):Int))) rfl (by rw[ab];rfl);obtain ⟨⟨av,aw,a6⟩,cd,ce⟩:=(show (.own (SI n1 NW 2 (o1.length+1) ((o1.map BK).flatten++[Value.int .i64 c1,Value.int .i64 hi]) (.slice va o1.length vc) h0) (LE _ _ _ _ _ _ _):FactT ((fun y=>(Value.slice va o1.length vc).ownBlock=some y))).In (s' 129) eg from H 8 129 (.own (SI n1 NW 2 (o1.length+1) ((o1.map BK).flatten++[Value.int .i64 c1,Value.int .i64 hi]) (.slice va o1.length vc) h0) (LE _ _ _ _ _ _ _)) rfl (by rw[ab];rfl));obtain ⟨j28,rfl⟩:=Am.out (σ:=s') (l:=[(0,(.slice a ll.length c)),(7,(.slice (some ⟨g,0,none⟩) q.length lc)),(12,(.slice (some ⟨gg,0,none⟩) ak am)),(13,(.map (some bm))),(63,(.slice (some ⟨g,0,none⟩) q.length lc)),(64,(.int .i64 ((q.length:Nat):Int))),(65,(.int .i64 ((i2:Nat):Int))),(121,(.slice (some ⟨gg,0,none⟩) ak am)),(122,(.int .i64 ((kk:Nat):Int))),(129,(.slice av (o1.length+1) aw))]) ⟨U 0 rfl,U 7 rfl,U 12 rfl,U 13 rfl,U 63 rfl,U 64 rfl,U 65 rfl,dc,cu,a6,trivial⟩;clear U H;replace Mm:=Chg.keepM cm (fun h=>by have:=(a4.lt _ h).1;omega) (X0.keepM Mm);replace Bx:=Chg.keep cm (fun h=>by have:=d6 kk _ _ bc h;omega) (X0.keep Bx);have ci:=Chg.trans (Ae.chg X0) cm;replace E:=(E.ext X0).step cm (fun y hy h=>by have:=(a4.lt _ h).1;omega);obtain ⟨bz,al,dz⟩:=J3 (Co (a5.on bb) ci (fun b hb hm=>a5.apo kk _ _ bc hm hb));have ct:=fi.chg ci fun b h1 h2=>by subst h1;have:=(a4.lt _ h2).1;omega
             have dh:=Nat.le_trans e8 ci.size;refine qV (AN (b:=gg) (o:=0) (len:=ak) (cap:=am) (i:=kk) (o':=0+kk) rfl rfl rfl underlying34 CM qO qO) ?_;have ap:=al;have ay:True:=trivial;refine Bb (b:=gg) (o:=0+kk) (c':=bz.setIfInBounds (0+kk) (.slice av (o1.length+1) aw)) (v:=(.slice av (o1.length+1) aw)) rfl rfl rfl CM al qO (rfl) ?_;intro ez bf;replace ct:=ct.chg bf.chg fun b h1 h2=>by subst h1;omega
             replace dh:=Nat.le_trans dh bf.chg.size;replace ay:=bf;replace Mm:=bf.keepM qO Mm;replace E:=bf.step E qQ;replace al:=bf.blk;have ei:=a5.grow bb bc ag (x:=(c1,hi)) (v':=.slice av (o1.length+1) aw) (by rw[a6] at cd;simpa[BK] using cd) ci (by rw[a6,fk] at ce;exact ce) ap (by simpa using ay);refine AB (AQ (AC (AR (qV (Ax rfl rfl (A8 qO)) (qM _ rfl (AB (AC ?_)))))));exact ⟨p.length - (i2+1),qO,i2+1,bl,ad.set kk (o1++[(c1,hi)]),b6.set kk (.slice av (o1.length+1) aw),some ⟨gg,0,none⟩,am,ak,Am.out ⟨rfl,rfl,rfl,rfl,rfl,rfl,rfl,trivial⟩,E,Mm,(by rw[fe];exact hG.step hP be d2 dk c0 bu ba ag),qO,ei,(by simp;omega),ct,dh,rfl⟩
      ·have cq:i2=p.length:=qO
       have a1:=hG;rw[cq] at a1;have c6:=hC.join;have cb:=hG.cnt;have co:=hG.len;refine Aw (AZ (AZ (Ap (AC (AG (AA (qM _ rfl (qV (Aa underlying34 rfl) (qM _ rfl (AB (AU (Av (fun nn_ σ cj=>∃(k3:Nat) (cs:List (List Sp)) (us:List Value),(∃jj_,σ=Bj jj_ [(12,(.slice oa on oc)),(133,(I6 (on:Int))),(134,(I6 (k3:Int)))])∧Chg Ak w0 cj∧(k3≤aa.length)∧(JSt cj n1 (.slice oa on oc) us aa cs k3)∧(∀c∈cs,c.length≤16)∧(n1≤cj.heap.size)∧nn_=aa.length - k3) (n:=aa.length - 0) ?_ ?_))))))))))))
       ·exact ⟨0,[],vs,Am.out ⟨rfl,rfl,rfl,trivial⟩,E,Nat.zero_le _,c6,qP,cw,rfl⟩
       ·clear E;rintro _ _ cj ⟨k3,cs,us,⟨j30,rfl⟩,E,ep,hJ,b1,ef,rfl⟩;refine AA (qV (BE rfl rfl) (AB (AG (qC rfl (fun bd=>?_) (fun bd=>?_)))))
        ·obtain ⟨o1,ag⟩:=AX (l:=aa) (i:=k3) qO;obtain ⟨u1,bn⟩:=AX (l:=us) (i:=k3) (by have:=hJ.len;omega);obtain ⟨⟨ua,uc,rfl⟩,da⟩:=hJ.rst k3 u1 o1 (Nat.le_refl _) bn ag;have au:=hJ.o;rw[←ax] at au;obtain ⟨gg,rfl,ee,c8⟩:=DZ au qO;have a0:=au.lt gg rfl;have du:=(a1.ok k3 o1 ag);refine AO (AC (AG (AU (AA (qM _ rfl (qA _ rfl (AB (AA (qM _ rfl (qM _ rfl (qM _ rfl (qM _ rfl (qV (AN (b:=gg) (o:=0) (len:=on) (cap:=oc) (i:=k3) (o':=0+k3) rfl rfl rfl underlying34 CM qO qO) (qV (AL (v:=(.slice ua o1.length uc)) rfl Cb ((by have h1:=(au.cells (g:=gg) rfl) k3 _ bn;rwa [Addr.add_lit] at h1))) (qE rfl (AI func68 kQ kQ rfl) (Tz _ _ o1 da.at qO du.1) ?_)))))))))))))));rintro _ ej ⟨⟨j1,bw,⟨⟨ja,jc,rfl⟩,c5⟩⟩,a2⟩;replace E:=E.ext a2;obtain ⟨bz,al,dz⟩:=J3 (BG au a2);refine qV (AN (b:=gg) (o:=0) (len:=on) (cap:=oc) (i:=k3) (o':=0+k3) rfl rfl rfl underlying34 CM qO qO) ?_;have ap:=al;have ay:True:=trivial;refine Bb (b:=gg) (o:=0+k3) (c':=bz.setIfInBounds (0+k3) (.slice ja j1.length jc)) (v:=(.slice ja j1.length jc)) rfl rfl rfl CM al qO (rfl) ?_;intro fg c3;replace ay:=c3;replace E:=c3.step E qQ;replace al:=c3.blk;refine AB (AA (qM _ rfl (qM _ rfl (qV (AN (b:=gg) (o:=0) (len:=on) (cap:=oc) (i:=k3) (o':=0+k3) rfl rfl rfl underlying34 CM qO qO) (qV (AL rfl Cb (al.cell (by rw[Array.getElem?_setIfInBounds_self_of_lt qO]))) ?_)))));refine qV (Aa underlying22 rfl) (qV (D0 rfl rfl) (AB (qC rfl (fun dn=>?_) (fun dn=>?_))))
         ·refine AA (qA _ rfl (qA _ rfl (AB (AJ (Ac (AP (AP (Ac (AP (Bf results26 (v:=(.slice none 0 0)) (v':=(.int .i64 2)) rfl rfl ?_))))))))));obtain ⟨cF,cp,dr⟩:=MZ a1 hP ag bw qO;exact ⟨⟨[],2,.inr ⟨bg,cF,cp,.inl ⟨dr,rfl,rfl⟩⟩,none,0,rfl,FB _ _⟩,E⟩
         ·refine AO (AQ (AC (AR (qV (Ax rfl rfl (A8 qO)) (qM _ rfl (AB (AC ?_)))))));exact ⟨aa.length - (k3+1),qO,k3+1,cs++[j1],us.set k3 (.slice ja j1.length jc),Am.out ⟨rfl,rfl,rfl,trivial⟩,E,qO,(by have hS:=JSt.step (hJ.ext a2) ax ag (⟨⟨_,_,rfl⟩,c5⟩:LK _ _ _ j1) a0.2 bw ap (by simpa using ay);exact hS),(fun c hc=>by rcases List.mem_append.1 hc with h1|h1;exact b1 c h1;rw[List.mem_singleton] at h1;subst h1;omega),(by have:=a2.size;have:=ay.chg.size;omega),rfl⟩
        ·have ai:k3=aa.length:=qO
         have ao:=a1.done hP (by rw[hJ.cl,ai]) hJ.jn;have aq:=(hJ.doneN ai).mono (S':=fun b=>w0.heap.size≤b) (fun b hb=>Nat.le_trans b3 hb);have ar:cs.length=on:=by rw[hJ.cl,ai,ax]
         refine Aw (AZ (AZ (Ap (AC (AG (AA (qM _ rfl (qV (Aa underlying34 rfl) (qV (D0 rfl rfl) (AB (qC rfl (fun a9=>?_) (fun a9=>?_))))))))))))
         ·refine AA (qA _ rfl (qA _ rfl (AB (AJ (AP (Bf results26 (v:=(.slice none 0 0)) (v':=(.int .i64 2)) rfl rfl ?_))))));exact ⟨⟨[],2,.inr ⟨bg,cs,ao,.inl ⟨.inr qO,rfl,rfl⟩⟩,none,0,rfl,FB _ _⟩,E⟩
         ·refine AO (AC (AA (qM _ rfl (qA _ rfl (qA _ rfl (AB (AJ (Bf results26 (v:=(.slice oa on oc)) (v':=(.int .i64 0)) rfl rfl ?_))))))));rw[←ar] at aq;exact ⟨⟨cs,0,.inr ⟨bg,cs,ao,.inr ⟨fun df=>by rcases df with ⟨c,h1,h2⟩|h2;have:=b1 c h1;omega;omega,rfl,rfl⟩⟩,oa,oc,by rw[ar],aq⟩,E⟩
end Go.Proofs
namespace Go.Proofs
open Go Go.Eng Go.Sort
set_option maxRecDepth 100000
theorem Xt (a:World) (v:Value) (l:List Sp) (r:Int) (b:Nat) (h:BD a v l) (c:BH a b #[.int .i64 r] 3):Bi prog 119 #[v,.pointer (some ⟨b,0,none⟩)] a λu w=>u=.bool (Cu l r)∧Ae a w:=by
 refine qR func119 O ntmps119 O (λE=>(AA (qA _ O (AB (AA (qM v O (qV (AL O Al (c.cell O)) (qE O (AI func67 kQ kQ O) (Vf _ v l r h) ?_))))))));rintro _ w9 ⟨rfl,d⟩;replace c:=d.keep c;replace E:=E.ext d;refine qA _ O (AB (AJ (AV results119 (v:=(.bool (Cu l r))) O ?_)));exact ⟨O,E⟩
theorem KN (j:World) (v fv:Value) (ll:List (List Sp)) (p:List Sp->Bool) (h:Dm j v ll) (B:∀(w:World) (u:Value) (l:List Sp),Ae j w->BD w u l->l∈ll->Bh prog fv #[u] w λr w'=>r=.bool (p l)∧Ae w w') :
 Bi prog 112 #[v,fv] j λr w=>r=.int .i64 (IA p ll)∧Ae j w:=by
 obtain ⟨a,c,rfl,_,hle⟩:=h.form;refine qR func112 O ntmps112 O (λE=>(AA (qA _ O (AB (AG (AA (qM _ O (qV (Aa underlying34 O) (qM _ O (AB (AU (Av (λnn_ σ A=>∃(k:Nat),(∃jj_,σ=Bj jj_ [(0,(.slice a ll.length c)),(1,fv),(7,(I6 (ll.length:Int))),(8,(I6 (k:Int)))])∧Chg Ak j A∧(k<=ll.length)∧(∀(i:Nat) (y:List Sp),i<k->ll[i]?=some y->p y=false)∧nn_=ll.length - k) (n:=ll.length - 0) ?_ ?_))))))))))))
 .exact ⟨0,Am.out ⟨O,O,O,O,trivial⟩,E,Nat.zero_le _,(λi y h=>absurd h (Nat.not_lt_zero _)),O⟩
 .clear E;rintro _ _ A ⟨k,⟨j1,rfl⟩,E,hk,d,rfl⟩;refine AA (qV (BE O O) (AB (AG (qC O (λq=>?_) (λq=>?_)))))
  .obtain ⟨l,m⟩:=AX (l:=ll) (i:=k) qO;obtain ⟨b,o,rfl,x⟩:=EN h qO;obtain ⟨ra,rc,e,t⟩:=x k l m;refine AO (AC (AG (AU (AA (qM _ O (qA _ O (AB (AA (qM _ O (qM _ O (qM _ O (qV (AN (b:=b) (o:=o) (len:=ll.length) (cap:=c) (i:=k) (o':=o+k) O O O underlying34 CM qO qO) (qV (AL O Cb (E.cell (λf=>f) e)) (DN qD O O (B _ _ l E (t.ext E) (List.mem_of_getElem? m)) ?_))))))))))))));rintro _ w9 ⟨rfl,C⟩;replace E:=E.ext C;refine AB (A_ O (λg=>?_) (λg=>?_))
   .have s:=g;refine AA (qM _ O (qA _ O (AB (AJ (Ac (AP (AP (Ac (AP (AV results112 (v:=(.int .i64 ((k:Nat):Int))) O ?_))))))))));exact ⟨Bc (HZ m g d).symm,E⟩
   .have s:=g;refine AO (AQ (AC (AR (qV (Ax O O (A8 qO)) (qM _ O (AB (AC ?_)))))));exact ⟨ll.length - (k+1),qO,k+1,Am.out ⟨O,O,O,O,trivial⟩,E,qO,FP m g d,O⟩
  .have hkk:k=ll.length:=qO
   refine Aw (AZ (AZ (Ap (AC (AA (qA _ O (AB (AJ (AV results112 (v:=(.int .i64 (-1))) O ?_)))))))));exact ⟨Bc (HA λi y z=>d i y (by have:=AM z;omega) z).symm,E⟩
theorem PW (a:World) (v fv:Value) (ll:List (List Sp)) (p:List Sp->Bool) (h:Dm a v ll) (b:∀(w:World) (u:Value) (l:List Sp),Ae a w->BD w u l->Bh prog fv #[u] w λr w'=>r=.bool (p l)∧Ae w w') :
 Bi prog 112 #[v,fv] a λr w=>r=.int .i64 (IA p ll)∧Ae a w:=
 KN a v fv ll p h λw u l e c _=>b w u l e c
def Ch (ll:List (List Sp)) (r:Int):Int:=IA (λl=>Cu l r) ll
theorem SD {cs:List (List Sp)} {r:Int} (h:Px cs) (m:0<=r) (n:r<=1114111):∃(k:Nat) (c:List Sp),Ch cs r=((k:Nat):Int)∧cs[k]?=some c∧Cu c r=true:=by
 have j:0<cs.countP (λl=>Cu l r):=by rw[h r m n];decide
 have g:∀(cs:List (List Sp)),0<cs.countP (λl=>Cu l r)->∃(k:Nat) (c:List Sp),cs[k]?=some c∧Cu c r=true∧∀i y,i<k->cs[i]?=some y->Cu y r=false:=by
  intro cs
  induction cs with
  | nil=>intro h;cases h
  | cons a cs ih=>
   intro h;cases ha:Cu a r with
   | true=>exact ⟨0,a,O,ha,λi y hi=>absurd hi (Nat.not_lt_zero _)⟩
   | false=>
    rw[List.countP_cons,ha] at h;obtain ⟨k,c,d,b,f⟩:=ih (by simpa using h);refine ⟨k+1,c,d,b,λi y hi e=>?_⟩;cases i with
    | zero=>simp at e;subst e;exact ha
    | succ i=>exact f i y qO (by simpa using e)
 obtain ⟨k,c,d,b,f⟩:=g cs j;exact ⟨k,c,HZ d b f,d,b⟩
theorem YK (b:World) (v:Value) (ll:List (List Sp)) (r:Int) (h:Dm b v ll):Bi prog 91 #[v,.int .i64 r] b λu w=>u=.int .i64 (Ch ll r)∧Ae b w:=by
 refine qR func91 O ntmps91 O (λE=>(AA (BL (v:=(I6 r)) (c:=#[(I6 r)]) qD O O ?_)));intro d wq e;replace E:=E.ext e.ext;have a:=e.blk;refine qA _ O (AB (AA (qM v O (qV (Dx O O) (qE O (AI func112 kQ kQ O) (PW _ v _ ll (λl=>Cu l r) (h.ext E) (λw u l i g=>Bh.mk (first:=#[]) (cap:=#[.pointer (some ⟨d,0,none⟩)]) func119 kQ kQ O (Xt w u l r d g (i.keep a)))) ?_)))));rintro _ w9 ⟨rfl,f⟩;replace a:=f.keep a;replace E:=E.ext f;refine qA _ O (AB (AJ (AV results91 (v:=(.int .i64 (Ch ll r))) O ?_)));exact ⟨O,E⟩
noncomputable def idxE (ll:List (List Sp)) (r:Int):Int:=if partE ll≠0 then partE ll else if CA r then 0 else 1
noncomputable def leastP (ll:List (List Sp)):List Int:=if partE ll=0 then Ww ll else []
noncomputable def wordE (ll:List (List Sp)) (t:List Int):Int:=if partE ll≠0 then partE ll else if t.any (λr=>!CA r) then 1 else 0
noncomputable def wordL (ll:List (List Sp)) (t:List Int):List Int:=if wordE ll t=0 then t.map (Ch ll) else []
end Go.Proofs
namespace Go.Proofs
open Go Go.Eng Go.Sort
set_option maxRecDepth 100000
def LT (S:Nat->Prop) (x:Re) (e:Int):G2:=λv w=>∃sa sc aa ac,v=.tuple #[.agg #[.int .i64 x.kind,.slice sa x.set.length sc,.slice aa x.args.length ac,.int .i64 x.mn,.int .i64 x.mx,.bool x.neg],.int .i64 e]∧AS S w x [.int .i64 x.kind,.slice sa x.set.length sc,.slice aa x.args.length ac,.int .i64 x.mn,.int .i64 x.mx,.bool x.neg]
theorem Fh (S:Nat->Prop) (x:Re) (e:Int):EI (LT S x e):=by
 rintro v w w' e ⟨sa,sc,aa,ac,a,b⟩;exact ⟨sa,sc,aa,ac,a,AS.ext e x b⟩
theorem Mo {S:Nat->Prop} {x:Re} {c:Int} {v:Value} {w:World} {n:Nat} (e:w.heap.size=n) (h:LT S x c v w):LT (λy=>S y∧y≠n) x c v w:=by
 obtain ⟨sa,sc,aa,ac,a,d⟩:=h;exact ⟨sa,sc,aa,ac,a,AS.mono (λy b=>⟨b.1,qO⟩) x (AS.lt x d)⟩
theorem Uq {S S':Nat->Prop} {x:Re} {e:Int} {v:Value} {w:World} (c:∀b,S' b->S b) (h:∃us:List Value,v=.tuple #[.agg us.toArray,.int .i64 e]∧AS S' w x us):LT S x e v w:=by
 obtain ⟨us,rfl,h⟩:=h;have a:=AS.mono c x h;obtain ⟨sa,sc,aa,ac,rfl,_⟩:=a.form;exact ⟨sa,sc,aa,ac,O,a⟩
end Go.Proofs
namespace Go.Proofs
open Go Go.Eng Go.Sort
set_option maxRecDepth 100000
section
variable {S : Nat → Prop} {cs : List (List Sp)} {w w' : World} {f : Re} {fv : List Value} {vc : Value} {mb mb' b n0 m0 most : Nat} {L L' : List Cel} {a : LzA Re} {t : Re}
theorem Hn.ge (h:Hn most a t L mb n0 L' mb') (d:m0<=mb) (e:∀y∈L,m0<=y.nb) (h3:m0<=n0):m0<=mb'∧∀y∈L',m0<=y.nb:=by
 rcases h with ⟨_,rfl,rfl⟩|⟨_,c,_,_,hc,⟨_,rfl,h5⟩|⟨_,rfl,rfl⟩⟩
 .exact ⟨d,e⟩
 .exact ⟨qO,λy b=>by rw[List.mem_singleton.1 b];omega⟩
 .refine ⟨d,λy b=>?_⟩;rcases List.mem_append.1 b with b|b
  .exact e y b
  .rw[List.mem_singleton.1 b];omega
theorem Hn.find {x:Cel} {D:Re->Int->Re} (h:Hn most a t L mb n0 L' mb') (k:HeldAt S D w mb' L') (hnd:(L.map (·.t)).Nodup) (j:x∈L) (m:Au x.t) (r:RepA L' (holdA most a t)) (hd:a.dom x.t) :
 ((CT (L'.map EW) (EC x.t)).getD none=none∧¬(holdA most a t).dom x.t)∨((CT (L'.map EW) (EC x.t)).getD none=some x.sb∧x∈L'):=by
 have b:x∈L'->(CT (L'.map EW) (EC x.t)).getD none=some x.sb:=λf=>by
  rcases k.get m with ⟨y,d,e,l⟩|⟨hn,_⟩
  .rw[l,k.inj d f e];rfl
  .exact absurd O (hn x f)
 rcases h with ⟨_,rfl,_⟩|⟨g,c,n,_,_,⟨_,rfl,_⟩|⟨_,rfl,_⟩⟩
 .exact .inr ⟨b j,j⟩
 .have i:∀y∈[c],y.t≠x.t:=λy d e=>by
   rw[List.mem_singleton.1 d,n] at e;exact g (e▸hd)
  refine .inl ⟨?_,λh=>?_⟩
  .rcases k.get m with ⟨y,d,e,_⟩|⟨_,l⟩
   .exact absurd e (i y d)
   .rw[l];rfl
  .obtain ⟨y,d,e⟩:=(r.dom _).1 h;exact i y d e
 .exact .inr ⟨b (List.mem_append_left _ j),List.mem_append_left _ j⟩
theorem Pu {a:LzA Re} {t:Re} {c:Int}:(knowA a t c).drops=a.drops:=by
 by_cases h:a.dom t
 .rw[Ez h]
 .rw[FK h]
theorem LzF.hold (h:LzF S cs w f fv vc mb L) (d:HeldAt (λy=>S y∨w.heap.size<=y) (Gr cs) w' mb' L') (c:Chg (λq=>q=b∨q=mb) w w') (hb:¬S b) (j:∀y,w.heap.size<=y->S y):LzF S cs w' f fv vc mb' L':=by
 have a:∀q,S q->Gg w q->¬(q=b∨q=mb):=λq g hn e=>by
  rcases e with rfl|rfl
  .exact hb g
  .exact h.hd.map.no hn
 exact ⟨AS.chgM c a h.hf,h.sp.chgM c a,d.mono λy i=>i.elim id (j y)⟩
end
theorem Xn {α:Type} {l:List α} {k:Nat} {x:α} (h:l[k]?=some x):l.drop k=x::l.drop (k+1):=by
 rw[List.drop_eq_getElem_cons (AM h)];congr 1;exact (List.getElem?_eq_some_iff.1 h).2
theorem Ws (S:Nat->Prop) (cs:List (List Sp)) (w0:World) (b mb most m0:Nat) (f:Re) (W Z ca:Option Addr) (R T cc:Nat) (L:List Cel) (a:LzA Re) (v:Value) (text:List Int)
 (hB:BH w0 b #[.int .i64 f.kind,.slice W f.set.length R,.slice Z f.args.length T,.int .i64 f.mn,.int .i64 f.mx,.bool f.neg,.int .i64 ((most:Nat):Int),.slice ca cs.length cc,.map (some mb),.int .i64 a.made,.int .i64 a.drops] Jx)
 (hF:LzF S cs w0 f [.int .i64 f.kind,.slice W f.set.length R,.slice Z f.args.length T,.int .i64 f.mn,.int .i64 f.mx,.bool f.neg] (.slice ca cs.length cc) mb L)
 (hR:RepA L a) (hb:¬S b) (c7:Au f) (dv:f.size<=300) (hO:a.Ok (Gr cs) most) (hm:1<=most∧most<=100)
 (cv:m0<=b∧m0<=mb) (ee:∀y∈L,m0<=y.nb) (hm0:m0<=w0.heap.size) (hP:Dj w0) (hg:1<m0)
 (hx:BY (λy=>y<m0) w0 1 v (text.map GJ)) (hl:text.length<=1000)
 (fy:∀r∈text,0<=Ch cs r∧Ch cs r<cs.length) (ex:∀l∈cs,l≠[]∧CA (Bl l)=true) (c4:0<cs.length) :
 Bi prog 52 #[.pointer (some ⟨b,0,none⟩),v] w0 λr w=>
  ((r=.tuple #[.bool (Cq (H4 (Gr cs) f (text.map (Ch cs)))),.int .i64 0]∧∃mb' L' a',a'=matchA (Gr cs) most a f (text.map (Ch cs))∧
   BH w b #[.int .i64 f.kind,.slice W f.set.length R,.slice Z f.args.length T,.int .i64 f.mn,.int .i64 f.mx,.bool f.neg,.int .i64 ((most:Nat):Int),.slice ca cs.length cc,.map (some mb'),.int .i64 a'.made,.int .i64 a'.drops] Jx∧
   LzF (λy=>S y∧y<w0.heap.size∨w0.heap.size<=y) cs w f [.int .i64 f.kind,.slice W f.set.length R,.slice Z f.args.length T,.int .i64 f.mn,.int .i64 f.mx,.bool f.neg] (.slice ca cs.length cc) mb' L'∧RepA L' a')∨
   (r=.tuple #[.bool false,.int .i64 2]∧∃u,u.length<=text.length∧u=(text.map (Ch cs)).take u.length∧300<(H4 (Gr cs) f u).size))∧Chg (λq=>m0<=q) w0 w:=by
 obtain ⟨xa,xc,rfl⟩:∃xa xc,v=.slice xa text.length xc:=by
  obtain ⟨xa,xc,h,_⟩:=hx;exact ⟨xa,xc,by rw[h,List.length_map]⟩
 obtain ⟨cb,co,rfl,_⟩:=EN hF.sp.at c4;have bp:=hF.lt;have gd:=hB.lt;refine EY func52 O ntmps52 (Qo O) ?_;have E:Chg (λq=>m0<=q) w0 w0:=Chg.refl _ _;refine AA (qA _ O (qA _ O (AB ?_)));have hz_1:w0.heap.size<=w0.heap.size:=E.size;have lz_1_b:b<w0.heap.size:=hB.lt;refine AG ?_;obtain ⟨e0,P⟩:∃Fs:List CJ,Fs=[(eF (P6 b 0)),(eF (P6 b 0)),(eF (P6 b 0)),(eF (.agg (R6 f W R Z T))),(eF (P6 b 0)),(eF (P6 b 0)),(eF (P6 b 0)),(eF (.agg (R6 f W R Z T))),(eF (.string (EC f))),(λ_ _=>RD 25 #[(I6 0),(.slice none 0 0),(.slice none 0 0),(I6 0),(I6 0),(.bool false)] w0.heap.size),(eF undef),(eF undef)]:=⟨_,O⟩;refine EH (NT []) [true,true,true,true,true,true,true,true,true,true,false,false] [10,11] [17,18,19,20,21,22,23,24,25,6,128,129] [[],[0],[1],[2],[],[4],[5],[6],[7],[],[],[]] [[],[0],[1,0],[2,1,0],[],[4],[5,4],[6,5,4],[7,6,5,4],[],[],[]] e0 P qK mixed qK qK qK qK ?_ ?_
 .intro wd G;refine qZ (λS m w' hi hN X U V H=>?_) ?_
  .replace X:=CK X;exact AT (Ai (U 0 O)) O
  refine qZ (λS m w' hi hN X U V H=>?_) ?_
  .replace X:=CK X;have f9:=(H 0 O).2 17 _ O (by rw[P];rfl);exact AT (Ag f9) O
  refine qZ (λS m w' hi hN X U V H=>?_) ?_
  .replace X:=CK X;have es:=(H 1 O).2 18 _ O (by rw[P];rfl);exact AT (AY es underlying65 O AH O) O
  refine qZ (λS m w' hi hN X U V H=>?_) ?_
  .replace X:=CK X;have gf:=(H 2 O).2 19 _ O (by rw[P];rfl);exact AT (AK gf Ad AH O (((G.trans X).keep hB).cells O)) O
  refine qZ (λS m w' hi hN X U V H=>?_) ?_
  .replace X:=CK X;exact AT (Ai (U 0 O)) O
  refine qZ (λS m w' hi hN X U V H=>?_) ?_
  .replace X:=CK X;have ft:=(H 4 O).2 21 _ O (by rw[P];rfl);exact AT (Ag ft) O
  refine qZ (λS m w' hi hN X U V H=>?_) ?_
  .replace X:=CK X;have fq:=(H 5 O).2 22 _ O (by rw[P];rfl);exact AT (AY fq underlying65 O AH O) O
  refine qZ (λS m w' hi hN X U V H=>?_) ?_
  .replace X:=CK X;have fa:=(H 6 O).2 23 _ O (by rw[P];rfl);exact AT (AK fa Ad AH O (((G.trans X).keep hB).cells O)) O
  refine qZ (λS m w' hi hN X U V H=>?_) ?_
  .replace X:=CK X;have et:=(H 7 O).2 24 _ O (by rw[P];rfl);exact Cr (AI func89 kQ kQ (G9 et)) ((Tj 301 qO f _ _ qO c7 (hP.ext (G.trans X)) (AS.at f (AS.ext (Ae.trans G X) f bp.hf))).mono (λv w h=>h))
  refine DagStepsS.cons (Em.chg (U:=Ak) (λv w w' x h=>Fb _ _ _ v w w' x h) (λp y hp hw h=>by
   exact h.elim)) (HJ.const) (λS m w' hi hN X U V H=>Or.inl ⟨AD O,?_⟩) ?_
  .replace X:=CK X;exact PM (c:=#[(I6 0),(.slice none 0 0),(.slice none 0 0),(I6 0),(I6 0),(.bool false)]) A9 O (by have:=G.size;have:=X.size;omega)
  refine DagStepsS.tail (DagStepsS.tail ?_);exact DagStepsS.nil
 .intro m wd1 w1 G X1 U H;replace X1:=X1.mono (M':=Ak) (λy _ h=>by
   obtain ⟨j,hj,h⟩:=h;exact h.elim)
  have ey:=H 3 O 20 _ O (by rw[P];rfl);have f7:=H 8 O 25 _ O (by rw[P];rfl);obtain ⟨J,e6,F,g6⟩:=(show ((λ_ _=>RD 25 #[(.int .i64 0),(.slice none 0 0),(.slice none 0 0),(.int .i64 0),(.int .i64 0),(.bool false)] w0.heap.size):CJ) (PH [true,true,true,true,true,true,true,true,true,true,false,false]) m (m 6) w1 from H 9 O 6 (λ_ _=>RD 25 #[(.int .i64 0),(.slice none 0 0),(.slice none 0 0),(.int .i64 0),(.int .i64 0),(.bool false)] w0.heap.size) O (by rw[P];rfl));obtain ⟨j1,rfl⟩:=Am.out (σ:=m) (l:=[(0,(.pointer (some ⟨b,0,none⟩))),(1,(.slice xa text.length xc)),(20,(.agg #[(.int .i64 f.kind),(.slice W f.set.length R),(.slice Z f.args.length T),(.int .i64 f.mn),(.int .i64 f.mx),(.bool f.neg)])),(25,(.string (EC f))),(6,(.pointer (some ⟨J,0,none⟩)))]) ⟨U 0 O,U 1 O,ey,f7,e6,trivial⟩;clear U H;replace hB:=(G.trans X1).keep hB;replace bp:=bp.ext (G.trans X1);replace hP:=hP.ext (G.trans X1);replace hx:=hx.chg (G.trans X1) (λ_ _ f=>f);replace X1:=G.trans X1;replace E:=E.ext X1;refine Ab (b:=J) (o:=0) (c':=(R6 f W R Z T)) O O qS AH O F qL O ?_;intro w2 S2;replace bp:=bp.cells S2.chg (λh=>by have:=h.2;have:=E.size;omega) (DJ F);replace hP:=hP.chg S2.chg (λh=>by have Q:1=J:=h;have:=E.size;omega);replace hx:=hx.chg S2.chg (λy hy h=>by have Q:y=J:=h;have:=E.size;omega);replace hB:=S2.keep qO hB;replace E:=S2.step E qQ;replace F:=S2.blk;refine qA _ O (AB (AC (AA (qM _ O (qM _ O (qV (AK (vs:=[(I6 f.kind),(.slice W f.set.length R),(.slice Z f.args.length T),(I6 f.mn),(I6 f.mx),(.bool f.neg)]) O Ad AH O (F.cells O)) ?_))))));obtain ⟨SC,bv⟩:∃SC:Nat->Prop,SC=λy=>(S y∧y<w0.heap.size)∨J<y:=⟨_,O⟩;have hwz:w0.heap.size<=J:=by have:=E.size;omega
  have hbl:b<w0.heap.size∧mb<w0.heap.size:=⟨gd,hF.hd.map.lt⟩;have bg:¬SC b:=by rw[bv];rintro (h|h);exact hb h.1;omega
  have b3:¬SC J:=by rw[bv];rintro (h|h);have:=h.2;omega;omega
  have cx:∀y,J<y->SC y:=by rw[bv];exact λy h=>.inr h
  have c5:=bp.mono (S':=SC) (by rw[bv];exact λ_ h=>.inl h);have hb6:J<(w2).heap.size:=F.lt;refine qE O (AI func90 kQ kQ O) (T6 SC (Gr cs) _ b mb most f _ _ _ _ _ _ _ _ L a hB c5.hd hR bg c5.hf c7 dv hm hO.le) ?_;rintro _ w9 ⟨fv,L1,d5,d,fd,C9⟩;replace F:=C9.keep (λh=>by rcases h with h|h<;>omega) F;replace E:=E.step C9 (λq _ h=>by rcases h with rfl|rfl;exact cv.1;exact cv.2);have d7:=c5.hold fd C9 bg (λy hy=>cx y qO);replace hP:=hP.chg C9 (λh=>by rcases h with h|h<;>omega);replace hx:=hx.chg C9 (λy hy h=>by rcases h with h|h<;>omega);have e2:=d5.ge cv.2 ee (by have:=E.size;have:=C9.size;omega);have fb:=d5.rep hR;have f3:=Hb (t:=f) hm.1 hO;have hgm:1<J∧m0<=J:=qO
  refine AB (AG (AA (qM _ O (qV (Aa underlying46 O) (qM _ O (AB (AU (Av (λnn_ σ W3=>∃(k:Nat) (t:Re) (sa aa:Option Addr) (sc ac:Nat) (af:Nat) (L2:List Cel) (a2:LzA Re),(∃jj_,σ=Bj jj_ [(0,(P6 b 0)),(30,(.slice xa text.length xc)),(31,(I6 (text.length:Int))),(32,(I6 (k:Int))),(7,(.string (EC t))),(6,(P6 J 0))])∧Chg (λq=>m0<=q) w0 W3∧BH W3 J (#[.int .i64 t.kind,.slice sa t.set.length sc,.slice aa t.args.length ac,.int .i64 t.mn,.int .i64 t.mx,.bool t.neg]) 25∧BH W3 b (#[.int .i64 f.kind,.slice W f.set.length R,.slice Z f.args.length T,.int .i64 f.mn,.int .i64 f.mx,.bool f.neg,.int .i64 (most:Int),.slice (some ⟨cb,co,none⟩) cs.length cc,.map (some af),.int .i64 a2.made,.int .i64 a2.drops]) Jx∧(k<=text.length)∧(LzF SC cs W3 f [.int .i64 f.kind,.slice W f.set.length R,.slice Z f.args.length T,.int .i64 f.mn,.int .i64 f.mx,.bool f.neg] (.slice (some ⟨cb,co,none⟩) cs.length cc) af L2)∧(AS SC W3 t [.int .i64 t.kind,.slice sa t.set.length sc,.slice aa t.args.length ac,.int .i64 t.mn,.int .i64 t.mx,.bool t.neg])∧(Au t∧t.size<=300)∧(a2.dom t)∧(RepA L2 a2)∧(a2.Ok (Gr cs) most)∧(m0<=af∧∀y∈L2,m0<=y.nb)∧(Dj W3)∧(BY (λy=>y<m0) W3 1 (.slice xa text.length xc) (text.map GJ))∧(runA (Gr cs) most (holdA most a f) f (text.map (Ch cs))=runA (Gr cs) most a2 t ((text.map (Ch cs)).drop k))∧(t=H4 (Gr cs) f ((text.map (Ch cs)).take k))∧nn_=text.length - k) (n:=text.length - 0) ?_ ?_))))))))
  .exact ⟨0,f,W,Z,R,T,fv,L1,holdA most a f,Am.out ⟨O,O,O,O,O,O,trivial⟩,E,F,d,Nat.zero_le _,d7,d7.hf,⟨c7,dv⟩,GL,fb,f3,e2,hP,hx,(by rw[List.drop_zero]),(by rw[List.take_zero];rfl),O⟩
  .clear E F d;rintro _ _ W3 ⟨k,t,sa,aa,sc,ac,af,L2,a2,⟨j3,rfl⟩,E,F,d,hk,N,hT,hs,fp,ar,ba,bm,C,A,bn,bl,rfl⟩;refine AA (qV (BE O O) (AB (AG (qC O (λga=>?_) (λga=>?_)))))
   .obtain ⟨r,hr⟩:=AX (l:=text) (i:=k) qO;obtain ⟨xb,xo,rfl,fu⟩:=DE (n:=text.length) A.at qO;have hcr:=fy r (List.mem_of_getElem? hr);obtain ⟨cn,dl,d8⟩:∃cn:Nat,Ch cs r=((cn:Nat):Int)∧cn<cs.length:=⟨(Ch cs r).toNat,qO,qO⟩;obtain ⟨cl,ci⟩:=AX (l:=cs) d8;refine AO (AC (AG (AU (AA (qV (AN (b:=xb) (o:=xo) (len:=text.length) (cap:=xc) (i:=k) (o':=xo+k) O O O underlying46 Ay qO qO) (qV (AL O Al (fu k r hr)) (qA _ O (AB (AA (qM _ O (qV (Ag O) (qF b 0 7 O underlying65 O Sl O (qV (AL O K2 (d.cell O)) (qM _ O (qE O (AI func91 kQ kQ O) ((YK _ _ cs r N.sp.at).mono (R':=λu w=>u=.int .i64 (cn:Int)∧Ae _ w) (λu w h=>⟨h.1.trans (by rw[dl]),h.2⟩)) ?_)))))))))))))));rintro _ ae ⟨rfl,ag⟩;replace F:=ag.keep F;replace d:=ag.keep d;replace N:=N.ext ag;replace hT:=AS.ext ag _ hT;replace C:=C.ext ag;replace A:=A.chg ag (λ_ _ f=>f);replace E:=E.ext ag;have ad:=N.hd.map;obtain ⟨x,cd,bq,ej⟩:=(N.hd.get hs.1).resolve_right (λh=>by obtain ⟨y,hy,e⟩:=(ar.dom t).1 fp;exact h.1 y hy e);have bt:=N.hd.cel x cd;obtain ⟨xsa,xsc,xaa,xac,dx,_,_,_⟩:=bt.re.form;have c8:=bt.blk;rw[dx] at c8;obtain ⟨nb,aj⟩:∃nb,nb=x.nb:=⟨_,O⟩;have d6:=bt.nx;rw[<-aj] at c8 d6;obtain ⟨o,ho⟩:∃o,o=CT x.ns ((cn:Nat):Int):=⟨_,O⟩;refine qA _ O (AB (AA (qM _ O (qV (Ag O) (qF b 0 8 O underlying65 O Fv O (qV (AL O Gn (d.cell O)) (qM _ O (Bn (v:=(.pointer (some ⟨x.sb,0,none⟩))) O O qD (Eq.trans (IG (eV:=GI) (k:=(EC t)) (z:=none) underlying63 (G_ underlying9) Mk ad O O) (by rw[ej];rfl)) (qA _ O (AB (AG (AA (qM _ O (qV (Ag O) (qF _ _ _ O underlying120 O Pa O (qV (AL O NH (c8.cell O)) (qM _ O ?_)))))))))))))))));refine Bn (v:=(.tuple #[(.string (o.getD ByteArray.empty)),(.bool o.isSome)])) O O qD (Eq.trans (Lw (k:=(cn:Int)) (z:=ByteArray.empty) underlying118 (Ty underlying3) Xz d6 O O) (by rw[<-ho])) (qM _ O (qV (A2 O O) (qV (A2 O O) (qA _ O (qA _ O (AB (AA (qM _ O (AB ?_)))))))));obtain ⟨D,hD⟩:∃D,D=Gr cs t ((cn:Nat):Int):=⟨_,O⟩;have d0:Au D:=by rw[hD];exact Ds _ hs.1
    have dn:(text.map (Ch cs))[k]?=some ((cn:Nat):Int):=by rw[List.getElem?_map,hr,<-dl];rfl
    have di:=Xn dn;have cy:H4 (Gr cs) f ((text.map (Ch cs)).take (k+1))=D:=by rw[List.take_add_one,dn,Option.toList_some];unfold H4 at bl⊢;rw[List.foldl_append,<-bl,hD];rfl
    refine A_ O (λbr=>?_) (λbr=>?_)
    .have dq:=br;have dg:a2.kn t ((cn:Nat):Int):=(ar.kn t _).2 ⟨x,cd,bq,by rw[<-ho];exact br⟩;obtain ⟨y,dw,fj,eo⟩:=(N.hd.get d0).resolve_right (λh=>by obtain ⟨y,hy,e⟩:=(ar.dom _).1 (ba.kd t _ dg).2;exact h.1 y hy (e.trans hD.symm));obtain ⟨q,rfl⟩:=Option.isSome_iff_exists.1 br;have e4:q=EC D:=by rw[hD,<-bq];exact bt.kv _ (Hk ho.symm)
     have cw:=N.hd.cel y dw;obtain ⟨c1,ck,cz,cu,dy,_,_,_⟩:=cw.re.form;have bf:=cw.blk;rw[dy] at bf
     subst fj;subst e4;have dc:runA (Gr cs) most (holdA most a f) f (text.map (Ch cs))=runA (Gr cs) most a2 y.t ((text.map (Ch cs)).drop (k+1)):=by rw[bn,di,runA,Dv dg,<-hD]
     have hz_6:w0.heap.size<=ae.heap.size:=E.size;have lz_6_b6:J<ae.heap.size:=F.lt;have lz_6_b:b<ae.heap.size:=d.lt;have lz_6_mb2:af<ae.heap.size:=ad.lt;refine AG ?_;obtain ⟨f1,K⟩:∃Fs:List CJ,Fs=[(eF (.string (EC y.t))),(eF (P6 b 0)),(eF (P6 b 0)),(eF (P6 b 8)),(eF (.map (some af))),(eF (.string (EC y.t))),(eF (.pointer (some ⟨y.sb,0,none⟩))),(eF (.pointer (some ⟨y.sb,0,none⟩))),(eF (.pointer (some ⟨y.sb,0,none⟩))),(eF (.agg #[(I6 y.t.kind),(.slice c1 y.t.set.length ck),(.slice cz y.t.args.length cu),(I6 y.t.mn),(I6 y.t.mx),(.bool y.t.neg)])),(eF (.string (EC y.t))),(eF undef)]:=⟨_,O⟩;refine EH (NT []) [true,true,true,true,true,true,true,true,true,true,true,false] [11] [58,59,60,61,62,63,64,65,66,67,7,129] [[],[],[1],[2],[3],[],[4,5],[6],[7],[8],[0],[]] [[],[],[1],[2,1],[3,2,1],[],[4,3,2,1,5],[6,4,3,2,1,5],[7,6,4,3,2,1,5],[8,7,6,4,3,2,1,5],[0],[]] f1 K qK mixed qK qK qK qK ?_ ?_
     .intro wd G;refine qZ (λS m w' hi hN X U V H=>?_) ?_
      .replace X:=CK X;exact AT (Ai (U 12 O)) O
      refine qZ (λS m w' hi hN X U V H=>?_) ?_
      .replace X:=CK X;exact AT (Ai (U 0 O)) O
      refine qZ (λS m w' hi hN X U V H=>?_) ?_
      .replace X:=CK X;have fh:=(H 1 O).2 59 _ O (by rw[K];rfl);exact AT (Ag fh) O
      refine qZ (λS m w' hi hN X U V H=>?_) ?_
      .replace X:=CK X;have fn:=(H 2 O).2 60 _ O (by rw[K];rfl);exact AT (AY fn underlying65 O Fv O) O
      refine qZ (λS m w' hi hN X U V H=>?_) ?_
      .replace X:=CK X;have fr:=(H 3 O).2 61 _ O (by rw[K];rfl);exact AT (AL fr Gn (((G.trans X).keep d).cell O)) O
      refine qZ (λS m w' hi hN X U V H=>?_) ?_
      .replace X:=CK X;exact AT (Ai (U 12 O)) O
      refine qZ (λS m w' hi hN X U V H=>?_) ?_
      .replace X:=CK X;have eh:=(H 4 O).2 62 _ O (by rw[K];rfl);have ef:=(H 5 O).2 63 _ O (by rw[K];rfl);exact AT (Eq.trans (IG (eV:=GI) (k:=EC y.t) (z:=none) underlying63 (G_ underlying9) Mk ((Ae.trans G X).keepM ad) eh ef) (by rw[eo];rfl)) O
      refine qZ (λS m w' hi hN X U V H=>?_) ?_
      .replace X:=CK X;have fo:=(H 6 O).2 64 _ O (by rw[K];rfl);exact AT (Ag fo) O
      refine qZ (λS m w' hi hN X U V H=>?_) ?_
      .replace X:=CK X;have ec:=(H 7 O).2 65 _ O (by rw[K];rfl);exact AT (AY ec underlying120 O AH O) O
      refine qZ (λS m w' hi hN X U V H=>?_) ?_
      .replace X:=CK X;have f8:=(H 8 O).2 66 _ O (by rw[K];rfl);exact AT (AK f8 Ad AH O (((Ae.trans G X).keep bf).cells O)) O
      refine qZ (λS m w' hi hN X U V H=>?_) ?_
      .replace X:=CK X;have ei:=(H 0 O).2 58 _ O (by rw[K];rfl);exact AT (Dq ei) O
      refine DagStepsS.tail ?_;exact DagStepsS.nil
     .intro m wd6 w6 G X6 U H;replace X6:=X6.mono (M':=Ak) (λy _ h=>by
       obtain ⟨j,hj,h⟩:=h;exact h.elim)
      have f0:=H 9 O 67 _ O (by rw[K];rfl);have e7:=H 10 O 7 _ O (by rw[K];rfl);obtain ⟨j6,rfl⟩:=Am.out (σ:=m) (l:=[(0,(.pointer (some ⟨b,0,none⟩))),(6,(.pointer (some ⟨J,0,none⟩))),(30,(.slice (some ⟨xb,xo,none⟩) text.length xc)),(31,(.int .i64 ((text.length:Nat):Int))),(32,(.int .i64 ((k:Nat):Int))),(67,(.agg #[(.int .i64 y.t.kind),(.slice c1 y.t.set.length ck),(.slice cz y.t.args.length cu),(.int .i64 y.t.mn),(.int .i64 y.t.mx),(.bool y.t.neg)])),(7,(.string (EC y.t)))]) ⟨U 0 O,U 6 O,U 30 O,U 31 O,U 32 O,f0,e7,trivial⟩;clear U H;replace F:=(G.trans X6).keep F;replace d:=(G.trans X6).keep d;replace ad:=(G.trans X6).keepM ad;replace N:=N.ext (G.trans X6);replace hT:=AS.ext (G.trans X6) _ hT;replace C:=C.ext (G.trans X6);replace A:=A.chg (G.trans X6) (λ_ _ f=>f);replace X6:=G.trans X6;replace E:=E.ext X6;refine Ab (b:=J) (o:=0) (c':=#[(I6 y.t.kind),(.slice c1 y.t.set.length ck),(.slice cz y.t.args.length cu),(I6 y.t.mn),(I6 y.t.mx),(.bool y.t.neg)]) O O qS AH O F qL O ?_;intro w7 S7;replace N:=N.cells S7.chg b3 (DJ F);replace C:=C.chg S7.chg (λh=>by have Q:1=J:=h;omega);replace A:=A.chg S7.chg (λz hz h=>by have Q:z=J:=h;omega);replace d:=S7.keep qO d;replace E:=S7.step E qQ;replace F:=S7.blk;refine AB (AC (Aw (AZ (Ap (AC (AR (qV (Ax O O (A8 qO)) (qM _ O (AB (AC ?_))))))))));exact ⟨text.length - (k+1),qO,k+1,y.t,c1,cz,ck,cu,af,L2,a2,Am.out ⟨O,O,O,O,O,O,trivial⟩,E,F,d,qO,N,(by have Q:=(N.hd.cel y dw).re;rw[dy] at Q;exact Q),⟨cw.ok,cw.sz⟩,(by rw[hD];exact (ba.kd t _ dg).2),ar,ba,bm,C,A,dc,cy.symm,O⟩
    .have dq:=br;have gb:¬a2.kn t ((cn:Nat):Int):=λh=>by obtain ⟨y,hy,h1,h2⟩:=(ar.kn t _).1 h;have e:=N.hd.inj hy cd (h1.trans bq.symm);subst e;rw[<-ho,br] at h2;cases h2
     obtain ⟨cb',co',ez,e1⟩:=EN N.sp.at c4;cases ez;obtain ⟨ra,rc,du,fc⟩:=e1 cn cl ci;obtain ⟨bz,df⟩:=ex cl (List.mem_of_getElem? ci);have ds:D=A6 (Bl cl) t:=by rw[hD];unfold Gr;rw[List.getD_eq_getElem?_getD,Int.toNat_natCast,ci];rfl
     obtain ⟨rb,ro,rfl,ek⟩:=Bd fc (by cases cl with|nil=>exact absurd rfl bz|cons _ _=>simp);obtain ⟨s0,fe,dt⟩:∃s0,cl[0]?=some s0∧Bl cl=s0.1:=by cases cl with|nil=>exact absurd rfl bz|cons z _=>exact ⟨z,rfl,rfl⟩
     have dk:=(ek 0 s0 fe) 0 _ O;have hcl1:0<cl.length:=by cases cl with|nil=>exact absurd rfl bz|cons _ _=>simp
     obtain ⟨B,dr⟩:∃B,B=Xy t (Bl cl):=⟨_,O⟩;have bf:XH t (Bl cl)=if 300<D.size then 2 else 0:=by unfold XH;rw[if_neg (by rw[So hs.1 hs.2];simp),if_neg (by rw[df];simp),Mu hs.1,<-ds]
     obtain ⟨e9,cr⟩:∃e9,e9=XH t (Bl cl):=⟨_,O⟩;have hbm2:J≠af:=DX F ad;have hml2:=ad.lt;have au:=N.lt;refine AO (AC (JV (λσ W8=>∃(bd:Nat) (ya:Option Addr) (yc:Nat) (za:Option Addr) (zc:Nat),(∃jj_,σ=Bj jj_ [(0,(P6 b 0)),(6,(P6 J 0)),(7,(.string (EC t))),(10,(I6 (cn:Int))),(11,(.pointer (some ⟨x.sb,0,none⟩))),(30,(.slice (some ⟨xb,xo,none⟩) text.length xc)),(31,(I6 (text.length:Int))),(32,(I6 (k:Int))),(14,(P6 bd 0)),(15,(I6 e9))])∧Chg (λq=>m0<=q) w0 W8∧BH W8 J (R6 t sa sc aa ac) 25∧BH W8 b #[(I6 f.kind),(.slice W f.set.length R),(.slice Z f.args.length T),(I6 f.mn),(I6 f.mx),(.bool f.neg),(I6 (most:Int)),(.slice (some ⟨cb,co,none⟩) cs.length cc),(.map (some af)),(I6 a2.made),(I6 a2.drops)] Jx∧(BH W8 bd #[.int .i64 B.kind,.slice ya B.set.length yc,.slice za B.args.length zc,.int .i64 B.mn,.int .i64 B.mx,.bool B.neg] 25)∧(LzF SC cs W8 f [.int .i64 f.kind,.slice W f.set.length R,.slice Z f.args.length T,.int .i64 f.mn,.int .i64 f.mx,.bool f.neg] (.slice (some ⟨cb,co,none⟩) cs.length cc) af L2)∧(AS SC W8 B [.int .i64 B.kind,.slice ya B.set.length yc,.slice za B.args.length zc,.int .i64 B.mn,.int .i64 B.mx,.bool B.neg])∧(Dj W8)∧(BY (λy=>y<m0) W8 1 (.slice (some ⟨xb,xo,none⟩) text.length xc) (text.map GJ))∧(b<bd∧J<bd∧af<bd)) ?_ ?_))
     .skip
      have hz_9:w0.heap.size<=ae.heap.size:=E.size;have lz_9_b6:J<ae.heap.size:=F.lt;have lz_9_b:b<ae.heap.size:=d.lt;obtain ⟨eu,g⟩:∃Fs:(Nat->Prop)->List Fact,Fs=λRR=>[.eq (.agg (R6 t sa sc aa ac)),.eq (P6 b 0),.eq (P6 b 0),.eq (P6 b 7),.eq (.slice (some ⟨cb,co,none⟩) cs.length cc),.eq (I6 (cn:Int)),.eq (.pointer (some ⟨cb,co+cn,none⟩)),.eq (.slice (some ⟨rb,ro,none⟩) cl.length rc),.eq (.pointer (some ⟨rb,ro+0*2,none⟩)),.eq (.pointer (some ⟨rb,ro+0*2,none⟩)),.eq (I6 (Bl cl)),.gen (LT RR B e9) (Fh _ _ _),.gen (LT RR B e9) (Fh _ _ _),.gen (E8 RR B) (BV _ _),.eq (I6 e9),.gen (RD 25 #[(I6 0),(.slice none 0 0),(.slice none 0 0),(I6 0),(I6 0),(.bool false)] ae.heap.size) (Fb _ _ _),.eq undef,.eq undef]:=⟨_,O⟩;refine NQ [true,true,true,true,true,true,true,true,true,true,true,true,true,true,true,true,false,false] [16,17] 14 16 [14,17] [69,70,71,72,73,74,75,76,77,78,79,80,68,81,82,14,134,135] [[],[],[1],[2],[3],[],[4,5],[6],[7],[8],[9],[0,10],[11],[12],[12],[],[],[]] eu g (λy=>J<y) (λy hy=>qO) 15 14 (lo:=ae.heap.size) (Nat.le_refl _) O O (SP.mk' A9 O) (λRR=>⟨_,by rw[g];rfl⟩) (λn=>by rw[g];repeat (first|exact Cvs.nil|refine Cvs.same ?_|refine Cvs.cons (λv w e h=>by first|exact Pg e h|exact Pd e h|exact Mo e h) ?_)) mixed qK qK O qK qK qK ?_ ?_ ?_
      .intro wd G RR hRR1 dp;refine DagStepsP.cons (λm w' X U H=>Or.inl ⟨?_,?_⟩) ?_
       .exact AD O
       .exact AW (AK (U 6 O) Ad AH O (((G.trans X).keep F).cells O)) (Ae.refl _) O
       refine DagStepsP.cons (λm w' X U H=>Or.inl ⟨?_,?_⟩) ?_
       .exact AD O
       .exact AW (Ai (U 0 O)) (Ae.refl _) O
       refine DagStepsP.cons (λm w' X U H=>Or.inl ⟨?_,?_⟩) ?_
       .exact AD O
       .have fw:m 70=(.pointer (some ⟨b,0,none⟩)):=H 1 O 70 (.eq (.pointer (some ⟨b,0,none⟩))) O (by rw[g];rfl);exact AW (Ag fw) (Ae.refl _) O
       refine DagStepsP.cons (λm w' X U H=>Or.inl ⟨?_,?_⟩) ?_
       .exact AD O
       .have gc:m 71=(.pointer (some ⟨b,0,none⟩)):=H 2 O 71 (.eq (.pointer (some ⟨b,0,none⟩))) O (by rw[g];rfl);exact AW (AY gc underlying65 O Sl O) (Ae.refl _) O
       refine DagStepsP.cons (λm w' X U H=>Or.inl ⟨?_,?_⟩) ?_
       .exact AD O
       .have fk:m 72=(.pointer (some ⟨b,7,none⟩)):=H 3 O 72 (.eq (.pointer (some ⟨b,7,none⟩))) O (by rw[g];rfl);exact AW (AL fk K2 (((G.trans X).keep d).cell O)) (Ae.refl _) O
       refine DagStepsP.cons (λm w' X U H=>Or.inl ⟨?_,?_⟩) ?_
       .exact AD O
       .exact AW (Ai (U 10 O)) (Ae.refl _) O
       refine DagStepsP.cons (λm w' X U H=>Or.inl ⟨?_,?_⟩) ?_
       .exact AD O
       .have er:m 73=(.slice (some ⟨cb,co,none⟩) cs.length cc):=H 4 O 73 (.eq (.slice (some ⟨cb,co,none⟩) cs.length cc)) O (by rw[g];rfl);have fi:m 74=(.int .i64 ((cn:Nat):Int)):=H 5 O 74 (.eq (.int .i64 ((cn:Nat):Int))) O (by rw[g];rfl);exact AW (AN (i:=cn) er fi qO underlying34 CM qO qO) (Ae.refl _) O
       refine DagStepsP.cons (λm w' X U H=>Or.inl ⟨?_,?_⟩) ?_
       .exact AD O
       .have f6:m 75=(.pointer (some ⟨cb,co+cn,none⟩)):=H 6 O 75 (.eq (.pointer (some ⟨cb,co+cn,none⟩))) O (by rw[g];rfl);exact AW (AL f6 Cb (Ae.cell (G.trans X) du)) (Ae.refl _) O
       refine DagStepsP.cons (λm w' X U H=>Or.inl ⟨?_,?_⟩) ?_
       .exact AD O
       .have fx:m 76=(.slice (some ⟨rb,ro,none⟩) cl.length rc):=H 7 O 76 (.eq (.slice (some ⟨rb,ro,none⟩) cl.length rc)) O (by rw[g];rfl);exact AW (AN (i:=0) fx O O underlying22 BU qO qO) (Ae.refl _) O
       refine DagStepsP.cons (λm w' X U H=>Or.inl ⟨?_,?_⟩) ?_
       .exact AD O
       .have eg:m 77=(.pointer (some ⟨rb,ro+0*2,none⟩)):=H 8 O 77 (.eq (.pointer (some ⟨rb,ro+0*2,none⟩))) O (by rw[g];rfl);exact AW (AY eg underlying80 O Ay O) (Ae.refl _) O
       refine DagStepsP.cons (λm w' X U H=>Or.inl ⟨?_,?_⟩) ?_
       .exact AD O
       .have f2:m 78=(.pointer (some ⟨rb,ro+0*2,none⟩)):=H 9 O 78 (.eq (.pointer (some ⟨rb,ro+0*2,none⟩))) O (by rw[g];rfl);exact AW (AL f2 Al (Ae.cell (G.trans X) (by rw[dt];exact dk))) (Ae.refl _) O
       refine DagStepsP.cons (λm w' X U H=>Or.inl ⟨?_,?_⟩) ?_
       .exact AD O
       .have fz:m 69=(.agg #[(.int .i64 t.kind),(.slice sa t.set.length sc),(.slice aa t.args.length ac),(.int .i64 t.mn),(.int .i64 t.mx),(.bool t.neg)]):=H 0 O 69 (.eq (.agg #[(.int .i64 t.kind),(.slice sa t.set.length sc),(.slice aa t.args.length ac),(.int .i64 t.mn),(.int .i64 t.mx),(.bool t.neg)])) O (by rw[g];rfl);have fl:m 79=(.int .i64 (Bl cl)):=H 10 O 79 (.eq (.int .i64 (Bl cl))) O (by rw[g];rfl);exact A7 (AI func92 kQ kQ (G8 fz fl)) ((Xo _ (λy=>SC y∧y<ae.heap.size) t _ (Bl cl) (AS.ext (G.trans X) t (AS.lt t hT)) (λy (hy:SC y∧y<ae.heap.size)=>by have:=hy.2;have:=G.size;have:=X.size;omega)).mono (λv w h=>⟨by rw[dr,cr];exact Uq (S':=λb=>w'.heap.size<=b) (λb hb=>dp b (by have:=X.size;omega)) h.1,h.2⟩))
       refine DagStepsP.cons (λm w' X U H=>Or.inl ⟨?_,?_⟩) ?_
       .exact AD O
       .obtain ⟨xa80,xc80,ya80,yc80,e8,ew⟩:=H 11 O 80 (.gen (LT RR B e9) (Fh _ _ _)) O (by rw[g];rfl);exact AW (Ai e8) (Ae.refl _) ⟨_,_,_,_,O,ew⟩
       refine DagStepsP.cons (λm w' X U H=>Or.inl ⟨?_,?_⟩) ?_
       .exact AD O
       .obtain ⟨b5,bu,bx,ch,cf,c6⟩:=H 12 O 68 (.gen (LT RR B e9) (Fh _ _ _)) O (by rw[g];rfl);exact AW (A2 cf O) (Ae.refl _) ⟨_,_,_,_,O,c6⟩
       refine DagStepsP.cons (λm w' X U H=>Or.inl ⟨?_,?_⟩) ?_
       .exact AD O
       .obtain ⟨b5,bu,bx,ch,cf,c6⟩:=H 12 O 68 (.gen (LT RR B e9) (Fh _ _ _)) O (by rw[g];rfl);exact AW (A2 cf O) (Ae.refl _) O
       refine DagStepsP.cons (λm w' X U H=>Or.inl ⟨?_,?_⟩) ?_
       .exact AD O
       .exact H_ (c:=#[(I6 0),(.slice none 0 0),(.slice none 0 0),(I6 0),(I6 0),(.bool false)]) A9 O (by have:=G.size;have:=X.size;omega)
       refine DagStepsP.tail (DagStepsP.tail ?_);exact DagStepsP.nil
      .intro m w9 RR β X9 U bh hβ H;obtain ⟨an,al,ak,ao,db,bi⟩:=H 13 O 81 (.gen (E8 RR B) (BV _ _)) O (by rw[g];rfl);obtain ⟨ab,b1,ax,f4⟩:=H 15 O 14 (.gen (RD 25 #[(.int .i64 0),(.slice none 0 0),(.slice none 0 0),(.int .i64 0),(.int .i64 0),(.bool false)] ae.heap.size) (Fb _ _ _)) O (by rw[g];rfl);have bw:β=ab:=by have Q:=b1.symm.trans hβ;simpa using Q.symm
       rw[bw] at bh;clear hβ bw β;obtain ⟨j9,rfl⟩:=Am.out (σ:=m) (l:=[(0,(.pointer (some ⟨b,0,none⟩))),(6,(.pointer (some ⟨J,0,none⟩))),(7,(.string (EC t))),(10,(.int .i64 ((cn:Nat):Int))),(11,(.pointer (some ⟨x.sb,0,none⟩))),(30,(.slice (some ⟨xb,xo,none⟩) text.length xc)),(31,(.int .i64 ((text.length:Nat):Int))),(32,(.int .i64 ((k:Nat):Int))),(81,(.agg #[(.int .i64 B.kind),(.slice an B.set.length al),(.slice ak B.args.length ao),(.int .i64 B.mn),(.int .i64 B.mx),(.bool B.neg)])),(82,(.int .i64 e9)),(14,(.pointer (some ⟨ab,0,none⟩)))]) ⟨U 0 O,U 6 O,U 7 O,U 10 O,U 11 O,U 30 O,U 31 O,U 32 O,db,(show m 82=(.int .i64 e9) from H 14 O 82 (.eq (.int .i64 e9)) O (by rw[g];rfl)),b1,trivial⟩;clear U H;replace F:=X9.keep F;replace d:=X9.keep d;replace hT:=AS.ext X9 _ hT;replace C:=C.ext X9;replace A:=A.chg X9 (λ_ _ f=>f);replace au:=au.ext X9;replace E:=E.ext X9;refine Ab (b:=ab) (o:=0) (c':=(R6 B an al ak ao)) O O qS AH O ax qL O ?_;intro w10 a9;replace au:=au.cells a9.chg (λh=>by have:=h.2;omega) (DJ ax);replace C:=C.chg a9.chg (λh=>by have Q:1=ab:=h;omega);replace A:=A.chg a9.chg (λz hz h=>by have Q:z=ab:=h;omega);replace bi:=AS.chg a9.chg (λy hy h=>by have h2:y=ab:=h;exact (bh y hy).2 h2) _ bi;replace F:=a9.keep qO F;replace d:=a9.keep qO d;replace E:=a9.step E qQ;replace ax:=a9.blk;refine qA _ O (AB (AC ?_));exact ⟨ab,an,al,ak,ao,Am.out ⟨O,O,O,O,O,O,O,O,O,O,trivial⟩,E,F,d,ax,au.mono (λ_ h=>h.1),AS.mono (λy hy=>cx y (bh y hy).1) _ bi,C,A,qO⟩
      .intro _ m w9 RR β X9 U bh hβ H;obtain ⟨b5,bu,bx,ch,cf,c6⟩:=H 12 O qD 68 (.gen (LT RR B e9) (Fh _ _ _)) O (by rw[g];rfl);obtain ⟨an,al,ak,ao,db,bi⟩:=H 13 O qD 81 (.gen (E8 RR B) (BV _ _)) O (by rw[g];rfl);obtain ⟨ab,b1,ax,f4⟩:=H 15 O qD 14 (.gen (RD 25 #[(.int .i64 0),(.slice none 0 0),(.slice none 0 0),(.int .i64 0),(.int .i64 0),(.bool false)] ae.heap.size) (Fb _ _ _)) O (by rw[g];rfl);have bw:β=ab:=by have Q:=b1.symm.trans hβ;simpa using Q.symm
       rw[bw] at bh;clear hβ bw β;obtain ⟨j9,rfl⟩:=Am.out (σ:=m) (l:=[(0,(.pointer (some ⟨b,0,none⟩))),(6,(.pointer (some ⟨J,0,none⟩))),(7,(.string (EC t))),(10,(.int .i64 ((cn:Nat):Int))),(11,(.pointer (some ⟨x.sb,0,none⟩))),(30,(.slice (some ⟨xb,xo,none⟩) text.length xc)),(31,(.int .i64 ((text.length:Nat):Int))),(32,(.int .i64 ((k:Nat):Int))),(68,(.tuple #[(.agg #[(.int .i64 B.kind),(.slice b5 B.set.length bu),(.slice bx B.args.length ch),(.int .i64 B.mn),(.int .i64 B.mx),(.bool B.neg)]),(.int .i64 e9)])),(81,(.agg #[(.int .i64 B.kind),(.slice an B.set.length al),(.slice ak B.args.length ao),(.int .i64 B.mn),(.int .i64 B.mx),(.bool B.neg)])),(14,(.pointer (some ⟨ab,0,none⟩)))]) ⟨U 0 O,U 6 O,U 7 O,U 10 O,U 11 O,U 30 O,U 31 O,U 32 O,cf,db,b1,trivial⟩;clear U H;replace F:=X9.keep F;replace d:=X9.keep d;replace hT:=AS.ext X9 _ hT;replace C:=C.ext X9;replace A:=A.chg X9 (λ_ _ f=>f);replace au:=au.ext X9;replace E:=E.ext X9;refine Ab (b:=ab) (o:=0) (c':=(R6 B an al ak ao)) O O qS AH O ax qL O ?_;intro w11 a6;replace au:=au.cells a6.chg (λh=>by have:=h.2;omega) (DJ ax);replace C:=C.chg a6.chg (λh=>by have Q:1=ab:=h;omega);replace A:=A.chg a6.chg (λz hz h=>by have Q:z=ab:=h;omega);replace bi:=AS.chg a6.chg (λy hy h=>by have h2:y=ab:=h;exact (bh y hy).2 h2) _ bi;replace F:=a6.keep qO F;replace d:=a6.keep qO d;replace E:=a6.step E qQ;replace ax:=a6.blk;refine qV (A2 O O) (qA _ O (AB (AC ?_)));exact ⟨ab,an,al,ak,ao,Am.out ⟨O,O,O,O,O,O,O,O,O,O,trivial⟩,E,F,d,ax,au.mono (λ_ h=>h.1),AS.mono (λy hy=>cx y (bh y hy).1) _ bi,C,A,qO⟩
     .clear E F d;rintro _ W8 ⟨bd,ya,yc,za,zc,⟨j8,rfl⟩,E,F,d,I,a1,bj,C,A,hbd⟩;refine AG (AA (qM _ O (qV (Cy O O) (AB (qC O (λhe=>?_) (λhe=>?_))))))
      .have h2:e9=2∧300<D.size:=by rw[cr,bf] at he;rw[cr,bf];by_cases Q:300<D.size;exact ⟨if_pos Q,Q⟩;rw[if_neg Q] at he;exact absurd O he
       refine AA (qM _ O (qA _ O (qA _ O (AB (AJ (AP (Ac (AP (AP (Ac (AP (Bf results52 (v:=(.bool false)) (v':=(.int .i64 e9)) O O ?_))))))))))));exact ⟨.inr ⟨by rw[h2.1],(text.map (Ch cs)).take (k+1),by rw[List.length_take,List.length_map];omega,by rw[List.length_take,List.length_map,Nat.min_eq_left qO],by rw[cy];exact h2.2⟩,E⟩
      .have ep:¬300<D.size:=λQ=>by rw[cr,bf,if_pos Q] at he;omega
       have bb:B=D:=by rw[dr];unfold Xy;rw[if_pos (by rw[bf,if_neg ep]),Mu hs.1,<-ds]
       have cm:Au B:=by rw[bb];exact d0
       have de:B.size<=300:=by rw[bb];omega
       refine AO (AC (AA (qM _ O (qV (Ag O) (qF b 0 9 O underlying65 O Ay O (qV (AL O Al (d.cell O)) (qV (Ax (c:=IW a2.made) O O (O)) (qV (Ag O) (qF b 0 9 O underlying65 O Ay O (Bb (b:=b) (o:=9) (c':=#[(I6 f.kind),(.slice W f.set.length R),(.slice Z f.args.length T),(I6 f.mn),(I6 f.mx),(.bool f.neg),(I6 (most:Int)),(.slice (some ⟨cb,co,none⟩) cs.length cc),(.map (some af)),(I6 (IW a2.made)),(I6 a2.drops)]) (v:=(I6 (IW a2.made))) O O O Ay d qP O ?_))))))))));intro w13 a0;replace a1:=a1.cells a0.chg bg (DJ d);replace bj:=AS.chgM a0.chg (λz hz _ h=>by have Q:z=b:=h;exact bg (Q▸hz)) bj;replace C:=C.chg a0.chg (λh=>by have Q:1=b:=h;omega);replace A:=A.chg a0.chg (λz hz h=>by have Q:z=b:=h;omega);replace F:=a0.keep qO F;replace I:=a0.keep qO I;replace E:=a0.step E qQ;replace d:=a0.blk;refine AB (AA (qV (AK (vs:=[(I6 B.kind),(.slice ya B.set.length yc),(.slice za B.args.length zc),(I6 B.mn),(I6 B.mx),(.bool B.neg)]) O Ad AH O (I.cells O)) (qE O (AI func89 kQ kQ O) ((Tj 301 qO B _ _ qO cm C (AS.at B bj))) ?_)));rintro _ fm ⟨rfl,a7⟩;replace F:=a7.keep F;replace d:=a7.keep d;replace I:=a7.keep I;replace a1:=a1.ext a7;replace bj:=AS.ext a7 _ bj;replace C:=C.ext a7;replace A:=A.chg a7 (λ_ _ f=>f);replace E:=E.ext a7;have eb:RepA L2 (FI a2):=⟨ar.dom,ar.kn,ar.n⟩;have hl6:=F.lt;have f5:=bm.1;have hs29:w0.heap.size<=(fm).heap.size:=E.size;refine qA _ O (AB (AA (qM _ O (qM _ O (qV (AK (vs:=[(I6 B.kind),(.slice ya B.set.length yc),(.slice za B.args.length zc),(I6 B.mn),(I6 B.mx),(.bool B.neg)]) O Ad AH O (I.cells O)) (qE O (AI func90 kQ kQ O) (T6 SC (Gr cs) _ b af most B _ _ _ _ _ _ _ _ L2 (FI a2) d a1.hd eb bg bj cm de hm ba.le) ?_))))));rintro _ b7 ⟨cq,L3,bs,M,ff,be⟩;replace F:=be.keep (λh=>by rcases h with h|h<;>omega) F;replace I:=be.keep (λh=>by rcases h with h|h<;>omega) I;replace E:=E.step be (λq _ h=>by rcases h with rfl|rfl;exact cv.1;exact f5);have ap:=a1.hold ff be bg (λy hy=>cx y qO);replace C:=C.chg be (λh=>by rcases h with h|h<;>omega);replace A:=A.chg be (λy hy h=>by rcases h with h|h<;>omega);have av:=AS.chgM be (λz hz hn h=>by rcases h with rfl|rfl;exact bg hz;exact a1.hd.map.no hn) bj;have a8:=bs.ge bm.1 bm.2 qO;have c0:=bs.rep eb;have em:(holdA most (FI a2) B).Ok (Gr cs) most:=Hb hm.1 ⟨ba.kd,ba.le⟩;have bo:=bs.find ap.hd a1.hd.nd cd bt.ok c0 ((ar.dom _).2 ⟨x,cd,O⟩);rw[bq] at bo;obtain ⟨a4,d4⟩:∃a4,a4=holdA most (FI a2) B:=⟨_,O⟩;rw[<-d4] at M c0 em bo;obtain ⟨o4,d9⟩:∃o4,o4=(CT (L3.map EW) (EC t)).getD none:=⟨_,O⟩;rw[<-d9] at bo;have dd:=ap.hd.map;obtain ⟨a5,c2⟩:∃a5,a5=stepA (Gr cs) most a2 t ((cn:Nat):Int):=⟨_,O⟩;have ct:a5=knowA a4 t ((cn:Nat):Int):=by rw[c2,Ef gb,d4,bb,hD]
       have d1:a5.Ok (Gr cs) most:=by rw[c2];exact ID hm.1 ba
       have dz:a5.dom B:=by rw[c2,bb,hD];exact Lm ba
       have ce:runA (Gr cs) most (holdA most a f) f (text.map (Ch cs))=runA (Gr cs) most a5 B ((text.map (Ch cs)).drop (k+1)):=by rw[bn,di,runA,c2,bb,hD]
       rw[show a4.made=a5.made by rw[ct,JD],show a4.drops=a5.drops by rw[ct,Pu]] at M;refine AB (AG (AA (qM _ O (qV (Ag O) (qF b 0 8 O underlying65 O Fv O (qV (AL O Gn (M.cell O)) (qM _ O (Bn (v:=(GI o4)) O O qD (Eq.trans (IG (eV:=GI) (k:=(EC t)) (z:=none) underlying63 (G_ underlying9) Mk dd O O) (by rw[<-d9])) (qM _ O (qV (VG (s:=x.sb) (bo.imp And.left And.left) underlying117 WZ O O) (AB (A_ O (λbk=>?_) (λbk=>?_)))))))))))))
       .have dm:=bk;have cp:x∈L3:=bo.elim (λh=>by rw[h.1] at bk;cases bk) (λh=>h.2);obtain ⟨i3,da⟩:=List.mem_iff_getElem?.1 cp;have cg:=ap.hd.cel x cp;have c3:=cg.blk;rw[dx,<-aj] at c3;have am:=cg.nx;rw[<-aj] at am;have d2:m0<=nb:=by rw[aj];exact a8.2 x cp
        have hne9:b≠nb∧J≠nb∧bd≠nb:=⟨DX M am,DX F am,DX I am⟩;refine AR (qM _ O (qV (Ag O) (qF _ _ _ O underlying120 O Pa O (qV (AL O NH (c3.cell O)) (qM _ O (qM _ O (FW (k:=(cn:Int)) (v:=(EC B)) underlying118 (Ty underlying3) am O O O ?_)))))));intro b0 aq e5;replace F:=aq.keep qO F;replace I:=aq.keep qO I;replace M:=aq.keep qO M;replace E:=aq.step E (.inr d2);replace am:=e5;refine AB (AC ?_);have ed:=ap.hd.know (n:=((cn:Nat):Int)) (q:=EC B) da (by rw[<-aj];exact aq.chg) (by rw[<-aj];exact am) (by rw[bb,hD,bq]);have c9:∀z,SC z->Gg b7 z->¬z=nb:=λz _ hn e=>by rw[e,aj] at hn;exact cg.nx.no hn
        have b9:LzF SC cs b0 f [.int .i64 f.kind,.slice W f.set.length R,.slice Z f.args.length T,.int .i64 f.mn,.int .i64 f.mx,.bool f.neg] (.slice (some ⟨cb,co,none⟩) cs.length cc) cq (L3.set i3 (Rr x ((cn:Nat):Int) (EC B))):=⟨AS.chgM aq.chg c9 ap.hf,ap.sp.chgM aq.chg c9,ed⟩;have bc:=AS.chgM aq.chg c9 av;have cj:=C.chg aq.chg (λh=>by have Q:1=nb:=h;omega);have b4:=A.chg aq.chg (λz hz h=>by have Q:z=nb:=h;have h8:z<m0:=hz;omega);have fg:RepA (L3.set i3 (Rr x ((cn:Nat):Int) (EC B))) a5:=by rw[ct,<-bq];exact c0.know da
        have dh:m0<=cq∧∀y∈L3.set i3 (Rr x ((cn:Nat):Int) (EC B)),m0<=y.nb:=⟨a8.1,λy hy=>by rcases I2 da hy with rfl|⟨j,_,hj⟩;exact a8.2 x cp;exact a8.2 y (List.mem_of_getElem? hj)⟩;have hz_16:w0.heap.size<=b0.heap.size:=E.size;have lz_16_b6:J<b0.heap.size:=F.lt;have lz_16_bd:bd<b0.heap.size:=I.lt;have lz_16_b:b<b0.heap.size:=M.lt;obtain ⟨d3,ay⟩:∃Fs:List CJ,Fs=[(eF (.string (EC B))),(eF (.agg (R6 B ya yc za zc))),(eF (.string (EC B))),(eF undef)]:=⟨_,O⟩;refine EH (NT []) [true,true,true,false] [3] [113,114,7,121] [[],[],[0],[]] [[],[],[0],[]] d3 ay qK mixed qK qK qK qK ?_ ?_
        .intro wd G;refine qZ (λS m w' hi hN X U V H=>?_) ?_
         .replace X:=CK X;exact AT (Ai (U 16 O)) O
         refine qZ (λS m w' hi hN X U V H=>?_) ?_
         .replace X:=CK X;exact AT (AK (U 14 O) Ad AH O (((G.trans X).keep I).cells O)) O
         refine qZ (λS m w' hi hN X U V H=>?_) ?_
         .replace X:=CK X;have b8:=(H 0 O).2 113 _ O (by rw[ay];rfl);exact AT (Dq b8) O
         refine DagStepsS.tail ?_;exact DagStepsS.nil
        .intro m wd16 w16 G ah U H;replace ah:=ah.mono (M':=Ak) (λy _ h=>by
          obtain ⟨j,hj,h⟩:=h;exact h.elim)
         have b2:=H 1 O 114 _ O (by rw[ay];rfl);have e7:=H 2 O 7 _ O (by rw[ay];rfl);obtain ⟨j16,rfl⟩:=Am.out (σ:=m) (l:=[(0,(.pointer (some ⟨b,0,none⟩))),(6,(.pointer (some ⟨J,0,none⟩))),(30,(.slice (some ⟨xb,xo,none⟩) text.length xc)),(31,(.int .i64 ((text.length:Nat):Int))),(32,(.int .i64 ((k:Nat):Int))),(114,(.agg #[(.int .i64 B.kind),(.slice ya B.set.length yc),(.slice za B.args.length zc),(.int .i64 B.mn),(.int .i64 B.mx),(.bool B.neg)])),(7,(.string (EC B)))]) ⟨U 0 O,U 6 O,U 30 O,U 31 O,U 32 O,b2,e7,trivial⟩;clear U H;replace F:=(G.trans ah).keep F;replace I:=(G.trans ah).keep I;replace M:=(G.trans ah).keep M;replace b9:=b9.ext (G.trans ah);replace bc:=AS.ext (G.trans ah) _ bc;replace cj:=cj.ext (G.trans ah);replace b4:=b4.chg (G.trans ah) (λ_ _ f=>f);replace ah:=G.trans ah;replace E:=E.ext ah;refine Ab (b:=J) (o:=0) (c':=(R6 B ya yc za zc)) O O qS AH O F qL O ?_;intro w17 az;replace b9:=b9.cells az.chg b3 (DJ F);replace bc:=AS.chgM az.chg (λz hz _ h=>by have Q:z=J:=h;exact b3 (Q▸hz)) bc;replace cj:=cj.chg az.chg (λh=>by have Q:1=J:=h;omega);replace b4:=b4.chg az.chg (λz hz h=>by have Q:z=J:=h;omega);replace I:=az.keep qO I;replace M:=az.keep qO M;replace E:=az.step E qQ;replace F:=az.blk;refine AB (AQ (AC (AR (qV (Ax O O (A8 qO)) (qM _ O (AB (AC ?_)))))));exact ⟨text.length - (k+1),qO,k+1,B,ya,za,yc,zc,cq,L3.set i3 (Rr x ((cn:Nat):Int) (EC B)),a5,Am.out ⟨O,O,O,O,O,O,trivial⟩,E,F,M,qO,b9,bc,⟨cm,de⟩,dz,fg,d1,dh,cj,b4,ce,(by rw[bb];exact cy.symm),O⟩
       .have dm:=bk;have e3:¬a4.dom t:=bo.elim (λh=>h.2) (λh=>by rw[h.1] at bk;cases bk);have en:RepA L3 a5:=by rw[ct,FK e3];exact c0
        refine AO (AC ?_);have hz_18:w0.heap.size<=b7.heap.size:=E.size;have lz_18_b6:J<b7.heap.size:=F.lt;have lz_18_bd:bd<b7.heap.size:=I.lt;have lz_18_b:b<b7.heap.size:=M.lt;obtain ⟨ea,aw⟩:∃Fs:List CJ,Fs=[(eF (.string (EC B))),(eF (.agg (R6 B ya yc za zc))),(eF (.string (EC B))),(eF undef)]:=⟨_,O⟩;refine EH (NT []) [true,true,true,false] [3] [113,114,7,121] [[],[],[0],[]] [[],[],[0],[]] ea aw qK mixed qK qK qK qK ?_ ?_
        .intro wd G;refine qZ (λS m w' hi hN X U V H=>?_) ?_
         .replace X:=CK X;exact AT (Ai (U 16 O)) O
         refine qZ (λS m w' hi hN X U V H=>?_) ?_
         .replace X:=CK X;exact AT (AK (U 14 O) Ad AH O (((G.trans X).keep I).cells O)) O
         refine qZ (λS m w' hi hN X U V H=>?_) ?_
         .replace X:=CK X;have b8:=(H 0 O).2 113 _ O (by rw[aw];rfl);exact AT (Dq b8) O
         refine DagStepsS.tail ?_;exact DagStepsS.nil
        .intro m wd18 w18 G ai U H;replace ai:=ai.mono (M':=Ak) (λy _ h=>by
          obtain ⟨j,hj,h⟩:=h;exact h.elim)
         have b2:=H 1 O 114 _ O (by rw[aw];rfl);have e7:=H 2 O 7 _ O (by rw[aw];rfl);obtain ⟨j18,rfl⟩:=Am.out (σ:=m) (l:=[(0,(.pointer (some ⟨b,0,none⟩))),(6,(.pointer (some ⟨J,0,none⟩))),(30,(.slice (some ⟨xb,xo,none⟩) text.length xc)),(31,(.int .i64 ((text.length:Nat):Int))),(32,(.int .i64 ((k:Nat):Int))),(114,(.agg #[(.int .i64 B.kind),(.slice ya B.set.length yc),(.slice za B.args.length zc),(.int .i64 B.mn),(.int .i64 B.mx),(.bool B.neg)])),(7,(.string (EC B)))]) ⟨U 0 O,U 6 O,U 30 O,U 31 O,U 32 O,b2,e7,trivial⟩;clear U H;replace F:=(G.trans ai).keep F;replace I:=(G.trans ai).keep I;replace M:=(G.trans ai).keep M;replace ap:=ap.ext (G.trans ai);replace av:=AS.ext (G.trans ai) _ av;replace C:=C.ext (G.trans ai);replace A:=A.chg (G.trans ai) (λ_ _ f=>f);replace ai:=G.trans ai;replace E:=E.ext ai;refine Ab (b:=J) (o:=0) (c':=(R6 B ya yc za zc)) O O qS AH O F qL O ?_;intro ae a3;replace ap:=ap.cells a3.chg b3 (DJ F);replace av:=AS.chgM a3.chg (λz hz _ h=>by have Q:z=J:=h;exact b3 (Q▸hz)) av;replace C:=C.chg a3.chg (λh=>by have Q:1=J:=h;omega);replace A:=A.chg a3.chg (λz hz h=>by have Q:z=J:=h;omega);replace I:=a3.keep qO I;replace M:=a3.keep qO M;replace E:=a3.step E qQ;replace F:=a3.blk;refine AB (AQ (AC (AR (qV (Ax O O (A8 qO)) (qM _ O (AB (AC ?_)))))));exact ⟨text.length - (k+1),qO,k+1,B,ya,za,yc,zc,cq,L3,a5,Am.out ⟨O,O,O,O,O,O,trivial⟩,E,F,M,qO,ap,av,⟨cm,de⟩,dz,en,d1,a8,C,A,ce,(by rw[bb];exact cy.symm),O⟩
   .have fs:k=text.length:=qO
    have dj:(text.map (Ch cs)).length=k:=by rw[List.length_map,fs]
    rw[<-dj,List.take_length] at bl;rw[<-dj,List.drop_length,runA] at bn;refine Aw (AZ (AZ (Ap (AC (AA (qV (AK (vs:=[(I6 t.kind),(.slice sa t.set.length sc),(.slice aa t.args.length ac),(I6 t.mn),(I6 t.mx),(.bool t.neg)]) O Ad AH O (F.cells O)) (qE O (AI func93 kQ kQ O) (UI 301 t _ _ qO qO (AS.at t hT)) ?_)))))));rintro _ ae ⟨rfl,ag⟩;replace F:=ag.keep F;replace d:=ag.keep d;replace E:=E.ext ag;refine qA _ O (qA _ O (AB (AJ (Bf results52 (v:=(.bool (Cq t))) (v':=(.int .i64 0)) O O ?_))));exact ⟨.inl ⟨by rw[<-bl],af,L2,a2,by unfold matchA;rw[bn],d,(N.ext ag).mono (λy hy=>by rw[bv] at hy;exact hy.imp id λh=>qO),ar⟩,E⟩
end Go.Proofs
namespace Go.Proofs
open Go Go.Eng Go.Sort
set_option maxRecDepth 100000
structure LzAt (S:Nat->Prop) (cs:List (List Sp)) (w:World) (b most:Nat) (f:Re) (a:LzA Re):Prop where
 mem:∃(fsa faa ca:Option Addr) (fsc fac cc mb:Nat) (L:List Cel),
  BH w b #[.int .i64 f.kind,.slice fsa f.set.length fsc,.slice faa f.args.length fac,.int .i64 f.mn,.int .i64 f.mx,.bool f.neg,.int .i64 ((most:Nat):Int),.slice ca cs.length cc,.map (some mb),.int .i64 a.made,.int .i64 a.drops] Jx∧
  LzF S cs w f [.int .i64 f.kind,.slice fsa f.set.length fsc,.slice faa f.args.length fac,.int .i64 f.mn,.int .i64 f.mx,.bool f.neg] (.slice ca cs.length cc) mb L∧RepA L a
 nb:¬S b
 fo:Au f
 fz:f.size<=300
 ok:a.Ok (Gr cs) most
 mo:1<=most∧most<=100
section
variable {S S' : Nat → Prop} {cs : List (List Sp)} {w w' : World} {b most q : Nat} {f : Re} {a : LzA Re}
theorem LzAt.no (h:LzAt S cs w b most f a):Gg w b:=by
 obtain ⟨_,_,_,_,_,_,_,_,c,_⟩:=h.mem;exact DJ c
theorem LzAt.cells (h:LzAt S cs w b most f a) (c:Chg (λy=>y=q) w w') (o:¬S q) (hn:Gg w q) (hb:b≠q):LzAt S cs w' b most f a:=by
 obtain ⟨i,d,m,j,g,cc,mb,L,n,k,l⟩:=h.mem;exact ⟨⟨i,d,m,j,g,cc,mb,L,c.keep (λe=>hb e) n,k.cells c o hn,l⟩,h.nb,h.fo,h.fz,h.ok,h.mo⟩
theorem LzAt.ext (h:LzAt S cs w b most f a) (c:Ae w w'):LzAt S cs w' b most f a:=by
 obtain ⟨d,e,m,g,i,cc,mb,L,l,j,k⟩:=h.mem;exact ⟨⟨d,e,m,g,i,cc,mb,L,c.keep l,j.ext c,k⟩,h.nb,h.fo,h.fz,h.ok,h.mo⟩
theorem LzAt.lt (h:LzAt S cs w b most f a):b<w.heap.size:=by
 obtain ⟨_,_,_,_,_,_,_,_,c,_⟩:=h.mem;exact c.lt
theorem LzAt.mono (h:LzAt S cs w b most f a) (m:∀y,S y->y<w.heap.size->S' y) (hb:¬S' b):LzAt S' cs w b most f a:=by
 obtain ⟨e,c,l,g,d,cc,mb,L,n,j,k⟩:=h.mem;exact ⟨⟨e,c,l,g,d,cc,mb,L,n,j.lt.mono λy i=>m y i.1 i.2,k⟩,hb,h.fo,h.fz,h.ok,h.mo⟩
end
theorem Rg {D:Re->Int->Re} {most:Nat} {a:LzA Re} {f:Re} (b:1<=most) (w:List Int) (h:a.Ok D most):(matchA D most a f w).Ok D most:=QZ b w (Hb b h)
theorem OT (S:Nat->Prop) (cs:List (List Sp)) (m:World) (b most:Nat) (f:Re) (a:LzA Re) (h:LzAt S cs m b most f a) :
 Bi prog 17 #[.pointer (some ⟨b,0,none⟩)] m λr w=>r=.tuple #[.int .i64 a.made,.int .i64 a.drops,.int .i64 ((a.n:Nat):Int)]∧Ae m w:=by
 obtain ⟨fsa,faa,ca,fsc,fac,cc,mb,L,o,J,F⟩:=h.mem;have g:=J.hd.map;have C:(L.map EW).length=a.n:=by rw[List.length_map,F.n]
 refine qR func17 O ntmps17 O (λE=>(AA (qA _ O (qA _ O (qA _ O (AB ?_))))));have hz_1:m.heap.size<=m.heap.size:=E.size;have lz_1_b:b<m.heap.size:=o.lt;have lz_1_mb:mb<m.heap.size:=g.lt;refine AG ?_;obtain ⟨t,c⟩:∃M:List CJ,M=[(eF (P6 b 0)),(eF (P6 b 0)),(eF (P6 b 9)),(eF (I6 a.made)),(eF (P6 b 0)),(eF (P6 b 0)),(eF (P6 b 10)),(eF (I6 a.drops)),(eF (P6 b 0)),(eF (P6 b 0)),(eF (P6 b 8)),(eF (.map (some mb))),(eF (I6 (((L.map EW).length:Nat):Int))),(eF (I6 a.made)),(eF (I6 a.drops)),(eF undef)]:=⟨_,O⟩;refine EH (NT []) [true,true,true,true,true,true,true,true,true,true,true,true,true,true,true,false] [15] [5,6,7,8,9,10,11,12,13,14,15,16,17,2,3,33] [[],[0],[1],[2],[],[4],[5],[6],[],[8],[9],[10],[11],[0,1,2,3,12],[0,1,2,3,4,5,6,7,13],[]] [[],[0],[1,0],[2,1,0],[],[4],[5,4],[6,5,4],[],[8],[9,8],[10,9,8],[11,10,9,8],[0,1,2,3,12,11,10,9,8],[0,1,2,3,4,5,6,7,13,12,11,10,9,8],[]] t c qK mixed qK qK qK qK ?_ ?_
 .intro wd i;refine qZ (λS d w' hi e X U V H=>?_) ?_
  .replace X:=CK X;exact AT (Ai (U 0 O)) O
  refine qZ (λS d w' hi e X U V H=>?_) ?_
  .replace X:=CK X;have N:=(H 0 O).2 5 _ O (by rw[c];rfl);exact AT (Ag N) O
  refine qZ (λS d w' hi e X U V H=>?_) ?_
  .replace X:=CK X;have G:=(H 1 O).2 6 _ O (by rw[c];rfl);exact AT (AY G underlying65 O Ay O) O
  refine qZ (λS d w' hi e X U V H=>?_) ?_
  .replace X:=CK X;have P:=(H 2 O).2 7 _ O (by rw[c];rfl);exact AT (AL P Al (((i.trans X).keep o).cell O)) O
  refine qZ (λS d w' hi e X U V H=>?_) ?_
  .replace X:=CK X;exact AT (Ai (U 0 O)) O
  refine qZ (λS d w' hi e X U V H=>?_) ?_
  .replace X:=CK X;have I:=(H 4 O).2 9 _ O (by rw[c];rfl);exact AT (Ag I) O
  refine qZ (λS d w' hi e X U V H=>?_) ?_
  .replace X:=CK X;have q:=(H 5 O).2 10 _ O (by rw[c];rfl);exact AT (AY q underlying65 O Ay O) O
  refine qZ (λS d w' hi e X U V H=>?_) ?_
  .replace X:=CK X;have A:=(H 6 O).2 11 _ O (by rw[c];rfl);exact AT (AL A Al (((i.trans X).keep o).cell O)) O
  refine qZ (λS d w' hi e X U V H=>?_) ?_
  .replace X:=CK X;exact AT (Ai (U 0 O)) O
  refine qZ (λS d w' hi e X U V H=>?_) ?_
  .replace X:=CK X;have p:=(H 8 O).2 13 _ O (by rw[c];rfl);exact AT (Ag p) O
  refine qZ (λS d w' hi e X U V H=>?_) ?_
  .replace X:=CK X;have u:=(H 9 O).2 14 _ O (by rw[c];rfl);exact AT (AY u underlying65 O Fv O) O
  refine qZ (λS d w' hi e X U V H=>?_) ?_
  .replace X:=CK X;have B:=(H 10 O).2 15 _ O (by rw[c];rfl);exact AT (AL B Gn (((i.trans X).keep o).cell O)) O
  refine qZ (λS d w' hi e X U V H=>?_) ?_
  .replace X:=CK X;have s:=(H 11 O).2 16 _ O (by rw[c];rfl);exact AT (OC underlying63 ((Ae.trans i X).keepM g) s) O
  refine qZ (λS d w' hi e X U V H=>?_) ?_
  .replace X:=CK X;have K:=(H 3 O).2 8 _ O (by rw[c];rfl);exact AT (Dq K) O
  refine qZ (λS d w' hi e X U V H=>?_) ?_
  .replace X:=CK X;have x:=(H 7 O).2 12 _ O (by rw[c];rfl);exact AT (Dq x) O
  refine DagStepsS.tail ?_;exact DagStepsS.nil
 .intro d wd1 w1 i k U H;replace k:=k.mono (M':=Ak) (λy _ h=>by
   obtain ⟨j,hj,h⟩:=h;exact h.elim)
  have z:=H 12 O 17 _ O (by rw[c];rfl);have D:=H 13 O 2 _ O (by rw[c];rfl);have Q:=H 14 O 3 _ O (by rw[c];rfl);obtain ⟨j1,rfl⟩:=Am.out (σ:=d) (l:=[(17,(.int .i64 (((L.map EW).length:Nat):Int))),(2,(.int .i64 a.made)),(3,(.int .i64 a.drops))]) ⟨z,D,Q,trivial⟩;clear U H;replace o:=(i.trans k).keep o;replace g:=(i.trans k).keepM g;replace k:=i.trans k;replace E:=E.ext k;refine qA _ O (AB (AC (AJ (UG results17 (v:=(.int .i64 a.made)) (v':=(.int .i64 a.drops)) (v'':=(.int .i64 (((L.map EW).length:Nat):Int))) O O O ?_))));exact ⟨by rw[C],E⟩
theorem Ti (S:Nat->Prop) (cs:List (List Sp)) (k:World) (b most:Nat) (f:Re) (a:LzA Re) (v:Value) (text:List Int) (h:LzAt S cs k b most f a) (R:BZ k v text) (hP:Dj k)
 (aq:∀r,CA r=true->0<=Ch cs r∧Ch cs r<cs.length) (al:∀l∈cs,l≠[]∧CA (Bl l)=true) (Z:0<cs.length) :
 Bi prog 14 #[.pointer (some ⟨b,0,none⟩),v] k λr w=>
  ((1000<text.length∧r=.tuple #[.bool false,.int .i64 2])∧Ae k w)∨
  ((text.length<=1000∧text.all CA=false∧r=.tuple #[.bool false,.int .i64 1])∧Ae k w)∨
  ((text.length<=1000∧text.all CA=true∧r=.tuple #[.bool false,.int .i64 2]∧∃u,u.length<=text.length∧u=(text.map (Ch cs)).take u.length∧300<(H4 (Gr cs) f u).size)∧Ae k w)∨
  ((text.length<=1000∧text.all CA=true∧r=.tuple #[.bool (Cq (H4 (Gr cs) f (text.map (Ch cs)))),.int .i64 0])∧LzAt (λy=>S y∨k.heap.size<=y) cs w b most f (matchA (Gr cs) most a f (text.map (Ch cs)))∧Chg (λq=>q=b) k w):=by
 obtain ⟨e,g,C,j,d,cc,mb,L,t,hF,hR⟩:=h.mem;obtain ⟨W,X,rfl⟩:∃W X,v=.slice W text.length X:=by
  obtain ⟨W,X,h,_⟩:=R;exact ⟨W,X,by rw[h,List.length_map]⟩
 have ad:=t;have ah:=(BY.of R).ltg λr hr=>by obtain ⟨p,_,rfl⟩:=List.mem_map.1 hr;simp[GJ]
 have U:text.all CA = !(text.any λr=>!CA r):=List.all_eq_not_any_not;refine EY func14 O ntmps14 (Qo O) ?_;have E:Chg (λq=>q=b) k k:=Chg.refl _ _;have n:Chg Ak k k:=Chg.refl _ _;refine AA (qA _ O (qA _ O (AB (AG (AA (qM _ O (qV (Aa underlying46 O) (qV (D0 O O) (AB (qC O (λV=>?_) (λV=>?_)))))))))))
 .refine AA (qA _ O (qA _ O (AB (AJ (AP (Bf results14 (v:=(.bool false)) (v':=(.int .i64 2)) O O ?_))))));exact .inl ⟨⟨qO,O⟩,n⟩
 .refine AO (AC (AG (AA (qM _ O (qE O (AI func50 kQ kQ O) (QY _ _ text (R.ext n)) ?_)))));rintro _ D ⟨rfl,X9⟩;replace t:=X9.keep t;replace E:=E.ext X9;replace n:=n.ext X9;refine qV (Dg O) (AB (A_ O (λc=>?_) (λc=>?_)))
  .have Q:=c;replace c:=by simpa using c
   replace c:=by simpa using c
   refine AA (qA _ O (qA _ O (AB (AJ (AP (Bf results14 (v:=(.bool false)) (v':=(.int .i64 1)) O O ?_))))));exact .inr (.inl ⟨⟨qO,by rw[U];simpa using c,O⟩,n⟩)
  .have Q:=c;replace c:=by simpa using c
   replace c:=by simpa using c
   have A:text.all CA=true:=by rw[U];simpa using c
   have J:=hF.lt.ext n;have hon:=h.ok.le;have hmo:=h.mo;have M:=n.size;have hbl:=ad.lt;refine AO (AC (AA (qM _ O (qE O (AI func51 kQ kQ O) (VW (λy=>S y∧y<k.heap.size) (Gr cs) _ b mb most f e g C j d cs.length cc L a t J.hd hR qO) ?_))));rintro _ z ⟨⟨b',mb',L',rfl,aa,am,ae,ai,ao,ab⟩,m⟩;replace t:=m.keep t;replace E:=E.ext m;replace n:=n.ext m;obtain ⟨K,I⟩:∃K:Nat->Prop,K=λy=>(S y∧y<k.heap.size)∨(D.heap.size<=y∧y≠b'):=⟨_,O⟩;have ag:LzF K cs z f [.int .i64 f.kind,.slice e f.set.length j,.slice g f.args.length d,.int .i64 f.mn,.int .i64 f.mx,.bool f.neg] (.slice C cs.length cc) mb' L':=by rw[I];exact ⟨AS.mono (λ_ h=>.inl h) _ (AS.ext m _ J.hf),(J.sp.chgM m (λ_ _ _ f=>f)).mono (λ_ h=>.inl h),ao⟩
   have ac:¬K b':=by rw[I];rintro (h|h);(have:=h.2;omega);exact h.2 O
   have an:∀r∈text,0<=Ch cs r∧Ch cs r<cs.length:=λr hr=>aq r (List.all_eq_true.1 A r hr);have aj:BY (λy=>y<D.heap.size) z 1 (.slice W text.length X) (text.map GJ):=(ah.mono (λy h=>Nat.lt_of_lt_of_le h.2 M)).chg n (λ_ _ f=>f);refine qA _ O (AB (AA (qM _ O (qM _ O (qE O (AI func52 kQ kQ O) ((Ws K cs _ b' mb' most D.heap.size f e g C j d cc L' a _ text ai ag ab ac h.fo h.fz h.ok h.mo ⟨aa,am⟩ ae m.size (hP.ext n) (Nat.lt_of_lt_of_le hP.lt M) aj qO an al Z).mono (R':=λr w=>∃(T:Bool) (ev:Int),r=.tuple #[.bool T,.int .i64 ev]∧((ev=0∧T=Cq (H4 (Gr cs) f (text.map (Ch cs)))∧∃s L2 B,B=matchA (Gr cs) most a f (text.map (Ch cs))∧BH w b' #[.int .i64 f.kind,.slice e f.set.length j,.slice g f.args.length d,.int .i64 f.mn,.int .i64 f.mx,.bool f.neg,.int .i64 (most:Int),.slice C cs.length cc,.map (some s),.int .i64 B.made,.int .i64 B.drops] Jx∧LzF (λy=>K y∧y<z.heap.size∨z.heap.size<=y) cs w f [.int .i64 f.kind,.slice e f.set.length j,.slice g f.args.length d,.int .i64 f.mn,.int .i64 f.mx,.bool f.neg] (.slice C cs.length cc) s L2∧RepA L2 B)∨(ev=2∧T=false∧∃u,u.length<=text.length∧u=(text.map (Ch cs)).take u.length∧300<(H4 (Gr cs) f u).size))∧Chg (λq=>D.heap.size<=q) z w) (λr w h=>by rcases h with ⟨⟨h1,h2⟩|⟨h1,h2⟩,hC⟩;exact ⟨_,_,h1,.inl ⟨O,O,h2⟩,hC⟩;exact ⟨_,_,h1,.inr ⟨O,O,h2⟩,hC⟩)) ?_)))));rintro _ w29 ⟨T,ev,rfl,hq,H⟩;replace t:=H.keep (λh=>by have i:D.heap.size<=b:=h;omega) t;replace E:=E.step H (λx R h=>by exfalso;have i:D.heap.size<=x:=h;omega);replace n:=n.step H (λx R h=>by exfalso;have i:D.heap.size<=x:=h;omega);refine qM _ O (qV (A2 O O) (qV (A2 O O) (qA _ O (qA _ O (AB (AG (AA (qM _ O (qV (Cy O O) (AB (qC O (λhe=>?_) (λhe=>?_))))))))))))
   .obtain ⟨ak,P,u,hu⟩:=hq.resolve_left (λi=>he i.1);refine AA (qM _ O (qA _ O (qA _ O (AB (AJ (AP (Bf results14 (v:=(.bool false)) (v':=(.int .i64 ev)) O O ?_)))))));exact .inr (.inr (.inl ⟨⟨qO,A,by rw[ak],u,hu⟩,n⟩))
   .obtain ⟨h0,P,s,L2,B,N,G,af,ap⟩:=hq.resolve_right (λi=>by have:=i.1;omega);have F:=af.mono (S':=λy=>(S y∧y<k.heap.size)∨k.heap.size<=y) (λy hy=>by rw[I] at hy;rcases hy with ⟨i|i,_⟩|i;exact .inl i;exact .inr qO;exact .inr (by have:=m.size;omega));have hbb:b≠b':=qO
    refine AO (AC (AA (qM _ O (qM _ O (qV (Ag O) (qV (AK (vs:=[(I6 f.kind),(.slice e f.set.length j),(.slice g f.args.length d),(I6 f.mn),(I6 f.mx),(.bool f.neg),(I6 (most:Int)),(.slice C cs.length cc),(.map (some s)),(I6 B.made),(I6 B.drops)]) O WK QV O (G.cells O)) (qV (Ag O) (Ab (b:=b) (o:=0) (c':=#[(I6 f.kind),(.slice e f.set.length j),(.slice g f.args.length d),(I6 f.mn),(I6 f.mx),(.bool f.neg),(I6 (most:Int)),(.slice C cs.length cc),(.map (some s)),(I6 B.made),(I6 B.drops)]) O O qS QV O t qL O ?_))))))));intro w4 S4;replace F:=F.cells S4.chg (λi=>by rcases i with i|i;exact h.nb i.1;omega) (DJ t);replace G:=S4.keep qO G;replace E:=S4.step E qQ;replace t:=S4.blk;refine AB (AA (qM _ O (qA _ O (qA _ O (AB (AJ (Bf results14 (v:=(.bool T)) (v':=(.int .i64 0)) O O ?_)))))));exact .inr (.inr (.inr ⟨⟨qO,A,by rw[P]⟩,⟨⟨e,g,C,j,d,cc,s,L2,by rw[<-N];exact t,F.mono (λy hy=>hy.imp And.left id),by rw[<-N];exact ap⟩,λi=>i.elim h.nb qO,h.fo,h.fz,Rg h.mo.1 _ h.ok,h.mo⟩,E⟩))
theorem ME (S:Nat->Prop) (cs:List (List Sp)) (d:World) (b most:Nat) (f:Re) (a:LzA Re) (v:Value) (text:List Int) (h:LzAt S cs d b most f a) (A:∀y,d.heap.size<=y->S y) (p:BZ d v text) (o:Dj d)
 (m:∀r,CA r=true->0<=Ch cs r∧Ch cs r<cs.length) (i:∀l∈cs,l≠[]∧CA (Bl l)=true) (e:0<cs.length) (hl:text.length<=1000) (t:∀x∈text,CA x=true) :
 Bi prog 14 #[.pointer (some ⟨b,0,none⟩),v] d λr w=>
  ∃(k:Bool) (ev:Int) (a':LzA Re),r=.tuple #[.bool k,.int .i64 ev]∧
   ((ev=2∧k=false∧a'=a∧∃u,u.length<=text.length∧u=(text.map (Ch cs)).take u.length∧300<(H4 (Gr cs) f u).size)∨
    (ev=0∧k=Cq (H4 (Gr cs) f (text.map (Ch cs)))∧a'=matchA (Gr cs) most a f (text.map (Ch cs))))∧LzAt S cs w b most f a'∧Chg (λq=>q=b) d w:=by
 have g:text.all CA=true:=List.all_eq_true.2 t;refine (Ti S cs d b most f a v text h p o m i e).mono λr w B=>?_;rcases B with ⟨⟨c,_⟩,_⟩|⟨⟨_,c,_⟩,_⟩|⟨⟨_,_,c,j⟩,n⟩|⟨⟨_,_,c⟩,j,z⟩
 .omega
 .rw[g] at c;cases c
 .exact ⟨_,_,a,c,.inl ⟨O,O,O,j⟩,h.ext n,n.mono λ_ _ f=>f.elim⟩
 .exact ⟨_,_,_,c,.inr ⟨O,O,O⟩,j.mono (λy s _=>s.elim id (A y)) h.nb,z⟩
end Go.Proofs
namespace Go.Proofs
open Go Go.Eng
instance (k:Int):Decidable (YO k):=by unfold YO;infer_instance
end Go.Proofs
namespace Go.Proofs
open Go Go.Eng
set_option maxRecDepth 100000
mutual
def LV:Re->List Re
  | .mk k set args mn mx ng=>.mk k set args mn mx ng::FY args
def FY:List Re->List Re
  | []=>[]
  | t::ts=>LV t++FY ts
end
theorem Mz (t:Re):LV t=t::FY t.args:=by cases t;simp only[LV,Re.args]
mutual
theorem OG:∀(t:Re),(LV t).length=t.size
 | .mk k set args mn mx ng=>by simp only[LV,Re.size,List.length_cons,Lz args]
theorem Lz:∀(a:List Re),(FY a).length=Re.sizes a
 | []=>by simp[FY,Re.sizes]
 | t::a=>by simp only[FY,Re.sizes,List.length_append,OG t,Lz a]
end
end Go.Proofs
namespace Go.Proofs
open Go Go.Eng
set_option maxRecDepth 100000
section
variable {S : Type} (F : S → Re → Bool × S)
def FV:List Re->S->Bool×S
  | [],s=>(true,s)
  | t::ts,s=>if (F s t).1 then FV ts (F s t).2 else (false,(F s t).2)
theorem IC:∀(a b:List Re) (s:S),FV F (a++b) s=if (FV F a s).1 then FV F b (FV F a s).2 else (false,(FV F a s).2)
 | [],b,s=>by simp[FV]
 | x::a,b,s=>by
  simp only[List.cons_append,FV];split
  .exact IC a b _
  .simp
mutual
theorem KF:∀(t:Re) (s:S),CU F t s=FV F (LV t) s
 | .mk k set args mn mx ng,s=>by
  rw[Ee,Mz];simp only[FV,Re.args];rw[JZ args]
theorem JZ:∀(a:List Re) (s:S),CO F a s=FV F (FY a) s
 | [],s=>by simp only[CO,FY,FV]
 | t::a,s=>by
  rw[C'];simp only[FY];rw[IC,<-KF t,<-JZ a]
end
end
end Go.Proofs
namespace Go.Proofs
open Go Go.Eng Go.Sort
set_option maxRecDepth 100000
def Ot (t:Re):Re:=if Dd t=0 then CS t else BB
theorem Vm (w0:World) (S:Nat→Prop) (t:Re) (vs:List Value) (ht:AS S w0 t vs) (hS:∀x,S x→x<w0.heap.size) :
  Bi prog 28 #[.agg vs.toArray] w0 fun r w=>(∃us,r=.tuple #[.agg us.toArray,.int .i64 (Dd t)]∧AS (fun b=>w0.heap.size≤b) w (Ot t) us)∧Ae w0 w:=by
 have al:=ht;obtain ⟨sa,sc,aa,ac,rfl,ao,aq,ai⟩:=ht.form;refine qR func28 rfl ntmps28 rfl (fun E=>(AA (BL (v:=(.agg (R6 t sa sc aa ac))) (c:=(R6 t sa sc aa ac)) qD rfl rfl ?_)));intro br wr Nr;have Fr:=Nr.ge E;replace E:=E.ext Nr.ext;have Br:=Nr.blk;refine Bg (c:=#[(I6 0),(.slice none 0 0),(.slice none 0 0),(I6 0),(I6 0),(.bool false)]) qD A9 rfl ?_;intro bo wo No;have Fo:=No.ge E;have Oo_br:=No.lt Br;replace Br:=No.keep Br;replace E:=E.ext No.ext;have Bo:=No.blk;refine qA (I6 0) rfl (AB (AG (AA (qV (AK (vs:=[(I6 t.kind),(.slice sa t.set.length sc),(.slice aa t.args.length ac),(I6 t.mn),(I6 t.mx),(.bool t.neg)]) rfl Ad AH rfl (Br.cells rfl)) (qE rfl (AI (vs:=[(.agg (R6 t sa sc aa ac))]) func25 kQ kQ rfl) (P7 _ t _ (AS.at t (AS.ext E t al))) ?_)))));rintro _ w9 ⟨rfl,X9⟩;replace Br:=X9.keep Br;replace Bo:=X9.keep Bo;replace E:=E.ext X9;refine qA (I6 (Dd t)) rfl (AB (AA (qM (I6 (Dd t)) rfl (qV (Cy (k:=.i64) (a:=Dd t) (b:=0) rfl rfl) (AB (qC rfl (fun hf=>?_) (fun hf=>?_)))))))
 ·refine AA (qV (BJ (ps:=[]) (v:=(.agg #[(I6 0),(.slice none 0 0),(.slice none 0 0),(I6 0),(I6 0),(.bool false)])) rfl qK) (qM (I6 (Dd t)) rfl (Ab (b:=bo) (o:=0) (c':=#[(I6 0),(.slice none 0 0),(.slice none 0 0),(I6 0),(I6 0),(.bool false)]) rfl rfl qS AH rfl Bo qL rfl ?_)));intro w2 S2;replace Br:=S2.keep qO Br;replace E:=S2.step E qQ;replace Bo:=S2.blk;refine qA (I6 (Dd t)) rfl (AB (AJ (AP (D6 results28 (vs:=[(.int .i64 0),(.slice none 0 0),(.slice none 0 0),(.int .i64 0),(.int .i64 0),(.bool false)]) (b:=bo) (v':=(.int .i64 (Dd t))) rfl Ad AH rfl (Bo.cells rfl) rfl ?_))));exact ⟨⟨_,rfl,by unfold Ot;rw[if_neg hf];exact VF⟩,E⟩
 ·have ae:Dd t=0:=qO
  obtain ⟨ar,au,hu,ag,ak⟩:=JR ae;obtain ⟨M,hM⟩:∃M,M=CS t:=⟨_,rfl⟩;refine AO (AC (AA (qV (AK (vs:=[(I6 t.kind),(.slice sa t.set.length sc),(.slice aa t.args.length ac),(I6 t.mn),(I6 t.mx),(.bool t.neg)]) rfl Ad AH rfl (Br.cells rfl)) ?_)));obtain ⟨n1,ap⟩:∃n1,n1=w9.heap.size:=⟨_,rfl⟩;have hob:bo<n1∧w0.heap.size≤bo:=⟨by rw[ap];exact Bo.lt,qO⟩;refine qE rfl (AI (vs:=[(.agg (R6 t sa sc aa ac))]) func76 kQ kQ rfl) ((UL 300 t _ S _ au qO ar hu (AS.ext E t al) (fun y hy=>by have:=hS y hy;have:=E.size;omega)).mono (R':=fun r w=>E8 (fun b=>S b∨n1≤b) M r w∧Ae w9 w) (fun r w h=>⟨Cx (S':=fun b=>S b∨w9.heap.size≤b) (fun b hb=>by rcases hb with h1|h1;exact .inl h1;exact .inr qO) (by rw[hM];exact h.1),h.2⟩)) ?_;rintro _ an ⟨⟨xa,xc,ya,yc,rfl,hR⟩,ad⟩;replace Br:=ad.keep Br;replace Bo:=ad.keep Bo;replace E:=E.ext ad;have am:bo<(an).heap.size:=by have:=ad.size;omega
  refine qE rfl (AI (vs:=[(.agg (R6 M xa xc ya yc))]) func75 kQ kQ rfl) (UU M.size M _ _ (Nat.le_refl _) (by rw[hM];omega) (Kl M (by rw[hM];exact (HN ag).1)) (AS.at M hR)) ?_;rintro _ w59 ⟨⟨us,Z,L,rfl,aj,hZL,ab⟩,af⟩;replace Br:=af.keep Br;replace Bo:=af.keep Bo;replace E:=E.ext af;have ah:=Ix (S:=fun b=>bo<b) (fun x hx=>by have:=(ab x (.inl hx)).1;omega) M aj (fun x hx=>by have:=(ab x (.inr hx)).1;omega);obtain ⟨fa,fc,ga,gc,rfl,_,_,_⟩:=aj.form;refine Ab (b:=bo) (o:=0) (c':=(R6 M fa fc ga gc)) rfl rfl qS AH rfl Bo qL rfl ?_;intro w3 S3;replace ah:=AS.chg S3.chg (fun y hy h=>by have h2:y=bo:=h;have h3:bo<y:=hy;omega) _ ah;replace Br:=S3.keep qO Br;replace E:=S3.step E qQ;replace Bo:=S3.blk;refine qA (I6 0) rfl (AB (AJ (D6 results28 (vs:=[(.int .i64 M.kind),(.slice fa M.set.length fc),(.slice ga M.args.length gc),(.int .i64 M.mn),(.int .i64 M.mx),(.bool M.neg)]) (b:=bo) (v':=(.int .i64 0)) rfl Ad AH rfl (Bo.cells rfl) rfl ?_)));exact ⟨⟨_,by rw[ae],by unfold Ot;rw[if_pos ae,←hM];exact AS.mono (fun y (hy:bo<y)=>qO) _ ah⟩,E⟩
end Go.Proofs
namespace Go.Proofs
open Go Go.Eng Go.Sort
set_option maxRecDepth 100000
mutual
def Fg (P:List (Int×Int)->Prop):Re->Prop
  | .mk k s a _ _ _=>(k=2->P s)∧Js P a
def Js (P:List (Int×Int)->Prop):List Re->Prop
  | []=>True
  | t::ts=>Fg P t∧Js P ts
end
section
variable {P : List (Int × Int) → Prop}
theorem Me {a:List Re}:Js P a↔∀t∈a,Fg P t:=by
 induction a with
 | nil=>simp[Js]
 | cons t a ih=>simp only[Js,ih,List.mem_cons,forall_eq_or_imp]
theorem Fg.s {t:Re} (h:Fg P t):t.kind=2->P t.set:=by cases t;exact h.1
theorem Fg.a {t:Re} (h:Fg P t):∀x∈t.args,Fg P x:=by cases t;exact Me.1 h.2
end
end Go.Proofs
namespace Go.Proofs
open Go Go.Eng Go.Sort
theorem FG {α:Type} [DecidableEq α]:∀{l m:List α},l.Nodup->(∀x∈l,x∈m)->l.length<=m.length
 | [],_,_,_=>Nat.zero_le _
 | x::l,m,hd,h=>by
  have a:=List.nodup_cons.1 hd;have c:=h x List.mem_cons_self;have d:=FG (l:=l) (m:=m.erase x) a.2 λy b=>(List.mem_erase_of_ne (show y≠x from λe=>a.1 (by rw[<-e];exact b))).2 (h y (List.mem_cons_of_mem _ b));rw[List.length_erase_of_mem c] at d;have:=List.length_pos_of_mem c;simp only[List.length_cons];omega
def Kh:List Sp->List Int
  | []=>[]
  | s::l=>s.1::(s.2+1)::Kh l
theorem Kg:∀l:List Sp,(Kh l).length=2*l.length
 | []=>rfl
 | s::l=>by simp only[Kh,List.length_cons,Kg l];omega
theorem IH:∀{l:List Sp} {x:Int},x∈Kh l↔∃s∈l,x=s.1∨x=s.2+1
 | [],x=>by simp[Kh]
 | s::l,x=>by
  simp only[Kh,List.mem_cons,IH (l:=l),exists_eq_or_imp];constructor
  .rintro (h|h|h)
   .exact .inl (.inl h)
   .exact .inl (.inr h)
   .exact .inr h
  .rintro ((h|h)|h)
   .exact .inl h
   .exact .inr (.inl h)
   .exact .inr (.inr h)
theorem Qe:∀{l:List Sp},Canon l->(Kh l).Pairwise (· < ·)
 | [],_=>List.Pairwise.nil
 | s::l,h=>by
  have g:=h.head;unfold EZ at g;have f:=h.far;have a:∀x∈Kh l,s.2+1<x:=λx c=>by
   obtain ⟨t,e,b⟩:=IH.1 c;have:=f t e;have d:=h.tail.ok t e;unfold EZ at d;rcases b with b|b<;>omega
  refine List.Pairwise.cons (λx c=>?_) (List.Pairwise.cons (λx c=>a x c) (Qe h.tail));rcases List.mem_cons.1 c with b|b
  .omega
  .have:=a x b;omega
theorem P8 {p:List Int} {f:Int->Bool} {c:List Sp} (D:(0:Int)∈p) (Q:Mi f p) (h:Fc c f) {s:Sp} (J:s∈c):s.1∈p∧(s.2<1114111->s.2+1∈p):=by
 have I:=h.1.ok s J;unfold EZ at I;have B:∀t∈c,t=s∨t.2+2<=s.1∨s.2+2<=t.1:=by
  intro t H;have P:=h.1.gap;obtain ⟨i,hi⟩:=List.getElem?_of_mem J;obtain ⟨j,G⟩:=List.getElem?_of_mem H;have u:=AM hi;have v:=AM G;rw[List.getElem?_eq_getElem u] at hi;rw[List.getElem?_eq_getElem v] at G;cases hi;cases G;rcases Nat.lt_trichotomy i j with m|m|m
  .exact .inr (.inr (List.pairwise_iff_getElem.1 P i j u v m))
  .subst m;exact .inl O
  .exact .inr (.inl (List.pairwise_iff_getElem.1 P j i v u m))
 have q:∀r,(r=s.1 - 1∨r=s.2+1)->Cu c r=false:=by
  intro r hr;cases hh:Cu c r with
  | false=>rfl
  | true=>
   obtain ⟨t,H,m,F⟩:=E0.1 hh;rcases B t H with d|d|d
   .subst d;omega
   .omega
   .omega
 have E:∀r,s.1<=r->r<=s.2->f r=true:=λr m F=>by rw[<-h.2 r qO qO];exact E0.2 ⟨s,J,m,F⟩
 -- between the greatest cut at or below a point and the point f is constant
 have z:∀x:Int,1<=x->x<=1114111->f (x - 1)≠f x->x∈p:=by
  intro x m F N;apply Classical.byContradiction;intro R
  -- the greatest cut below x
  obtain ⟨a,w,o,A⟩:∃a∈p,a<=x - 1∧∀k∈p,k<=x - 1->k<=a:=by
   have:∀l:List Int,(∃a∈l,a<=x - 1)->∃a∈l,a<=x - 1∧∀k∈l,k<=x - 1->k<=a:=by
    intro l
    induction l with
    | nil=>rintro ⟨a,w,_⟩;cases w
    | cons y l ih=>
     rintro ⟨a,w,o⟩;by_cases M:∃a∈l,a<=x - 1
     .obtain ⟨b,hb,K,C⟩:=ih M;by_cases S:y<=x - 1∧b<y
      .exact ⟨y,List.mem_cons_self,S.1,λk n g=>by rcases List.mem_cons.1 n with rfl|d;omega;have:=C k d g;omega⟩
      .exact ⟨b,List.mem_cons_of_mem _ hb,K,λk n g=>by rcases List.mem_cons.1 n with rfl|d;omega;exact C k d g⟩
     .rcases List.mem_cons.1 w with rfl|d
      .exact ⟨a,List.mem_cons_self,o,λk n g=>by rcases List.mem_cons.1 n with rfl|L;omega;exact absurd ⟨k,L,g⟩ M⟩
      .exact absurd ⟨a,d,o⟩ M
   exact this p ⟨0,D,qO⟩
  have hb:∀k∈p,k<=a∨x<k:=λk n=>by
   rcases Int.lt_or_le x k with d|d
   .exact .inr d
   .left;refine A k n ?_;rcases Int.lt_or_le k x with L|L
    .omega
    .have e:x=k:=qO
     exact absurd (e▸n) R
  have U:=Q a x w qO F hb;have T:=Q a (x - 1) w o qO λk n=>by rcases hb k n with d|d;exact .inl d;right;omega
  exact N (T.trans U.symm)
 constructor
 .rcases Int.lt_or_le 0 s.1 with V|V
  .refine z s.1 qO qO ?_;rw[E s.1 (Int.le_refl _) I.2.1,<-h.2 (s.1 - 1) qO qO,q _ (.inl O)];decide
  .have:s.1=0:=qO
   rw[this];exact D
 .intro m;refine z (s.2+1) qO qO ?_;rw[show s.2+1 - 1=s.2 by omega,E s.2 I.2.1 (Int.le_refl _),<-h.2 (s.2+1) qO qO,q _ (.inr O)];decide
theorem SA {p:List Int} {f:Int->Bool} {c:List Sp} (b:(0:Int)∈p) (j:Mi f p) (h:Fc c f):2*c.length<=p.length+1:=by
 have n:=Qe h.1;have o:(Kh c).Nodup:=n.imp λd=>qO
 have g:=FG (l:=Kh c) (m:=1114112::p) o λx d=>by
  obtain ⟨s,e,a⟩:=IH.1 d;have k:=h.1.ok s e;unfold EZ at k;obtain ⟨r,q⟩:=P8 b j h e;rcases a with a|a
  .rw[a];exact List.mem_cons_of_mem _ r
  .rcases Int.lt_or_le s.2 1114111 with i|i
   .rw[a];exact List.mem_cons_of_mem _ (q i)
   .rw[a,show s.2+1=1114112 by omega];exact List.mem_cons_self
 rw[Kg] at g;simpa using g
theorem VK {l:List Sp} {p:List Int} (h:FR l p):p.length<=2*l.length+1:=by
 have b:=FG (l:=p) (m:=0::Kh l) (h.1.imp λc=>qO) λx c=>by
  rcases (h.2 x).1 c with a|⟨s,d,a⟩
  .rw[a];exact List.mem_cons_self
  .refine List.mem_cons_of_mem _ (IH.2 ⟨s,d,?_⟩);rcases a with a|⟨_,a⟩
   .exact .inl a
   .exact .inr a
 rw[List.length_cons,Kg] at b;exact b
theorem Pr {ll:List (List Sp)} {p:List Int} (g:FR ll.flatten p) (b:List Bool):Mi (λr=>decide (A' ll r=b)) p:=by
 intro a r e c d hb;have:A' ll r=A' ll a:=by
  unfold A';apply List.map_congr_left;intro l f;exact L4 g f a r e c d hb
 show decide (A' ll r=b)=decide (A' ll a=b);rw[this]
structure FirstAt (l:List (List Bool)) (ks:List (List Bool)) (js:List Nat):Prop where
 len:js.length=ks.length
 lt:js.Pairwise (· < ·)
 at':∀(k j:Nat) key,js[k]?=some j->ks[k]?=some key->l[j]?=some key∧∀i,i<j->l[i]?≠some key
theorem UE (l:List (List Bool)):∃g,FirstAt l (C1 l) g∧(∀j∈g,j<l.length)∧∀m∈l,m∈C1 l:=by
 suffices h:∀n,n<=l.length->∃g,FirstAt (l.take n) (C1 (l.take n)) g∧(∀j∈g,j<n)∧∀m∈l.take n,m∈C1 (l.take n) by
  have:=h l.length (Nat.le_refl _)
  rwa [List.take_length] at this
 intro n
 induction n with
 | zero=>intro _;exact ⟨[],⟨O,List.Pairwise.nil,λk j c h=>by simp at h⟩,λj h=>(by cases h),λm h=>(by simp at h)⟩
 | succ n ih=>
  intro hn;obtain ⟨g,o,hb,y⟩:=ih qO;obtain ⟨x,z⟩:=AX (l:=l) (i:=n) qO;rw[E5 z,Jn];have v:(l.take n).length=n:=by simp;omega
  have e:∀(i:Nat) c,i<n->((l.take n++[x])[i]?=some c↔(l.take n)[i]?=some c):=λi c hi=>by rw[List.getElem?_append_left qO]
  unfold Hi;split
  .rename_i f
   refine ⟨g,⟨o.len,o.lt,λk j c d p=>?_⟩,λj w=>by have:=hb j w;omega,λm h=>?_⟩
   .have q:=hb j (List.mem_of_getElem? d);obtain ⟨r,u⟩:=o.at' k j c d p;exact ⟨(e j c q).2 r,λi hi t=>u i hi ((e i c qO).1 t)⟩
   .rcases List.mem_append.1 h with d|d
    .exact y m d
    .rw[List.mem_singleton] at d;rw[d];exact f
  .rename_i f
   refine ⟨g++[n],⟨by simp[o.len],?_,λk j c d p=>?_⟩,λj w=>?_,λm h=>?_⟩
   .rw[List.pairwise_append];exact ⟨o.lt,List.pairwise_singleton _ _,λa B b s=>by rw[List.mem_singleton] at s;subst s;exact hb a B⟩
   .rcases Nat.lt_or_ge k g.length with r|r
    .rw[List.getElem?_append_left r] at d;rw[List.getElem?_append_left (by rw[<-o.len];exact r)] at p;have q:=hb j (List.mem_of_getElem? d);obtain ⟨u,t⟩:=o.at' k j c d p;exact ⟨(e j c q).2 u,λi hi A=>t i hi ((e i c qO).1 A)⟩
    .rw[List.getElem?_append_right r] at d;rw[List.getElem?_append_right (by rw[<-o.len];exact r)] at p;have u:=AM d;simp at u;rw[show k - g.length=0 by omega] at d;rw[show k - (C1 (l.take n)).length=0 by have:=o.len;omega] at p;simp at d p;subst d;subst p;refine ⟨by rw[List.getElem?_append_right qO,v,Nat.sub_self];rfl,λi hi t=>f (y _ (List.mem_of_getElem? ((e i _ hi).1 t)))⟩
   .rcases List.mem_append.1 w with d|d
    .have:=hb j d;omega
    .rw[List.mem_singleton] at d;omega
   .rcases List.mem_append.1 h with d|d
    .exact List.mem_append_left _ (y m d)
    .exact List.mem_append_right _ d
theorem P2 {c:List Sp} {m:Int} (h:Canon c) (b:Cu c m=true) (g:∀r,0<=r->r<m->Cu c r=false):c≠[]∧Bl c=m:=by
 cases c with
 | nil=>cases b
 | cons s l=>
  refine ⟨λe=>(by cases e),?_⟩;have d:=h.head;unfold EZ at d;show s.1=m;rcases Int.lt_trichotomy s.1 m with a|a|a
  .have:=g s.1 qO a;have f:Cu (s::l) s.1=true:=E0.2 ⟨s,List.mem_cons_self,Int.le_refl _,d.2.1⟩;rw[this] at f;cases f
  .exact a
  .rw[HF h a] at b;cases b
structure Parted (ll cs:List (List Sp)):Prop where
 can:∀c∈cs,Canon c
 part:Px cs
 heads:T7 cs
 mark:∀(k:Nat) c r,cs[k]?=some c->0<=r->r<=1114111->(Cu c r=true↔A' ll r=A' ll (Bl c))
 low:∀c∈cs,0<=Bl c∧Bl c<=1114111
 inj:∀(i j:Nat) c d,cs[i]?=some c->cs[j]?=some d->A' ll (Bl c)=A' ll (Bl d)->i=j
theorem HE.parted {ll cs:List (List Sp)} (h:HE ll cs) (M:∀s∈ll.flatten,EZ s):Parted ll cs:=by
 obtain ⟨p,Q,hl,hm⟩:=h;obtain ⟨V,F,hb,S⟩:=UE (p.map (A' ll));have n:∀(k:Nat) c,cs[k]?=some c->∃f j lo,(C1 (p.map (A' ll)))[k]?=some f∧V[k]?=some j∧p[j]?=some lo∧A' ll lo=f∧Fc c (λr=>decide (A' ll r=f))∧c≠[]∧Bl c=lo∧0<=lo∧lo<=1114111:=by
  intro k c o;obtain ⟨f,w⟩:=AX (l:=C1 (p.map (A' ll))) (i:=k) (by have:=AM o;omega);obtain ⟨j,t⟩:=AX (l:=V) (i:=k) (by have:=AM w;have:=F.len;omega);obtain ⟨E,x⟩:=F.at' k j f t w;rw[List.getElem?_map] at E;obtain ⟨lo,g,R⟩:=Option.map_eq_some_iff.1 E;have z:=hm k f c w o;have C:=EP Q M (List.mem_of_getElem? g);obtain ⟨e1,e2⟩:=P2 (m:=lo) z.1 (by rw[z.2 lo C.1 C.2];exact decide_eq_true R) λr B J=>by
   rw[z.2 r B qO,decide_eq_false_iff_not];intro hr;obtain ⟨i,li,A,H,_,h6⟩:=I' Q M j (by have:=AM g;omega) r B (by rw[WB g];exact J);have ae:i<j:=by
    rcases Nat.lt_or_ge i j with h7|h7
    .exact h7
    .exfalso;have h8:lo<=li:=by
      rcases Nat.lt_or_ge j i with U|U
      .have q:=AM g;have u:=AM A;rw[List.getElem?_eq_getElem q] at g;rw[List.getElem?_eq_getElem u] at A;cases g;cases A;exact Int.le_of_lt (List.pairwise_iff_getElem.1 Q.1 j i q u U)
      .obtain rfl:i=j:=qO
       rw[g] at A;cases A;exact Int.le_refl _
     omega
   exact x i ae (by rw[List.getElem?_map,A,Option.map_some,<-h6,hr])
  exact ⟨f,j,lo,w,t,g,R,z,e1,e2,C.1,C.2⟩
 have W:∀(i j:Nat) f,(C1 (p.map (A' ll)))[i]?=some f->(C1 (p.map (A' ll)))[j]?=some f->i=j:=by
  intro i j f hi t;obtain ⟨a,T⟩:=AX (l:=V) (i:=i) (by have:=AM hi;have:=F.len;omega);obtain ⟨b,D⟩:=AX (l:=V) (i:=j) (by have:=AM t;have:=F.len;omega);obtain ⟨E,x⟩:=F.at' i a f T hi;obtain ⟨v,A⟩:=F.at' j b f D t;have ad:a=b:=by
   rcases Nat.lt_trichotomy a b with H|H|H
   .exact absurd E (A a H)
   .exact H
   .exact absurd v (x b H)
  subst ad;have u:=AM T;have q:=AM D;rw[List.getElem?_eq_getElem u] at T;rw[List.getElem?_eq_getElem q] at D;have e:=(Option.some.inj T).trans (Option.some.inj D).symm;rcases Nat.lt_trichotomy i j with v|v|v
  .have:=List.pairwise_iff_getElem.1 F.lt i j u q v;omega
  .exact v
  .have:=List.pairwise_iff_getElem.1 F.lt j i q u v;omega
 have I:∀(i j:Nat) c d,cs[i]?=some c->cs[j]?=some d->A' ll (Bl c)=A' ll (Bl d)->i=j:=by
  intro i j c d o hd R;obtain ⟨f,_,lo,E,_,_,x,_,_,v,_⟩:=n i c o;obtain ⟨key',_,af,X,_,_,aa,_,_,ac,_⟩:=n j d hd;rw[v,ac,x,aa] at R;subst R;exact W i j f E X
 have L:∀(k:Nat) c r,cs[k]?=some c->0<=r->r<=1114111->(Cu c r=true↔A' ll r=A' ll (Bl c)):=by
  intro k c r o B J;obtain ⟨f,_,lo,_,_,_,x,z,_,v,_⟩:=n k c o;rw[z.2 r B J,decide_eq_true_eq,v,x]
 refine ⟨?_,?_,?_,L,?_,I⟩
 .intro c o;obtain ⟨k,w⟩:=List.getElem?_of_mem o;obtain ⟨_,_,_,_,_,_,_,z,_⟩:=n k c w;exact z.1
 .intro r B J;obtain ⟨lo,g,ah⟩:=TL Q M B J;have Z:=S (A' ll lo) (List.mem_map.2 ⟨lo,g,O⟩);obtain ⟨k,w⟩:=List.getElem?_of_mem Z;obtain ⟨c,o⟩:=AX (l:=cs) (i:=k) (by have:=AM w;omega);have z:=hm k _ c w o;have E:Cu c r=true:=by rw[z.2 r B J];exact decide_eq_true ah
  have G:∀(j:Nat) d,cs[j]?=some d->Cu d r=true->j=k:=λj d hd x=>
   I j k d c hd o (((L j d r hd B J).1 x).symm.trans ((L k c r o B J).1 E))
  have hkl:=AM o;rw[show cs=cs.take k++c::cs.drop (k+1) by rw[<-C7 o,List.take_append_drop],List.countP_append,List.countP_cons,E];have z1:(cs.take k).countP (λl=>Cu l r)=0:=by
   rw[List.countP_eq_zero];intro d hd x;obtain ⟨j,t⟩:=List.getElem?_of_mem hd;have q:=AM t;simp at q;rw[List.getElem?_take_of_lt qO] at t;have:=G j d t x;omega
  have z2:(cs.drop (k+1)).countP (λl=>Cu l r)=0:=by
   rw[List.countP_eq_zero];intro d hd x;obtain ⟨j,t⟩:=List.getElem?_of_mem hd;rw[List.getElem?_drop] at t;have:=G _ d t x;omega
  rw[z1,z2];rfl
 .intro k w;obtain ⟨c,o⟩:=AX w;obtain ⟨_,j,lo,_,t,g,_,_,ag,hh,h0,_⟩:=n k c o;have P:cs.getD k []=c:=by simp[List.getD,o]
  refine ⟨by rw[P];exact ag,?_⟩;rw[P,hh];cases k with
  | zero=>show (-1:Int)<lo;omega
  | succ k=>
   obtain ⟨d,hd⟩:=AX (l:=cs) (i:=k) qO;obtain ⟨_,j',af,_,K,y,_,_,_,ab,_⟩:=n k d hd;have N:cs.getD k []=d:=by simp[List.getD,hd]
   show Bl (cs.getD k [])<lo;rw[N,ab];have a1:=AM t;have a2:=AM K;rw[List.getElem?_eq_getElem a1] at t;rw[List.getElem?_eq_getElem a2] at K;cases t;cases K;have U:=List.pairwise_iff_getElem.1 F.lt k (k+1) a2 a1 qO;have b1:=AM g;have b2:=AM y;rw[List.getElem?_eq_getElem b1] at g;rw[List.getElem?_eq_getElem b2] at y;cases g;cases y;exact List.pairwise_iff_getElem.1 Q.1 _ _ b2 b1 U
 .intro c o;obtain ⟨k,w⟩:=List.getElem?_of_mem o;obtain ⟨_,_,lo,_,_,_,_,_,_,v,A,H⟩:=n k c w;rw[v];exact ⟨A,H⟩
theorem HE.short {ll cs:List (List Sp)} (h:HE ll cs):∀c∈cs,2*c.length<=2*ll.flatten.length+2:=by
 obtain ⟨p,d,hl,g⟩:=h;intro c f;obtain ⟨k,e⟩:=List.getElem?_of_mem f;obtain ⟨b,a⟩:=AX (l:=C1 (p.map (A' ll))) (i:=k) (by have:=AM e;omega);have h1:=SA ((d.2 0).2 (.inl O)) (Pr d b) (g k b c a e);have h2:=VK d;omega
theorem NI:∀(l:List (List Bool)),(C1 l).Nodup:=by
 intro l
 suffices h:∀(l a:List (List Bool)),a.Nodup->(l.foldl Hi a).Nodup from h l [] List.nodup_nil
 intro l
 induction l with
 | nil=>exact λa h=>h
 | cons x l ih=>exact λa h=>ih _ (LI h)
theorem P4 (l:List (List Bool)):∀m∈C1 l,m∈l:=by
 suffices h:∀(l a:List (List Bool)),∀m∈l.foldl Hi a,m∈a∨m∈l by
  intro m d;rcases h l [] m d with b|b
  .cases b
  .exact b
 intro l
 induction l with
 | nil=>exact λa m h=>.inl h
 | cons x l ih=>
  intro a m h;rcases ih _ m h with b|b
  .rcases PK.1 b with c|c
   .exact .inl c
   .rw[c];exact .inr List.mem_cons_self
  .exact .inr (List.mem_cons_of_mem _ b)
end Go.Proofs
namespace Go.Proofs
open Go Go.Eng Go.Sort
set_option maxRecDepth 100000
def Gu (s:List (List Sp)) (t:Re):List (List Sp):=if t.kind=2∧t.set∉s then s++[t.set] else s
def CE (t:Re):List (List Sp):=(LV t).foldl Gu []
theorem LH {x:List Sp}:∀{l:List Re} {s:List (List Sp)},x∈l.foldl Gu s↔x∈s∨∃t∈l,t.kind=2∧x=t.set
  | [],s=>qP
  | t::l,s=>by
    rw[List.foldl_cons,LH];have e:x∈Gu s t↔x∈s∨(t.kind=2∧x=t.set):=by
      unfold Gu;split
      · rename_i h
        simp[h.1]
      · rename_i h
        constructor
        · exact .inl
        · rintro (h1|⟨h1,rfl⟩)
          · exact h1
          · exact Classical.byContradiction λh2=>h ⟨h1,h2⟩
    rw[e];constructor
    · rintro ((h|h)|⟨u,hu,h⟩)
      · exact .inl h
      · exact .inr ⟨t,qP,h⟩
      · exact .inr ⟨u,by simp[hu],h⟩
    · rintro (h|⟨u,hu,h⟩)
      · exact .inl (.inl h)
      · rcases List.mem_cons.1 hu with rfl|hu
        · exact .inl (.inr h)
        · exact .inr ⟨u,hu,h⟩
theorem PJ:∀(l:List Re) (s:List (List Sp)),(l.foldl Gu s).length<=s.length+l.length
 | [],s=>qP
 | t::l,s=>by
  have h:=PJ l (Gu s t);have h2:(Gu s t).length<=s.length+1:=by
   unfold Gu;split
   .simp
   .omega
  rw[List.foldl_cons,List.length_cons];omega
mutual
theorem PF {P:List Sp->Prop}:∀{t:Re},(∀u∈LV t,u.kind=2->P u.set)->Fg P t
 | .mk k s a m x g,h=>by
  rw[Mz] at h;exact ⟨h (.mk k s a m x g) qP,Mf λu b=>h u (by simp only[List.mem_cons];exact .inr b)⟩
theorem Mf {P:List Sp->Prop}:∀{b:List Re},(∀u∈FY b,u.kind=2->P u.set)->Js P b
 | [],_=>trivial
 | t::b,h=>by
  simp only[FY,List.mem_append] at h;exact ⟨PF λu a=>h u (.inl a),Mf λu a=>h u (.inr a)⟩
end
mutual
theorem OF {P:List Sp->Prop}:∀{t:Re},Fg P t->∀u∈LV t,u.kind=2->P u.set
 | .mk k s a m x g,h,u,b=>by
  rw[Mz] at b;rcases List.mem_cons.1 b with rfl|b
  .exact h.1
  .exact Ly h.2 u b
theorem Ly {P:List Sp->Prop}:∀{b:List Re},Js P b->∀u∈FY b,u.kind=2->P u.set
 | [],_,u,a=>by simp[FY] at a
 | t::b,h,u,a=>by
  simp only[FY,List.mem_append] at a;rcases a with a|a
  .exact OF h.1 u a
  .exact Ly h.2 u a
end
theorem Nv {P:List Sp->Prop} {t:Re} (h:∀s∈CE t,P s):Fg P t:=
 PF λu b a=>h u.set (LH.2 (.inr ⟨u,b,a,O⟩))
theorem Ip {P:List Sp->Prop} {t:Re} (h:Fg P t):∀s∈CE t,P s:=λs c=>by
 rcases LH.1 c with a|⟨u,d,b,rfl⟩
 .cases a
 .exact OF h u d b
theorem Nn (t:Re):(CE t).length<=t.size:=by
 have:=PJ (LV t) [];rw[OG] at this;simpa[CE] using this
mutual
theorem GW:∀{t:Re},CY t->C_ [9,10] t=false->Fg (λs=>BT s=0) t
 | .mk k s a m x g,h,hu=>by
  obtain ⟨c,i⟩:=HL hu;have f:k≠9:=λe=>by subst e;simp at c
  have b:k≠10:=λe=>by subst e;simp at c
  exact ⟨λd=>((Ph (t:=.mk k s a m x g) h f b O).k2 d).2,Ja (DL h) i⟩
theorem Ja:∀{a:List Re},DB a->DO [9,10] a=false->Js (λs=>BT s=0) a
 | [],_,_=>trivial
 | t::a,h,hu=>by
  simp only[DB] at h;simp only[DO,Bool.or_eq_false_iff] at hu;exact ⟨GW h.1 hu.1,Ja h.2 hu.2⟩
end
theorem UX:∀(l:List (Int×Int)) (p:Option Int),EV p l=0->∀s∈l,EZ s:=by
 intro l
 induction l with
 | nil=>simp
 | cons a l ih=>
  intro p h s c;rw[Ek] at h;by_cases b:Fd a=false
  .rw[if_pos b] at h;simp at h
  rw[if_neg b] at h;have d:EV (some a.2) l=0:=by
   split at h
   .split at h
    .simp at h
    .exact h
   .simpa using h
  rcases List.mem_cons.1 c with rfl|c
  .simp[Fd] at b;exact ⟨qO,qO,qO⟩
  .exact ih _ d s c
theorem LA {s:List Sp} (h:BT s=0):(∀p∈s,EZ p)∧s.length<=16:=by
 unfold BT at h;split at h
 .cases h
 .exact ⟨UX _ _ h,qO⟩
theorem XB {ll:List (List Sp)} (h:∀l∈ll,BT l=0):∀s∈ll.flatten,EZ s:=λs b=>by
 obtain ⟨l,c,a⟩:=List.mem_flatten.1 b;exact (LA (h l c)).1 s a
theorem UB {ll:List (List Sp)} (h:∀l∈ll,BT l=0):ll.flatten.length<=16*ll.length:=by
 induction ll with
 | nil=>simp
 | cons l ll ih=>
  have h1:=(LA (h l qP)).2;have h2:=ih λx a=>h x (by simp[a]);rw[List.flatten_cons,List.length_append,List.length_cons];omega
end Go.Proofs
namespace Go.Proofs
open Go Go.Eng Go.Sort
set_option maxRecDepth 100000
def U' (l:List Sp):Nat×List Value:=(l.length,(l.map BK).flatten)
theorem LSt.spss {w:World} {base:Nat} {e:Value} {vs:List Value} {ll:List (List Sp)} (h:LSt RF NW 2 w base e vs (ll.map U')):Dm w e ll:=by
 have a:vs.length=ll.length:=by simpa using h.len
 refine ⟨vs,?_,a,λi u l f a=>?_⟩
 .have c:=h.o;rw[show vs=(vs.map λx=>[x]).flatten by simp[List.flatten_eq_flatMap,List.flatMap_map]] at c;exact EA c (by intro r d;simp only[List.mem_map] at d;obtain ⟨x,_,rfl⟩:=d;rfl) (by simp[a]) qD
 .have b:=h.inn i u (U' l) f (by rw[List.getElem?_map,a];rfl);exact LK.at ⟨Be b,b⟩
end Go.Proofs
namespace Go.Proofs
open Go Go.Eng Go.Sort
set_option maxRecDepth 100000
theorem WQ {S:Type} (F:S→Re→Bool×S) (Inv:S→(Nat→Prop)→World→Prop) (Pn:Re→Prop) (fv:Value) (wb:World)
    (hb:∀s D w,Inv s D w→∀b,D b→wb.heap.size≤b∧b<w.heap.size)
    (hst:∀s D w w',Inv s D w→Ae w w'→Inv s D w')
    (hP:∀t,Pn t→∀x∈t.args,Pn x)
    (hf:∀s D w t vs,Ae wb w→Pn t→Inv s D w→A4 wb t vs→Bh prog fv #[.agg vs.toArray] w fun v w'=>∃D',v=.bool (F s t).1∧Chg D w w'∧Inv (F s t).2 D' w'∧∀b,D' b→D b∨w.heap.size≤b) :
    ∀n t,t.size≤n→Pn t→∀s (D:Nat→Prop) w0 vs,Ae wb w0→Inv s D w0→A4 wb t vs→
      Bi prog 69 #[.agg vs.toArray,fv] w0 fun v w'=>∃D',v=.bool (CU F t s).1∧Chg D w0 w'∧Inv (CU F t s).2 D' w'∧∀b,D' b→D b∨w0.heap.size≤b:=by
  have ae:∀{D:Nat→Prop} {w w':World},Ae wb w→(∀b,D b→wb.heap.size≤b)→Chg D w w'→Ae wb w':=fun e h c=>Chg.step e c fun x hx hm=>by have:=h x hm;omega
  intro n
  induction n with
  | zero=>intro t ht;have:=t.size_pos;omega
  | succ n ih=>
  intro t hn a0 s D w0 vs hE hI ht;obtain ⟨sa,sc,aa,ac,rfl,a3,a5,af⟩:=ht.form;have al:=hb s D w0 hI;rw[Ee];refine EY func69 rfl ntmps69 (Qo rfl) ?_;have E:Chg D w0 w0:=Chg.refl _ _;refine AA (BL (v:=(.agg (R6 t sa sc aa ac))) (c:=(R6 t sa sc aa ac)) qD rfl rfl ?_);intro br wr Nr;have Fr:=Nr.ge E;replace hI:=hst _ _ _ _ hI Nr.ext;replace E:=E.ext Nr.ext;have Br:=Nr.blk;refine qA (.bool false) rfl (AB (AG (AA (qM fv rfl (qV (AK (vs:=[(I6 t.kind),(.slice sa t.set.length sc),(.slice aa t.args.length ac),(I6 t.mn),(I6 t.mx),(.bool t.neg)]) rfl Ad AH rfl (Br.cells rfl)) (DN (fv:=fv) (vs:=[(.agg (R6 t sa sc aa ac))]) qD rfl rfl (hf s D _ t _ (hE.trans Nr.ext) a0 hI ht) ?_))))));rintro _ w2 ⟨D1,rfl,C2,hI,aw⟩;replace Br:=C2.keep (fun h=>by have:=(al _ h).2;omega) Br;replace E:=E.trans C2;have hE2:Ae wb w2:=ae hE (fun b h=>(al b h).1) E;have ai:∀b,D1 b→D b∨w0.heap.size≤b:=fun b h=>(aw b h).imp id (fun h=>by have:=Nr.size;omega);have an:∀b,D1 b→b≠br:=fun b h e=>by rcases aw b h with h|h;have:=(al b h).2;have:=Nr.eq;omega;have:=Nr.size;have:=Nr.eq;omega
  refine qV (Dg (b:=(F s t).1) rfl) (AB (A_ (b:=!((F s t).1)) rfl (fun h=>?_) (fun h=>?_)))
  · have kh:=h;replace h:=by simpa using h
    refine AA (qA (.bool false) rfl (AB (AJ (AP (AV results69 (v:=(.bool false)) rfl ?_)))));exact ⟨D1,by rw[if_neg (by simp[h])],E,by rw[if_neg (by simp[h])];exact hI,ai⟩
  · have kh:=h;replace h:=by simpa using h
    rw[if_pos (by simpa using h)];generalize (F s t).2=s1 at hI⊢;have z2:br<w2.heap.size:=by have:=C2.size;have:=Nr.size;have:=Nr.eq;omega
    refine AO (AC (AG (AA (qF br 0 2 rfl underlying25 rfl CG rfl (qV (AL (v:=(.slice aa t.args.length ac)) rfl B0 (Br.cell rfl)) (qV (Aa (ad:=aa) (n:=t.args.length) (cap:=ac) underlying23 rfl) (qM (I6 0) rfl (AB (AU (Av (fun nn_ σ W2=>∃(k:Nat) (s':S) (D2:Nat→Prop),(∃jj_,σ=Bj jj_ [(1,fv),(12,(.slice aa t.args.length ac)),(13,(I6 (t.args.length:Int))),(14,(I6 (k:Int)))])∧Chg D w0 W2∧BH W2 br (R6 t sa sc aa ac) 25∧(k≤t.args.length)∧(Inv s' D2 W2)∧(CO F t.args s1=CO F (t.args.drop k) s')∧(∀b,D2 b→D b∨w0.heap.size≤b)∧(∀b,D2 b→b≠br)∧(br<W2.heap.size)∧nn_=t.args.length - k) (n:=t.args.length - 0) ?_ ?_))))))))))
    · exact ⟨0,s1,D1,Am.out ⟨rfl,rfl,rfl,rfl,trivial⟩,E,Br,Nat.zero_le _,hI,rfl,ai,an,z2,rfl⟩
    · clear E Br;rintro _ _ W2 ⟨k,s',D2,⟨j2,rfl⟩,E,Br,hk,hI,ab,ap,ao,hz,rfl⟩;have ax:=hb s' D2 _ hI;have hE1:=E.size;refine AA (qV (BE (k:=.i64) (a:=(k:Int)) (b:=(t.args.length:Int)) rfl rfl) (AB (AG (qC rfl (fun a6=>?_) (fun a6=>?_)))))
      · obtain ⟨x,hx⟩:=AX (l:=t.args) (i:=k) qO;obtain ⟨b,o,rfl,aq⟩:∃b o,aa=some ⟨b,o,none⟩∧CB wb b o t.args:=by
          rcases af with h|h
          · rw[h] at hx;simp at hx
          · exact h
        obtain ⟨us,a4,az⟩:=aq.get hx;have am:=az;obtain ⟨ag,aj,ak,ah,rfl,_,_,_⟩:=az.form;have ay:Ae wb _:=ae hE (fun b h=>(al b h).1) E;have hsz:=Re.size_arg hx;refine AO (AC (AG (AU (AA (qV (AN (b:=b) (o:=o) (len:=t.args.length) (cap:=ac) (i:=k) (o':=o+k*6) rfl rfl rfl underlying23 AH qO qO) (qV (AK (vs:=[(I6 x.kind),(.slice ag x.set.length aj),(.slice ak x.args.length ah),(I6 x.mn),(I6 x.mx),(.bool x.neg)]) rfl Ad AH rfl (a4.ext ay)) (As (v:=(.agg (R6 x ag aj ak ah))) (c:=(R6 x ag aj ak ah)) (n:=6) qD A9 rfl AH rfl rfl rfl qS ?_)))))));intro bz wz Nz;have Fz:=Nz.ge E;have Oz_br:=Nz.lt Br;replace Br:=Nz.keep Br;replace hI:=hst _ _ _ _ hI Nz.ext;replace E:=E.ext Nz.ext;have Bz:=Nz.blk;refine AB (AA (qV (AK (vs:=[(I6 x.kind),(.slice ag x.set.length aj),(.slice ak x.args.length ah),(I6 x.mn),(I6 x.mx),(.bool x.neg)]) rfl Ad AH rfl (Bz.cells rfl)) (qM fv rfl (qE rfl (AI (vs:=[(.agg (R6 x ag aj ak ah)),fv]) func69 kQ kQ rfl) (ih x qO (hP t a0 x (List.mem_of_getElem? hx)) s' D2 _ _ (ay.trans Nz.ext) hI am) ?_))));rintro _ w9 ⟨D4,rfl,C9,hI,au⟩;replace Br:=C9.keep (fun h=>by have h1:=ao _ h;have h2:=(ax _ h).2;first|exact h1 rfl|(have:=Nz.eq;omega)) Br;replace Bz:=C9.keep (fun h=>by have h1:=ao _ h;have h2:=(ax _ h).2;first|exact h1 rfl|(have:=Nz.eq;omega)) Bz;replace E:=E.step C9 (fun y hy h=>(ap y h).resolve_right qO);have a2:=C7 hx;rw[a2,C'] at ab;have av:∀b,D4 b→D b∨w0.heap.size≤b:=fun b h=>by rcases au b h with h|h;exact ap b h;exact .inr (by have:=Nz.size;omega)
        have ar:∀b,D4 b→b≠br:=fun b h e=>by rcases au b h with h|h;exact ao b h e;have:=Nz.size;omega
        refine qV (Dg (b:=(CU F x s').1) rfl) (AB (A_ (b:=!((CU F x s').1)) rfl (fun h2=>?_) (fun h2=>?_)))
        · have a7:=h2;replace h2:=by simpa using h2
          refine AA (qA (.bool false) rfl (AB (AJ (Ac (AP (AP (Ac (AP (AV results69 (v:=(.bool false)) rfl ?_)))))))));exact ⟨D4,by rw[ab,if_neg (by simp[h2])],E,by rw[ab,if_neg (by simp[h2])];exact hI,av⟩
        · have a7:=h2;replace h2:=by simpa using h2
          rw[if_pos (by simpa using h2)] at ab;refine AO (AQ (AC (AR (qV (Ax (k:=.i64) (a:=(k:Int)) (b:=1) (c:=(k:Int)+1) rfl rfl (A8 qO)) (qM (I6 ((k:Int)+1)) rfl (AB (AC ?_)))))));exact ⟨t.args.length - (k+1),qO,k+1,(CU F x s').2,D4,Am.out ⟨rfl,rfl,rfl,rfl,trivial⟩,E,Br,qO,hI,ab,av,ar,(by have:=C9.size;have:=Nz.size;omega),rfl⟩
      · have a1:k=t.args.length:=qO
        rw[a1,List.drop_length] at ab;refine Aw (AZ (AZ (Ap (AC (AA (qA (.bool true) rfl (AB (AJ (AV results69 (v:=(.bool true)) rfl ?_)))))))));exact ⟨D2,by rw[ab];rfl,E,by rw[ab];exact hI,ap⟩
end Go.Proofs
namespace Go.Proofs
open Go Go.Eng Go.Sort
set_option maxRecDepth 100000
abbrev Xw:Nat:=34
theorem PX (c:World) (v fv:Value) (ll:List (List Sp)) (p:List Sp->Bool) (h:Dm c v ll) (d:∀(w:World) (u:Value) (l:List Sp),Ae c w->BD w u l->l∈ll->Bh prog fv #[u] w λr w'=>r=.bool (p l)∧Ae w w') :
 Bi prog 71 #[v,fv] c λr w=>r=.bool (ll.any p)∧Ae c w:=by
 refine qR func71 O ntmps71 O (λE=>(AA (qA (.bool false) O (AB (AA (qM v O (qM fv O (qE O (AI (vs:=[v,fv]) func112 kQ kQ O) (KN _ v fv ll p h d) ?_))))))));rintro _ w9 ⟨rfl,e⟩;replace E:=E.ext e;refine qV (FX (k:=.i64) (a:=IA p ll) (b:=0) O O) (qA (.bool (decide ((0:Int)<=IA p ll))) O (AB (AJ (AV results71 (v:=(.bool (decide ((0:Int)<=IA p ll)))) O ?_))));exact ⟨BO (Ha p ll),E⟩
theorem PY (a:World) (v fv:Value) (ll:List (List Sp)) (p:List Sp->Bool) (h:Dm a v ll) (b:∀(w:World) (u:Value) (l:List Sp),Ae a w->BD w u l->Bh prog fv #[u] w λr w'=>r=.bool (p l)∧Ae w w') :
 Bi prog 71 #[v,fv] a λr w=>r=.bool (ll.any p)∧Ae a w:=
 PX a v fv ll p h λw u l e c _=>b w u l e c
theorem V0 (b:World) (d:Nat) (x:Re) (xs:List Value) (u:Value) (l:List Sp) (c:BH b d xs.toArray 25) (f:A4 b x xs) (g:BD b u l) :
 Bi prog 72 #[u,.pointer (some ⟨d,0,none⟩)] b λr w=>r=.bool (decide (l=x.set))∧Ae b w:=by
 obtain ⟨sa,sc,aa,ac,rfl,a,_,_⟩:=f.form;refine qR func72 O ntmps72 O (λE=>(AA (qA (.bool false) O (AB (AA (qM u O (qF d 0 1 O underlying25 O CM O (qV (AL (v:=(.slice sa x.set.length sc)) O Cb (c.cell O)) (qE O (AI (vs:=[u,(.slice sa x.set.length sc)]) func73 kQ kQ O) (Se _ _ _ l x.set (g.ext E) (BR.ext a E)) ?_)))))))));rintro _ w9 ⟨rfl,e⟩;replace c:=e.keep c;replace E:=E.ext e;refine qA (.bool (decide (l=x.set))) O (AB (AJ (AV results72 (v:=(.bool (decide (l=x.set)))) O ?_)));exact ⟨O,E⟩
def QH (bo base:Nat) (SR:List (List Sp)) (s:List (List Sp)) (D:Nat->Prop) (w:World):Prop:=
 ∃(oa:Option Addr) (oc:Nat) (vs:List Value),BH w bo #[.slice oa s.length oc] Xw∧LSt RF NW 2 w base (.slice oa s.length oc) vs (s.map U')∧(∀b,D b↔b=bo∨(Value.slice oa s.length oc).ownBlock=some b)∧bo<base∧base<=w.heap.size∧s.Nodup∧∀x∈s,x∈SR
def Wk (base:Nat) (l:List Sp):G2:=λv w=>∃a c,v=.slice a l.length c∧w.ownsRow base NW 2 (.slice a l.length c) l.length (l.map BK).flatten
theorem IK (base:Nat) (l:List Sp):EI (Wk base l):=by
 rintro v w w' e ⟨a,c,rfl,h⟩;exact ⟨a,c,O,BG h e⟩
def OV (l:List Sp) (base:Nat):G2:=λv w=>∃b a c,v=.slice (some ⟨b,0,none⟩) 1 1∧BH w b #[.slice a l.length c] RF∧base<=b∧w.ownsRow base NW 2 (.slice a l.length c) l.length (l.map BK).flatten
theorem JB (l:List Sp) (base:Nat):EI (OV l base):=by
 rintro v w w' e ⟨b,a,c,rfl,h,d,f⟩;exact ⟨b,a,c,O,Ae.keep e h,d,BG f e⟩
theorem QL {M:Nat->Prop} {N:Nat} {σ:CC} {w:World} {dst:Option Tmp} {ty:TypeId} {pos:String} {af:Array Edge} {g:Option (Nat×Bool)} {x:Operand} {a:Option Addr} {c base:Nat} {l:List Sp} (d:ev σ x=.slice a l.length c) (hb:base<=w.heap.size) (b:w.ownsRow base NW 2 (.slice a l.length c) l.length (l.map BK).flatten) :
 En M prog N ⟨dst,.buildSlice 34 1 #[(0,x)],ty,pos,af,g⟩ (OV l base) σ w:=by
 have hn:=New.mk' w #[.slice a l.length c] RF;exact Ba (CV (parts:=[(0,x)]) (ps:=[(0,.slice a l.length c)]) (by simp only[List.map,d]) underlying34 CM QM qD qD qK) (Ae.chg hn.ext) ⟨_,_,_,O,hn.blk,hb,BG b hn.ext⟩
theorem Mg {s:List (List Sp)} {t:Re} (h:t.kind=2->t.set∈s):Gu s t=s:=by
 unfold Gu;rw[if_neg λa=>a.2 (h a.1)]
theorem XM (F:World) (K base:Nat) (SR:List (List Sp)) (aj:SR.length<=1000∧∀s∈SR,BT s=0) (s:List (List Sp)) (D:Nat->Prop) (x:Re) (xs:List Value) (hI:QH K base SR s D F) (hP:Fg (λs=>s∈SR) x) (hx:A4 F x xs) :
 Bi prog 70 #[.agg xs.toArray,.pointer (some ⟨K,0,none⟩)] F λv w'=>∃D',v=.bool true∧Chg D F w'∧QH K base SR (Gu s x) D' w'∧∀b,D' b->D b∨F.heap.size<=b:=by
 have av:=hx;have hI0:=hI;obtain ⟨sa,sc,aa,ac,rfl,ae,_,_⟩:=hx.form;obtain ⟨oa,oc,vs,j,t,S,Q,g,G,p⟩:=hI;have hbs0:=g;have ay:D K:=(S K).2 (.inl O);have hsl:s.length<=1000:=Nat.le_trans (FG G p) aj.1;have ad:=λk h=>(t.o.lt k h).2;have hD0:∀b,D b->b<F.heap.size:=λb h=>by rcases (S b).1 h with h|h;omega;exact ad b h
 refine EY func70 O ntmps70 (Qo O) ?_;have E:Chg D F F:=Chg.refl _ _;refine AA (BL (v:=(.agg (R6 x sa sc aa ac))) (c:=(R6 x sa sc aa ac)) qD O O ?_);intro L wz M;replace j:=M.keep j;replace t:=t.ext M.ext;replace g:=Nat.le_trans g M.ext.size;replace E:=E.ext M.ext;have N:=M.blk;refine qA (.bool false) O (AB (AG (AA (qF L 0 0 O underlying25 O Ay O (qV (AL (v:=(I6 x.kind)) O Al (N.cell O)) (qV (Aj (k:=.i64) (a:=x.kind) (b:=2) O O) (qM (.bool (decide ((x.kind:Int)=2))) O ?_)))))));rcases Bool.eq_false_or_eq_true (decide ((x.kind:Int)=2)) with q|q
 .have i:=q;replace i:=of_decide_eq_true i;refine AF (oj:=_) O O qD (BC q) (qV (AL (v:=(.slice oa s.length oc)) O K2 (j.cell O)) (AF (oj:=_) O O qD (BC q) (qV (Dx (vs:=[]) (us:=[(P6 L 0)]) O O) (AF (oj:=_) O O qD (BC q) (qE O (AI (vs:=[(.slice oa s.length oc),(.func (.func 72) #[] #[(P6 L 0)])]) func71 kQ kQ O) (PY _ _ _ s (λl=>decide (l=x.set)) t.spss (λw u l hE hu=>Bh.mk (first:=#[]) (cap:=#[.pointer (some ⟨L,0,none⟩)]) func72 kQ kQ O (V0 w L x _ u l (hE.keep N) (A4.ext (M.ext.trans hE) x av) hu))) ?_)))));rintro _ w9 ⟨rfl,R⟩;replace j:=R.keep j;replace N:=R.keep N;replace t:=t.ext R;replace g:=Nat.le_trans g R.size;replace E:=E.ext R;refine AF (oj:=_) O O qD (BC q) (qV (Dg (b:=(s.any λl=>decide (l=x.set))) O) (qV (Aq (b:=decide ((x.kind:Int)=2)) (v:=(.bool (!(s.any λl=>decide (l=x.set))))) O (by rw[q];rfl)) (AB (A_ (b:=!(s.any λl=>decide (l=x.set))) O (λI=>?_) (λI=>?_)))))
  .have al:=I;replace I:=by simpa using I
   have ai:x.set∉s:=λh=>I _ h O;have ag:=hP.s i;have hx16:=(LA (aj.2 x.set ag)).2;have d:Gu s x=s++[x.set]:=by unfold Gu;rw[if_pos ⟨i,ai⟩]
   obtain ⟨n1,au⟩:∃n,n=(w9).heap.size:=⟨_,O⟩;have hn0:F.heap.size<=n1:=by rw[au];have:=R.size;have:=M.size;omega
   obtain ⟨an,e⟩:∃Fs:List (FactT (Ak)),Fs=[.eq (.slice oa s.length oc),.eq (P6 L 1),.eq (.slice sa x.set.length sc),.gen (Wk n1 x.set) (IK _ _),.gen (OV x.set n1) (JB _ _)]:=⟨_,O⟩;refine NP (Ak) 5 3 [13,14,15,16,17] [[],[],[1],[2],[3]] an e O mixed qK qK qK ?_ ?_
   .intro wd B;refine DagStepsT.cons (λr w' X U H=>?_) ?_
    .exact Ba (AL (v:=(.slice oa s.length oc)) (U 1 O) K2 ((Chg.keep X (λf=>f) (B.keep j)).cell O)) (Chg.refl _ _) O
    refine DagStepsT.cons (λr w' X U H=>?_) ?_
    .exact Ba (AY (b:=L) (o:=0) (o':=1) (U 2 O) underlying25 O CM O) (Chg.refl _ _) O
    refine DagStepsT.cons (λr w' X U H=>?_) ?_
    .have ap:r 14=(.pointer (some ⟨L,1,none⟩)):=H 1 O 14 (.eq (.pointer (some ⟨L,1,none⟩))) O (by rw[e];rfl);exact Ba (AL (v:=(.slice sa x.set.length sc)) ap Cb ((Chg.keep X (λf=>f) (B.keep N)).cell O)) (Chg.refl _ _) O
    refine DagStepsT.cons (λr w' X U H=>?_) ?_
    .have ar:r 15=(.slice sa x.set.length sc):=H 2 O 15 (.eq (.slice sa x.set.length sc)) O (by rw[e];rfl);exact HK (AI (vs:=[(.slice sa x.set.length sc)]) func74 kQ kQ (G9 ar)) ((O4 _ _ x.set (BR.ext (BR.ext ae (M.ext.trans R)) (B.trans X)) qO).mono (λv w h=>⟨(by obtain ⟨⟨⟨a,c,h1⟩,h2⟩,_⟩:=h;subst h1;exact ⟨a,c,O,M0 h2 (by have:=B.size;have:=X.size;omega)⟩:Wk n1 x.set v w),h.2⟩))
    refine DagStepsT.cons (λr w' X U H=>?_) ?_
    .obtain ⟨a0,aq,Z,ab⟩:=(show (.gen (Wk n1 x.set) (IK _ _):FactT (Ak)).In (r 16) w' from H 3 O 16 (.gen (Wk n1 x.set) (IK _ _)) O (by rw[e];rfl));exact QL Z (by have:=B.size;have:=X.size;omega) ab
    exact DagStepsT.nil
   .intro r wd3 w3 B X3 U H;have am:r 13=(.slice oa s.length oc):=H 0 13 (.eq (.slice oa s.length oc)) O (by rw[e];rfl);obtain ⟨a0,aq,Z,ab⟩:=(show (.gen (Wk n1 x.set) (IK _ _):FactT (Ak)).In (r 16) w3 from H 3 16 (.gen (Wk n1 x.set) (IK _ _)) O (by rw[e];rfl));obtain ⟨az,W,ah,ax,aw,h17,ao⟩:=(show (.gen (OV x.set n1) (JB _ _):FactT (Ak)).In (r 17) w3 from H 4 17 (.gen (OV x.set n1) (JB _ _)) O (by rw[e];rfl));obtain ⟨j3,rfl⟩:=Am.out (σ:=r) (l:=[(1,(.pointer (some ⟨K,0,none⟩))),(13,(.slice oa s.length oc)),(17,(.slice (some ⟨az,0,none⟩) 1 1))]) ⟨U 1 O,am,ax,trivial⟩;clear U H;replace j:=Chg.keep X3 (λf=>f) (B.keep j);replace N:=Chg.keep X3 (λf=>f) (B.keep N);replace t:=(t.ext B).ext X3;replace g:=Nat.le_trans (Nat.le_trans g B.size) X3.size;replace E:=(E.ext B).step X3 (λ_ _ f=>f.elim);have hw3:=E.size;have V:=t.on (n:=s.length) qP;refine CQ (base:=base) (n:=s.length) (m:=1) (xs:=vs) (news:=[(.slice W x.set.length ah)]) (size:=1) (bytes:=24) (v:=(.slice oa s.length oc)) qD underlying34 CM WJ QM O qD O V O (O) (aw.cells O) qS (by unfold maxLen;omega) qO (g) ?_;intro v9 w29 af J T;replace j:=J.keep (λh=>by have:=(V.lt _ h).1;omega) j;replace E:=E.step J (λy hy h=>(S y).2 (.inr h));obtain ⟨z,C,rfl⟩:=Be af;have P:=t.push (n:=s.length) qP ao qO (λk h=>by have:=ad k h;omega) af J T;have A:=Nat.le_trans g J.size;have ak:∀b,(Value.slice z (s.length+1) C).ownBlock=some b->D b∨F.heap.size<=b:=λb h=>by rcases T b h with h|h;exact .inl ((S b).2 (.inr h));exact .inr qO
    refine Bb (b:=K) (o:=0) (c':=#[(.slice z (s.length+1) C)]) (v:=(.slice z (s.length+1) C)) O O O Sl j qP O ?_;intro w4 S4;replace P:=P.chg S4.chg (λb hb _ h=>by have h2:b=K:=h;omega);replace A:=Nat.le_trans A S4.chg.size;replace E:=S4.step E qQ;replace j:=S4.blk;refine AB (AC (AA (qA (.bool true) O (AB (AJ (AV results70 (v:=(.bool true)) O (⟨λb=>b=K∨(Value.slice z (s.length+1) C).ownBlock=some b,O,E,⟨z,C,vs++[.slice W x.set.length ah],?_,?_,?_,Q,A,?_,?_⟩,?_⟩)))))))
    .rw[d,List.length_append];exact j
    .rw[d,List.length_append,List.map_append];exact P
    .intro b;rw[d,List.length_append];exact Iff.rfl
    .rw[d,List.nodup_append];exact ⟨G,qP,λa ha b hb=>by rw[List.mem_singleton.1 hb];rintro rfl;exact ai ha⟩
    .intro y hy;rw[d] at hy;rcases List.mem_append.1 hy with h|h
     .exact p y h
     .rw[List.mem_singleton.1 h];exact ag
    .rintro b (rfl|h)
     .exact .inl ay
     .exact ak b h
  .have al:=I;replace I:=by simpa using I
   have d:Gu s x=s:=Mg λ_=>I;refine AO (AC (AA (qA (.bool true) O (AB (AJ (AV results70 (v:=(.bool true)) O ?_))))));exact ⟨D,O,E,by rw[d];exact ⟨oa,oc,vs,j,t,S,Q,g,G,p⟩,λb h=>.inl h⟩
 .have i:=q;replace i:=of_decide_eq_false i;have d:Gu s x=s:=Mg λh=>by simp[h] at q
  refine AE (oj:=_) O O qD (v:=.bool false) (BC q) (Or.inl O) (AE (oj:=_) O O qD (v:=.bool false) (BC q) (Or.inl O) (AE (oj:=_) O O qD (v:=.bool false) (BC q) (Or.inl O) (AE (oj:=_) O O qD (v:=.bool false) (BC q) (Or.inl O) (qV (Aq (b:=decide ((x.kind:Int)=2)) (v:=(.bool false)) O (by rw[q];rfl)) (AB (Ah O (AO (AC (AA (qA (.bool true) O (AB (AJ (AV results70 (v:=(.bool true)) O ?_)))))))))))));exact ⟨D,O,E,by rw[d];exact ⟨oa,oc,vs,j,t,S,Q,g,G,p⟩,λb h=>.inl h⟩
theorem QH.ext {f base:Nat} {g s:List (List Sp)} {D:Nat->Prop} {w w':World} (h:QH f base g s D w) (e:Ae w w'):QH f base g s D w':=by
 obtain ⟨oa,oc,vs,k,j,i,b,d,c,a⟩:=h;exact ⟨oa,oc,vs,e.keep k,j.ext e,i,b,Nat.le_trans d e.size,c,a⟩
theorem KE {S:Type} (f:S->Re->S):∀(l:List Re) (s:S),FV (λs t=>(true,f s t)) l s=(true,l.foldl f s)
 | [],s=>rfl
 | t::l,s=>by simp only[FV,if_true,List.foldl_cons];exact KE f l _
theorem Xu (w0:World) (t:Re) (vs:List Value) (ht:A4 w0 t vs) (hv:Fg (fun s=>BT s=0) t) (hs:t.size≤1000) :
  Bi prog 27 #[.agg vs.toArray] w0 fun v w=>Dm w v (CE t)∧Ae w0 w:=by
 have ad:=ht;obtain ⟨sa,sc,aa,ac,rfl,af,_,_⟩:=ht.form;have ai:(CE t).length≤1000∧∀s∈CE t,BT s=0:=⟨Nat.le_trans (Nn t) hs,Ip hv⟩;have hw:CU (fun s t=>(true,Gu s t)) t []=(true,CE t):=by rw[KF,KE];rfl
 have ag:Fg (fun s=>s∈CE t) t:=Nv fun s h=>h;refine qR func27 rfl ntmps27 rfl (fun E=>(AA (BL (v:=(.agg (R6 t sa sc aa ac))) (c:=(R6 t sa sc aa ac)) qD rfl rfl ?_)));intro br wr Nr;have Fr:=Nr.ge E;replace E:=E.ext Nr.ext;have Br:=Nr.blk;refine qA (.slice none 0 0) rfl (AB (AA (Bg (c:=#[(.slice none 0 0)]) qD XR rfl ?_)));intro bo wo No;have Fo:=No.ge E;have Oo_br:=No.lt Br;replace Br:=No.keep Br;replace E:=E.ext No.ext;have Bo:=No.blk;refine AB (AA (qV (AK (vs:=[(I6 t.kind),(.slice sa t.set.length sc),(.slice aa t.args.length ac),(I6 t.mn),(I6 t.mx),(.bool t.neg)]) rfl Ad AH rfl (Br.cells rfl)) (qV (Dx (vs:=[]) (us:=[(P6 bo 0)]) rfl rfl) ?_)));have ab:=Bo.lt;have ae:QH bo wo.heap.size (CE t) [] (fun b=>b=bo) wo:=⟨none,0,[],Bo,LSt.start _ _ _ _ _,fun b=>⟨.inl,fun h=>h.elim id (fun h=>by cases h)⟩,Bo.lt,Nat.le_refl _,List.nodup_nil,fun x hx=>by cases hx⟩;refine qE rfl (AI (vs:=[(.agg (R6 t sa sc aa ac)),(.func (.func 70) #[] #[(P6 bo 0)])]) func69 kQ kQ rfl) ((WQ (fun s t=>(true,Gu s t)) (QH bo wo.heap.size (CE t)) (Fg (fun s=>s∈CE t)) _ wr (fun s D w hI b hb=>by obtain ⟨oa,oc,vs,hB,hL,hD,h1,h2,_,_⟩:=hI;rcases (hD b).1 hb with h|h;exact ⟨by have:=No.eq;omega,qO⟩;exact ⟨by have:=(hL.o.lt b h).1;have:=No.size;omega,(hL.o.lt b h).2⟩) (fun s D w w' hI e=>hI.ext e) (fun t h x hx=>h.a x hx) (fun s D w t vs hE hP hI hx=>Bh.mk (first:=#[]) (cap:=#[.pointer (some ⟨bo,0,none⟩)]) func70 kQ kQ rfl (XM w bo wo.heap.size _ ai s D t vs hI hP (A4.ext hE t hx))) t.size t (Nat.le_refl _) ag [] (fun b=>b=bo) _ _ No.ext ae (A4.ext Nr.ext t ad)).mono (R':=fun v w=>v=.bool true∧(∃oa oc vs,BH w bo #[.slice oa (CE t).length oc] Xw∧LSt RF NW 2 w wo.heap.size (.slice oa (CE t).length oc) vs ((CE t).map U'))∧Chg (fun b=>b=bo) wo w) (fun v w h=>by obtain ⟨D',h1,h2,h3,_⟩:=h;rw[hw] at h1 h3;obtain ⟨oa,oc,vs,hB,hL,_⟩:=h3;exact ⟨h1,⟨oa,oc,vs,hB,hL⟩,h2⟩)) ?_;rintro _ w9 ⟨rfl,⟨oa,oc,us,ah,hL⟩,C9⟩;replace Br:=C9.keep qO Br;replace E:=E.step C9 (by intro x hx hm;omega);refine AB (AA (qV (AL (v:=(.slice oa ((CE t).length) oc)) rfl K2 (ah.cell rfl)) (qA (.slice oa ((CE t).length) oc) rfl (AB (AJ (AV results27 (v:=(.slice oa ((CE t).length) oc)) rfl ?_))))));exact ⟨hL.spss,E⟩
end Go.Proofs
namespace Go.Proofs
open Go Go.Eng
set_option maxRecDepth 100000
def Ec (w:World) (v:Value) (ll:List (List Int)):Prop:=∃vs:List Value,BR w 1 v (vs.map λx=>[x])∧vs.length=ll.length∧∀(i:Nat) (u:Value) (l:List Int),vs[i]?=some u->ll[i]?=some l->BZ w u l
theorem Ec.form {w:World} {v:Value} {ll:List (List Int)} (h:Ec w v ll):∃a c,v=.slice a ll.length c∧ll.length<=c∧ll.length<=9223372036854775807:=by
 obtain ⟨vs,b,d,_⟩:=h;obtain ⟨a,c,rfl⟩:=b.form;have:=b.cap;have:=b.le;simp only[List.length_map] at *;rw[d] at *;exact ⟨a,c,O,qO,qO⟩
theorem Ol {w:World} {a:Option Addr} {n c:Nat} {ll:List (List Int)} (h:Ec w (.slice a n c) ll) (hn:0<n) :
 ∃b o,a=some ⟨b,o,none⟩∧∀i l,ll[i]?=some l->∃d e,w.cell? ⟨b,o+i,none⟩=some (.slice d l.length e)∧BZ w (.slice d l.length e) l:=by
 obtain ⟨vs,r,h2,q⟩:=h;obtain ⟨b,o,s,p⟩:=BR.at r hn;refine ⟨b,o,s,λi l m=>?_⟩;have hi:i<vs.length:=by have:=AM m;omega
 have k:vs[i]?=some vs[i]:=List.getElem?_eq_getElem hi;have g:=q i vs[i] l k m;obtain ⟨d,e,f⟩:=BR.form g;simp only[List.length_map] at f;have j:=p i [vs[i]] (by simp[k]) 0 _ O;rw[Nat.mul_one,Nat.add_zero,f] at j;rw[f] at g;exact ⟨d,e,j,g⟩
end Go.Proofs
namespace Go.Proofs
open Go Go.Eng Go.Sort
set_option maxRecDepth 100000
def YM (t:Re) (m e:Int) (cs:List (List Sp)):Prop:=
 (Cj t 40≠0∧e=Cj t 40)∨(Cj t 40=0∧Dd t≠0∧e=Dd t)∨(Cj t 40=0∧Dd t=0∧(m<1∨100<m)∧e=1)∨(Cj t 40=0∧Dd t=0∧(1<=m∧m<=100)∧XD (CE t) cs e)
theorem Wu (w0:World) (t:Re) (vs:List Value) (m:Int) (ht:A4 w0 t vs) :
  Bi prog 5 #[.agg vs.toArray,.int .i64 m] w0 fun r w=>(∃e cs,YM t m e cs∧((e≠0∧r=.tuple #[.pointer none,.int .i64 e])∨
   (e=0∧∃(b most:Nat),m=((most:Nat):Int)∧w0.heap.size≤b∧r=.tuple #[.pointer (some ⟨b,0,none⟩),.int .i64 0]∧LzAt (fun y=>w0.heap.size≤y∧y≠b) cs w b most (CS t) LzA.zero)))∧Ae w0 w:=by
 have ah:=ht;obtain ⟨sa,sc,aa,ac,rfl,a5,a8,au⟩:=ht.form;refine qR func5 rfl ntmps5 rfl (fun E=>(AA (BL (v:=(.agg (R6 t sa sc aa ac))) (c:=(R6 t sa sc aa ac)) qD rfl rfl ?_)));intro br wr Nr;have Fr:=Nr.ge E;replace E:=E.ext Nr.ext;have Br:=Nr.blk;refine qA (.pointer none) rfl (qA (I6 0) rfl (AB (AG (AA (qV (AK (vs:=[(I6 t.kind),(.slice sa t.set.length sc),(.slice aa t.args.length ac),(I6 t.mn),(I6 t.mx),(.bool t.neg)]) rfl Ad AH rfl (Br.cells rfl)) (qE rfl (AI (vs:=[(.agg (R6 t sa sc aa ac))]) func24 kQ kQ rfl) (Q9 _ t _ (A4.ext E t ah)) ?_))))));rintro _ w9 ⟨rfl,X9⟩;replace Br:=X9.keep Br;replace E:=E.ext X9;refine qA (I6 (Cj t 40)) rfl (AB (AA (qM (I6 (Cj t 40)) rfl (qV (Cy (k:=.i64) (a:=Cj t 40) (b:=0) rfl rfl) (AB (qC rfl (fun hf=>?_) (fun hf=>?_)))))))
 ·refine AA (qM (I6 (Cj t 40)) rfl (qA (.pointer none) rfl (qA (I6 (Cj t 40)) rfl (AB (AJ (AP (Bf results5 (v:=(.pointer none)) (v':=(.int .i64 (Cj t 40))) rfl rfl ?_)))))));exact ⟨⟨_,[],.inl ⟨hf,rfl⟩,.inl ⟨hf,rfl⟩⟩,E⟩
 ·refine AO (AC (AG (AA (qV (AK (vs:=[(I6 t.kind),(.slice sa t.set.length sc),(.slice aa t.args.length ac),(I6 t.mn),(I6 t.mx),(.bool t.neg)]) rfl Ad AH rfl (Br.cells rfl)) (qE rfl (AI (vs:=[(.agg (R6 t sa sc aa ac))]) func25 kQ kQ rfl) (P7 _ t _ (A4.ext E t ah)) ?_)))));rintro _ w19 ⟨rfl,aq⟩;replace Br:=aq.keep Br;replace E:=E.ext aq;refine qA (I6 (Dd t)) rfl (AB (AA (qM (I6 (Dd t)) rfl (qV (Cy (k:=.i64) (a:=Dd t) (b:=0) rfl rfl) (AB (qC rfl (fun hd=>?_) (fun hd=>?_)))))))
  ·refine AA (qM (I6 (Dd t)) rfl (qA (.pointer none) rfl (qA (I6 (Dd t)) rfl (AB (AJ (AP (Bf results5 (v:=(.pointer none)) (v':=(.int .i64 (Dd t))) rfl rfl ?_)))))));exact ⟨⟨_,[],.inr (.inl ⟨qO,hd,rfl⟩),.inl ⟨hd,rfl⟩⟩,E⟩
  ·have ag:Cj t 40=0:=qO
   have ae:Dd t=0:=qO
   refine AO (AC (AG (AA (qM (I6 m) rfl ?_))));obtain ⟨e3,az⟩:∃e,(decide ((m:Int)<1))=e:=⟨_,rfl⟩;refine qV ((BE (k:=.i64) (a:=m) (b:=1) rfl rfl).trans (by rw[az];try rfl)) (qM (.bool e3) rfl (qG (.bool e3) (nU e3 (I6 m)) (by cases e3<;>first|exact gA|exact gB|exact .inl ⟨rfl,Ai (v:=(I6 m)) rfl⟩) ?_));obtain ⟨e4,ax⟩:∃e,(decide ((100:Int)<m))=e:=⟨_,rfl⟩;refine qG (.bool e3) (nU e3 (.bool e4)) (by cases e3<;>first|exact gA|exact gB|exact .inl ⟨rfl,(D0 (k:=.i64) (a:=m) (b:=100) rfl rfl).trans (by rw[ax];try rfl)⟩) ?_;obtain ⟨e5,a0⟩:∃e,(e3 || e4)=e:=⟨_,rfl⟩;refine qV (Aq (b:=e3) (v:=.bool e5) rfl (by rw[←a0];cases e3<;>rfl)) (AB ?_);subst a0;subst ax;subst az;refine A_ (b:=((decide ((m:Int)<1)) || (decide ((100:Int)<m)))) rfl (fun hm=>?_) (fun hm=>?_)
   ·have a3:=hm;refine AA (qA (.pointer none) rfl (qA (I6 1) rfl (AB (AJ (AP (Bf results5 (v:=(.pointer none)) (v':=(.int .i64 1)) rfl rfl ?_))))));exact ⟨⟨1,[],.inr (.inr (.inl ⟨ag,ae,by simpa using hm,rfl⟩)),.inl ⟨qD,rfl⟩⟩,E⟩
   ·have a3:=hm;have a6:1≤m∧m≤100:=by simp at hm;omega
    obtain ⟨mo,ar⟩:∃mo:Nat,m=((mo:Nat):Int):=⟨m.toNat,qO⟩;obtain ⟨a2,_,hu,ak,af⟩:=JR ae;have ao:=Ip (GW a2 hu);have ap:=Nn t;have ay:=UB ao;have hsz:=((DF (t:=t) (most:=40) qD qD).1 ag).2;refine AO (AC (AA (qV (AK (vs:=[(I6 t.kind),(.slice sa t.set.length sc),(.slice aa t.args.length ac),(I6 t.mn),(I6 t.mx),(.bool t.neg)]) rfl Ad AH rfl (Br.cells rfl)) (qE rfl (AI (vs:=[(.agg (R6 t sa sc aa ac))]) func27 kQ kQ rfl) ((Xu _ t _ (A4.ext E t ah) (GW a2 hu) qO).mono (R':=fun v w=>(∃a c,v=.slice a (CE t).length c∧Dm w (.slice a (CE t).length c) (CE t))∧Ae _ w) (fun v w h=>⟨by obtain ⟨a,c,h1,_⟩:=h.1.form;exact ⟨a,c,h1,h1▸h.1⟩,h.2⟩)) ?_))));rintro _ bc ⟨⟨bb,ba,rfl,a7⟩,aw⟩;replace Br:=aw.keep Br;replace E:=E.ext aw;have aj:w0.heap.size≤bc.heap.size:=E.size;refine qE rfl (AI (vs:=[(.slice bb ((CE t).length) ba)]) func26 kQ kQ rfl) (UV _ _ (CE t) a7 qO qO) ?_;rintro _ ai ⟨⟨cs,e,av,ca,cc,rfl,bd⟩,a1⟩;replace Br:=a1.keep Br;replace E:=E.ext a1;refine qM (.tuple #[(.slice ca cs.length cc),(I6 e)]) rfl (qV (A2 (vs:=#[(.slice ca cs.length cc),(I6 e)]) (v:=(.slice ca cs.length cc)) rfl rfl) (qV (A2 (vs:=#[(.slice ca cs.length cc),(I6 e)]) (v:=(I6 e)) rfl rfl) (qA (.slice ca cs.length cc) rfl (qA (I6 e) rfl (AB (AG (AA (qM (I6 e) rfl (qV (Cy (k:=.i64) (a:=e) (b:=0) rfl rfl) (AB (qC rfl (fun he=>?_) (fun he=>?_))))))))))))
    ·refine AA (qM (I6 e) rfl (qA (.pointer none) rfl (qA (I6 e) rfl (AB (AJ (AP (Bf results5 (v:=(.pointer none)) (v':=(.int .i64 e)) rfl rfl ?_)))))));exact ⟨⟨e,cs,.inr (.inr (.inr ⟨ag,ae,qO,av⟩)),.inl ⟨he,rfl⟩⟩,E⟩
    ·have an:w0.heap.size≤ai.heap.size:=E.size;have a4:e=0:=qO
     obtain ⟨M,hM⟩:∃M,M=CS t:=⟨_,rfl⟩;refine AO (AC (AA (qV (AK (vs:=[(I6 t.kind),(.slice sa t.set.length sc),(.slice aa t.args.length ac),(I6 t.mn),(I6 t.mx),(.bool t.neg)]) rfl Ad AH rfl (Br.cells rfl)) (qE rfl (AI (vs:=[(.agg (R6 t sa sc aa ac))]) func28 kQ kQ rfl) ((Vm _ (fun y=>y<w0.heap.size) t _ (AS.ext E t (AS.mono (fun _ h=>h.2) t (AS.lt t (AS.of_at t ah)))) (fun y hy=>by have:=E.size;have h9:y<w0.heap.size:=hy;omega)).mono (R':=fun r w=>(∃(xa:Option Addr) (xc:Nat) (ya:Option Addr) (yc:Nat),r=.tuple #[.agg #[.int .i64 M.kind,.slice xa M.set.length xc,.slice ya M.args.length yc,.int .i64 M.mn,.int .i64 M.mx,.bool M.neg],.int .i64 0]∧AS (fun b=>ai.heap.size≤b) w M [.int .i64 M.kind,.slice xa M.set.length xc,.slice ya M.args.length yc,.int .i64 M.mn,.int .i64 M.mx,.bool M.neg])∧Ae ai w) (fun r w h=>⟨by obtain ⟨us,h1,h2⟩:=h.1;rw[show Ot t=M by unfold Ot;rw[if_pos ae,hM]] at h2;have h3:=h2;obtain ⟨xa,xc,ya,yc,rfl,_⟩:=h3.form;exact ⟨xa,xc,ya,yc,by rw[h1,ae],h2⟩,h.2⟩)) ?_))));rintro _ a9 ⟨⟨xa,xc,ya,yc,rfl,hR⟩,am⟩;replace Br:=am.keep Br;replace E:=E.ext am;obtain ⟨z0,al⟩:∃z,z=a9.heap.size:=⟨_,rfl⟩;have hwz:w0.heap.size≤z0:=by rw[al];exact E.size
     have ad:=AS.mono (S':=fun y=>w0.heap.size≤y∧y<z0) (fun y hy=>⟨Nat.le_trans an hy.1,by rw[al];exact hy.2⟩) M (AS.lt M hR);have ab:=((bd.chgM am (fun _ _ _ f=>f)).lt).mono (S':=fun y=>w0.heap.size≤y∧y<z0) (fun y hy=>⟨Nat.le_trans aj hy.1,by rw[al];exact hy.2⟩);refine qM (.tuple #[(.agg (R6 M xa xc ya yc)),(I6 0)]) rfl (qV (A2 (vs:=#[(.agg (R6 M xa xc ya yc)),(I6 0)]) (v:=(.agg (R6 M xa xc ya yc))) rfl rfl) (qV (A2 (vs:=#[(.agg (R6 M xa xc ya yc)),(I6 0)]) (v:=(I6 0)) rfl rfl) (As (v:=(.agg (R6 M xa xc ya yc))) (c:=(R6 M xa xc ya yc)) (n:=6) qD A9 rfl AH rfl rfl rfl qS ?_)));intro bo wo No;have Fo:=No.ge E;have Oo_br:=No.lt Br;replace Br:=No.keep Br;replace ad:=AS.ext No.ext _ ad;replace ab:=ab.chgM No.ext (fun _ _ _ f=>f);replace E:=E.ext No.ext;have Bo:=No.blk;refine qA (I6 0) rfl (AB (AA (qV (AK (vs:=[(I6 M.kind),(.slice xa M.set.length xc),(.slice ya M.args.length yc),(I6 M.mn),(I6 M.mx),(.bool M.neg)]) rfl Ad AH rfl (Bo.cells rfl)) (qM (I6 m) rfl (qM (.slice ca cs.length cc) rfl (HQ Dl GI qD ?_))))));intro b8 w8 N8;have F8:=N8.ge E;have O8_br:=N8.lt Br;have O8_bo:=N8.lt Bo;replace Br:=N8.keep Br;replace Bo:=N8.keep Bo;replace ad:=AS.ext N8.ext _ ad;replace ab:=ab.chgM N8.ext (fun _ _ _ f=>f);replace E:=E.ext N8.ext;intro M8;refine qV (BJ (ps:=[(0,(.agg (R6 M xa xc ya yc))),(1,(I6 m)),(2,(.slice ca cs.length cc)),(3,(.map (some b8)))]) (v:=(.agg #[(I6 M.kind),(.slice xa M.set.length xc),(.slice ya M.args.length yc),(I6 M.mn),(I6 M.mx),(.bool M.neg),(I6 m),(.slice ca cs.length cc),(.map (some b8)),(I6 0),(I6 0)])) rfl qK) (BL (v:=(.agg #[(I6 M.kind),(.slice xa M.set.length xc),(.slice ya M.args.length yc),(I6 M.mn),(I6 M.mx),(.bool M.neg),(I6 m),(.slice ca cs.length cc),(.map (some b8)),(I6 0),(I6 0)])) (c:=#[(I6 M.kind),(.slice xa M.set.length xc),(.slice ya M.args.length yc),(I6 M.mn),(I6 M.mx),(.bool M.neg),(I6 m),(.slice ca cs.length cc),(.map (some b8)),(I6 0),(I6 0)]) qD rfl rfl ?_);intro b9 w9 N9;have F9:=N9.ge E;have O9_br:=N9.lt Br;have O9_bo:=N9.lt Bo;have O9_b8:=N9.ltM M8;replace Br:=N9.keep Br;replace Bo:=N9.keep Bo;replace M8:=N9.keepM M8;replace ad:=AS.ext N9.ext _ ad;replace ab:=ab.chgM N9.ext (fun _ _ _ f=>f);replace E:=E.ext N9.ext;have B9:=N9.blk;refine qA (P6 b9 0) rfl (qA (I6 0) rfl (AB (AJ (Bf results5 (v:=(.pointer (some ⟨b9,0,none⟩))) (v':=(.int .i64 0)) rfl rfl ?_))));have hb9:z0≤b9:=by have:=No.eq;omega
     exact ⟨⟨e,cs,.inr (.inr (.inr ⟨ag,ae,a6,av⟩)),.inr ⟨a4,b9,mo,ar,F9,rfl,⟨⟨xa,ya,ca,xc,yc,cc,b8,[],by rw[←hM,←ar];exact B9,⟨by rw[←hM];exact AS.mono (fun y hy=>⟨hy.1,by have:=hy.2;omega⟩) _ ad,by exact ab.mono (fun y hy=>⟨hy.1,by have:=hy.2;omega⟩),⟨M8,qP,List.nodup_nil,qP⟩⟩,RepA.none 0 0⟩,fun h=>h.2 rfl,ak,af,LzA.Ok.zero,qO⟩⟩⟩,E⟩
end Go.Proofs
namespace Go.Proofs
open Go Go.Eng
def YD (k:Int) (l:List Re):List Re:=if k=3 then l.reverse else l
mutual
def YC:Re->Re
  | .mk k set args mn mx ng=>.mk k set (YD k (V_ args)) mn mx ng
def V_:List Re->List Re
  | []=>[]
  | t::ts=>YC t::V_ ts
end
mutual
def Hx:Re->Prop
  | .mk k _ args _ _ _=>k≠10∧Gh args
def Gh:List Re->Prop
  | []=>True
  | t::ts=>Hx t∧Gh ts
end
end Go.Proofs
namespace Go.Proofs
open Go Go.Eng
set_option maxRecDepth 100000
abbrev Lg:=List Int->Prop
def Iu:Lg:=λ_=>False
def Es:Lg:=λw=>w=[]
def RT (s:List (Int×Int)):Lg:=λw=>∃c,w=[c]∧Cu s c=true
def DG (A B:Lg):Lg:=λw=>∃u v,w=u++v∧A u∧B v
def Ck:List Lg->Lg
  | []=>Es
  | A::l=>DG A (Ck l)
def PE (L:List Lg):Lg:=λw=>∃A∈L,A w
def QE (L:List Lg):Lg:=λw=>∀A∈L,A w
def M5 (A:Lg):Lg:=λw=>¬A w
inductive starG (A:Lg):Lg where
  | nil:starG A []
  | cons {u v:List Int}:A u->starG A v->starG A (u++v)
def Ju (A:Lg):Nat->Lg
  | 0=>Es
  | n+1=>DG A (Ju A n)
def Hv (A:Lg) (m x:Int):Lg:=λw=>∃n:Nat,m<=((n:Nat):Int)∧((n:Nat):Int)<=x∧Ju A n w
def EB (k:Int) (s:List (Int×Int)) (L:List Lg) (m x:Int):Lg:=
 if k=1 then Es else if k=2 then RT s else if k=3 then Ck L else if k=4 then PE L else if k=7 then QE L
 else if k=8 then M5 (L.headD Iu) else if k=5 then starG (L.headD Iu) else if k=6 then Hv (L.headD Iu) m x else if k=9 then L.headD Iu else Iu
mutual
def A0:Re->Lg
  | .mk k s a m x _=>EB k s (LL a) m x
def LL:List Re->List Lg
  | []=>[]
  | t::ts=>A0 t::LL ts
end
theorem Ro (a:List Re):LL a=a.map A0:=by
 induction a with
 | nil=>rfl
 | cons t a ih=>simp[LL,ih]
theorem Db (t:Re):A0 t=EB t.kind t.set (t.args.map A0) t.mn t.mx:=by cases t;simp only[A0,Ro];rfl
def Ho (text:List Int) (i j:Nat):List Int:=(text.take j).drop i
def RL (text:List Int) (R:Rl) (A:Lg):Prop:=∀i j,i<=j->j<=text.length->(R i j=true↔A (Ho text i j))
inductive All3 {α β:Type} (p:α->β->Prop):List α->List β->Prop where
  | nil:All3 p [] []
  | cons {a:α} {b:β} {l:List α} {m:List β}:p a b->All3 p l m->All3 p (a::l) (b::m)
section
variable {text : List Int}
theorem HM {i j:Nat} (h:j<=text.length):(Ho text i j).length=j - i:=by simp[Ho];omega
theorem Mq {i k j:Nat} (h1:i<=k) (d:k<=j):Ho text i j=Ho text i k++Ho text k j:=by
 unfold Ho;have b:text.take k=(text.take j).take k:=by rw[List.take_take,Nat.min_eq_left d]
 rw[b];have c:=(List.take_append_drop k (text.take j)).symm;generalize text.take j=l at *;rcases Nat.lt_or_ge l.length i with h|h
 .rw[List.drop_eq_nil_of_le qO,List.drop_eq_nil_of_le (by simp;omega),List.drop_eq_nil_of_le qO];rfl
 .conv=>lhs;rw[c]
  rcases Nat.lt_or_ge l.length k with a|a
  .rw[List.take_of_length_le qO,List.drop_eq_nil_of_le (show l.length<=k by omega)];simp
  .rw[List.drop_append_of_le_length (by simp;omega)]
theorem Lk {i j:Nat} (h:i<=j) (b:j<=text.length) {u v:List Int} (e:Ho text i j=u++v):i+u.length<=j∧u=Ho text i (i+u.length)∧v=Ho text (i+u.length) j:=by
 have c:=HM (text:=text) (i:=i) b;rw[e,List.length_append] at c;have a:=Mq (text:=text) (i:=i) (k:=i+u.length) (j:=j) qO qO;rw[e] at a;have:=List.append_inj a (by rw[HM qO];omega);exact ⟨qO,this.1,this.2⟩
theorem S0:RL text (J7 text.length) Es:=λi j h a=>by
 rw[FM];unfold Es;rw[<-List.length_eq_zero_iff,HM a];omega
theorem Sz:RL text Gf Iu:=λi j h hj=>by simp[Gf,Iu]
theorem Wc (s:List (Int×Int)):RL text (G3 text s) (RT s):=λi j h k=>by
 unfold G3 RT;have f:=HM (text:=text) (i:=i) k;constructor
 .intro a;simp only[Bool.and_eq_true,decide_eq_true_eq] at a;obtain ⟨b,rfl⟩:=a;obtain ⟨c,e⟩:=AX (l:=text) (i:=i) qO;rw[e] at b;refine ⟨c,?_,b⟩;unfold Ho;rw[List.take_add_one,e];rw[List.drop_append_of_le_length (by simp;omega),List.drop_eq_nil_of_le (by simp;omega)];rfl
 .rintro ⟨c,a,b⟩;rw[a] at f;simp at f;obtain ⟨d,hd⟩:=AX (l:=text) (i:=i) qO;have g:Ho text i j=[d]:=by
   obtain rfl:j=i+1:=qO
   unfold Ho;rw[List.take_add_one,hd];rw[List.drop_append_of_le_length (by simp;omega),List.drop_eq_nil_of_le (by simp;omega)];rfl
  rw[a] at g;cases g;rw[hd];simp only[b,Bool.true_and,decide_eq_true_eq];omega
variable (hn : text.length ≤ 24)
include hn
theorem Qa {A B:Rl} {X Y:Lg} (a:Wf text.length A) (b:Wf text.length B) (l:RL text A X) (m:RL text B Y):RL text (Bw A B text.length) (DG X Y):=λi j h g=>by
 rw[PR hn a b];constructor
 .rintro ⟨k,f,c,d,e⟩;exact ⟨_,_,Mq f c,(l i k f qO).1 d,(m k j c g).1 e⟩
 .rintro ⟨u,v,f,c,d⟩;obtain ⟨e,n,o⟩:=Lk h g f;rw[n] at c;rw[o] at d;exact ⟨i+u.length,qO,e,(l _ _ qO qO).2 c,(m _ _ e g).2 d⟩
theorem Qc:∀{R:List Rl} {L:List Lg},All3 (RL text) R L->(∀x∈R,Wf text.length x)->RL text (R.foldl (λa x=>Bw a x text.length) (J7 text.length)) (Ck L)
 | _,_,.nil,_=>S0
 | _,_,.cons (a:=A) (l:=l) ha hl,hw=>by
  rw[O7 hn (hw A qP) l λx b=>hw x (by simp[b])];exact Qa hn (hw A qP) (FU _ _ (JY _) λx b=>hw x (by simp[b])) ha (Qc hl λx b=>hw x (by simp[b]))
theorem VC {A:Rl} {X:Lg} (a:Wf text.length A) (n:RL text A X):RL text (D7 text.length A (text.length+1)) (starG X):=λi j h d=>by
 obtain ⟨m,hm⟩:∃m,m=j - i:=⟨_,O⟩
 induction m using Nat.strongRecOn generalizing i with
 | _ m ih=>
 rw[PU hn a (show i<=text.length by omega)];constructor
 .rintro (rfl|⟨k,q,b,e,c⟩)
  .have:Ho text i i=[]:=List.eq_nil_of_length_eq_zero (by rw[HM d];omega);rw[this];exact .nil
  .rw[Mq (show i<=k by omega) b];exact .cons ((n i k qO qO).1 e) ((ih (j - k) qO k b O).1 c)
 .intro q;have f:∀w,starG X w->w=[]∨∃u v,u≠[]∧w=u++v∧X u∧starG X v:=by
   intro w s
   induction s with
   | nil=>exact .inl O
   | @cons u v p hv ihv=>
    by_cases g:u=[]
    .subst g;exact ihv
    .exact .inr ⟨u,v,g,O,p,hv⟩
  rcases f _ q with b|⟨u,v,b,e,c,l⟩
  .left;have:=HM (text:=text) (i:=i) d;rw[b] at this;simp at this;omega
  .obtain ⟨o,r,t⟩:=Lk h d e;have p:0<u.length:=List.length_pos_iff.2 b;rw[r] at c;rw[t] at l;exact .inr ⟨i+u.length,qO,o,(n _ _ qO qO).2 c,(ih _ qO _ o O).2 l⟩
theorem Pf {A:Rl} {X:Lg} (a:Wf text.length A) (b:RL text A X):∀p,RL text (I9 text.length A p) (Ju X p)
 | 0=>S0
 | p+1=>by
  rw[OH hn a];exact Qa hn a (Mn a p) b (Pf a b p)
theorem Wd {A:Rl} {X:Lg} (a:Wf text.length A) (d:RL text A X) {mn mx:Int} (h1:0<=mx):RL text (I4 text.length A mn (mx+1).toNat) (Hv X mn mx):=λi j h c=>by
 rw[Mw];constructor
 .rintro ⟨p,f,e,b⟩;exact ⟨p,e,qO,(Pf hn a d p i j h c).1 b⟩
 .rintro ⟨p,f,e,b⟩;exact ⟨p,qO,f,(Pf hn a d p i j h c).2 b⟩
end
theorem PI {α β:Type} {p:α->β->Prop}:∀{l:List α} {m:List β},All3 p l m->(∀b∈m,∃a∈l,p a b)∧∀a∈l,∃b∈m,p a b
 | _,_,.nil=>⟨λ_ h=>(List.not_mem_nil h).elim,λ_ h=>(List.not_mem_nil h).elim⟩
 | _,_,.cons (a:=a) (b:=b) h t=>by
  obtain ⟨f,g⟩:=PI t;refine ⟨λy c=>?_,λx d=>?_⟩
  .rcases List.mem_cons.1 c with rfl|c
   .exact ⟨a,qP,h⟩
   .obtain ⟨x,d,e⟩:=f y c;exact ⟨x,by simp[d],e⟩
  .rcases List.mem_cons.1 d with rfl|d
   .exact ⟨b,qP,h⟩
   .obtain ⟨y,c,e⟩:=g x d;exact ⟨y,by simp[c],e⟩
theorem SJ {α β:Type} {p:α->β->Prop} {l:List α} {m:List β} {a:α} {b:β} (h:All3 p l m) (c:p a b):p (l.headD a) (m.headD b):=by
 cases h with
 | nil=>exact c
 | cons h _=>exact h
mutual
theorem Qb {text:List Int} (hn:text.length<=24):∀t:Re,CY t->Hx t->RL text (Ar text t) (A0 t)
 | .mk k s a m x g,ho,hl=>by
  have c:All3 (RL text) (DC text a) (LL a):=N' hn a (by simp only[CY] at ho;exact ho.2) (by simp only[Hx] at hl;exact hl.2);have D:∀R∈DC text a,Wf text.length R:=λR c=>by
   rw[I5] at c;obtain ⟨y,_,rfl⟩:=List.mem_map.1 c;exact E_ text y
  have B:NodeI (.mk k s a m x g):=Km (by simp only[CY] at ho;exact ho.1);have n:k≠10:=by simp only[Hx] at hl;exact hl.1
  have C:Wf text.length ((DC text a).headD Gf):=by
   cases h:DC text a with
   | nil=>exact NY _
   | cons y r=>exact D y (by rw[h];simp)
  have u:=SJ c (Sz (text:=text));obtain ⟨o,p⟩:=PI c;simp only[Ar,A0];unfold Gz EB;split
  .exact S0
  split
  .exact Wc s
  split
  .exact Qc hn c D
  split
  .intro i j h b;rw[Ky];simp only[Gf,Bool.false_or,List.any_eq_true];constructor
   .rintro ⟨R,l,d⟩;obtain ⟨A,e,f⟩:=p R l;exact ⟨A,e,(f i j h b).1 d⟩
   .rintro ⟨A,l,d⟩;obtain ⟨R,e,f⟩:=o A l;exact ⟨R,e,(f i j h b).2 d⟩
  split
  .rename_i F
   have d:=B.two (.inr (.inr F));simp only[Re.args] at d;intro i j h b;have E:∃q,q∈DC text a∧(DC text a).headD Gf=q:=by
    cases h:DC text a with
    | nil=>rw[I5] at h;have:=congrArg List.length h;simp at this;subst this;simp at d
    | cons y r=>exact ⟨y,qP,O⟩
   obtain ⟨q,w,v⟩:=E;rw[Jm,v];simp only[Bool.and_eq_true,List.all_eq_true];constructor
   .rintro ⟨_,l⟩ A G;obtain ⟨R,e,f⟩:=o A G;exact (f i j h b).1 (l R e)
   .intro l;have z:∀R∈DC text a,R i j=true:=λR c=>by
     obtain ⟨A,e,f⟩:=p R c;exact (f i j h b).2 (l A e)
    exact ⟨z q w,z⟩
  split
  .intro i j h b;rw[Wo h b];have:=u i j h b;unfold M5;rw[<-this];cases (DC text a).headD Gf i j<;>simp
  split
  .exact VC hn C u
  split
  .rename_i H
   have d:=B.rep H;simp only[Re.mn,Re.mx] at d;exact Wd hn C u qO
  split
  .exact u
  .first|exact Sz|(rw[if_neg n];exact Sz)
theorem N' {text:List Int} (hn:text.length<=24):∀a:List Re,DB a->Gh a->All3 (RL text) (DC text a) (LL a)
 | [],_,_=>.nil
 | t::a,ho,hl=>by
  simp only[DB] at ho;simp only[Gh] at hl;simp only[DC,LL];exact .cons (Qb hn t ho.1 hl.1) (N' hn a ho.2 hl.2)
end
theorem Pt {text:List Int} (hn:text.length<=24) {t:Re} (b:CY t) (a:Hx t):Ar text t 0 text.length=true↔A0 t text:=by
 have:=Qb hn t b a 0 text.length (Nat.zero_le _) (Nat.le_refl _);simpa[Ho] using this
end Go.Proofs
namespace Go.Proofs
open Go Go.Eng Go.Sort
set_option maxRecDepth 100000
theorem Ud (A:Lg) (w:List Int):DG A Es w↔A w:=
 ⟨λ⟨u,v,a,c,b⟩=>by rw[a,show v=[] from b,List.append_nil];exact c,λh=>⟨w,[],(List.append_nil w).symm,h,O⟩⟩
theorem QA (A B C:Lg) (w:List Int):DG (DG A B) C w↔DG A (DG B C) w:=by
 constructor
 ·rintro ⟨_,z,rfl,⟨x,y,rfl,hx,hy⟩,hz⟩;exact ⟨x,y++z,List.append_assoc ..,hx,y,z,O,hy,hz⟩
 ·rintro ⟨x,_,rfl,hx,y,z,rfl,hy,hz⟩;exact ⟨x++y,z,(List.append_assoc ..).symm,⟨x,y,O,hx,hy⟩,hz⟩
theorem DP {A B:Lg} (h:∀w,A w↔B w):A=B:=funext λw=>propext (h w)
theorem Vx (A B C:Lg):DG (DG A B) C=DG A (DG B C):=DP (QA A B C)
theorem JS (A:Lg):DG A Es=A:=DP (Ud A)
theorem JT (A:Lg):DG Es A=A:=DP λw=>⟨λ⟨u,v,a,c,b⟩=>by rw[a,show u=[] from c,List.nil_append];exact b,λh=>⟨[],w,O,O,h⟩⟩
theorem RM {A:Lg} {u v:List Int} (h:starG A u) (k:starG A v):starG A (u++v):=by
 induction h with
 | nil=>exact k
 | cons a _ ih=>rw[List.append_assoc];exact .cons a ih
theorem RJ {A:Lg} {u:List Int} (h:A u):starG A u:=by
 have:=starG.cons h .nil
 rwa [List.append_nil] at this
theorem JH (l:List Re):(l.map A0).headD Iu=A0 (l.headD BB):=by
 cases l with
 | nil=>rw[Db];rfl
 | cons x l=>rfl
theorem MF {t:Re} (h:t.kind=1):A0 t=Es:=by rw[Db];simp[EB,h]
theorem IR {t:Re} (h:t.kind=0):A0 t=Iu:=by rw[Db];simp[EB,h]
theorem WF {t:Re} (h:t.kind=2):A0 t=RT t.set:=by rw[Db];simp[EB,h]
theorem Qm {t:Re} (h:t.kind=3):A0 t=Ck (t.args.map A0):=by rw[Db];simp[EB,h]
theorem Ob {t:Re} (h:t.kind=4):A0 t=PE (t.args.map A0):=by rw[Db];simp[EB,h]
theorem Oa {t:Re} (h:t.kind=7):A0 t=QE (t.args.map A0):=by rw[Db];simp[EB,h]
theorem Tm {t:Re} (h:t.kind=5):A0 t=starG (A0 (t.args.headD BB)):=by rw[Db,<-JH];simp[EB,h]
theorem WE {t:Re} (h:t.kind=6):A0 t=Hv (A0 (t.args.headD BB)) t.mn t.mx:=by rw[Db,<-JH];simp[EB,h]
theorem OZ {t:Re} (h:t.kind=8):A0 t=M5 (A0 (t.args.headD BB)):=by rw[Db,<-JH];simp[EB,h]
theorem Gi:A0 BB=Iu:=IR O
theorem IS:A0 BP=Es:=MF O
theorem Fa (l:List Re) (w:List Int):PE (l.map A0) w↔∃x∈l,A0 x w:=by
 constructor
 .rintro ⟨A,b,h⟩;obtain ⟨x,a,rfl⟩:=List.mem_map.1 b;exact ⟨x,a,h⟩
 .rintro ⟨x,a,h⟩;exact ⟨_,List.mem_map_of_mem a,h⟩
theorem Gt (l:List Re) (w:List Int):QE (l.map A0) w↔∀x∈l,A0 x w:=by
 constructor
 .intro h x a;exact h _ (List.mem_map_of_mem a)
 .intro h A b;obtain ⟨x,a,rfl⟩:=List.mem_map.1 b;exact h x a
theorem Uc (A:Lg):DG Iu A=Iu:=DP λw=>⟨λ⟨_,_,_,h,_⟩=>h,λh=>h.elim⟩
theorem Ub (A:Lg):DG A Iu=Iu:=DP λw=>⟨λ⟨_,_,_,_,h⟩=>h,λh=>h.elim⟩
theorem Md:∀(A B:List Lg),Ck (A++B)=DG (Ck A) (Ck B)
 | [],B=>(JT _).symm
 | X::A,B=>by
  show DG X (Ck (A++B))=DG (DG X (Ck A)) (Ck B);rw[Md A B,Vx]
theorem Mc (A:Lg):Ck [A]=A:=JS A
theorem E' {k:Int} {l:List Re} {y:Re}:y∈BI k l↔∃x∈l,(x.kind=k∧y∈x.args)∨(x.kind≠k∧y=x):=by
 unfold BI;rw[List.mem_flatMap];refine exists_congr λx=>and_congr Iff.rfl ?_;by_cases h:x.kind=k
 .rw[if_pos h];simp[h]
 .rw[if_neg h];simp[h]
theorem Od:∀(l:List Re),Ck ((BI 3 l).map A0)=Ck (l.map A0)
 | []=>rfl
 | x::l=>by
  show Ck (((if x.kind=3 then x.args else [x])++BI 3 l).map A0)=DG (A0 x) (Ck (l.map A0));rw[List.map_append,Md,Od l];congr 1;by_cases h:x.kind=3
  .rw[if_pos h,Qm h]
  .rw[if_neg h];exact Mc _
theorem Oe:∀(l:List Re),Ck ((l.filter λx=>!decide (x.kind=1)).map A0)=Ck (l.map A0)
 | []=>rfl
 | x::l=>by
  have ih:=Oe l;rw[List.filter_cons];show _=DG (A0 x) (Ck (l.map A0));by_cases h:x.kind=1
  .rw[if_neg (by simp[h]),ih,MF h,JT]
  .rw[if_pos (by simp[h]),<-ih];rfl
theorem OY:∀(l:List Re),(l.any λx=>decide (x.kind=0))=true->Ck (l.map A0)=Iu
 | [],h=>by simp at h
 | x::l,h=>by
  show DG (A0 x) (Ck (l.map A0))=Iu;rw[List.any_cons,Bool.or_eq_true,decide_eq_true_eq] at h;rcases h with h|h
  .rw[IR h,Uc]
  .rw[OY l h,Ub]
theorem Tp (l:List Re) (w:List Int):(∃y∈BI 4 l,A0 y w)↔∃x∈l,A0 x w:=by
 constructor
 .rintro ⟨y,b,h⟩;obtain ⟨x,c,⟨a,b⟩|⟨_,rfl⟩⟩:=E'.1 b
  .exact ⟨x,c,by rw[Ob a,Fa];exact ⟨y,b,h⟩⟩
  .exact ⟨y,c,h⟩
 .rintro ⟨x,c,h⟩;by_cases a:x.kind=4
  .rw[Ob a,Fa] at h;obtain ⟨y,b,h⟩:=h;exact ⟨y,E'.2 ⟨x,c,.inl ⟨a,b⟩⟩,h⟩
  .exact ⟨x,E'.2 ⟨x,c,.inr ⟨a,O⟩⟩,h⟩
theorem Tn (l:List Re) (w:List Int):(∀y∈BI 7 l,A0 y w)↔∀x∈l,A0 x w:=by
 constructor
 .intro h x c;by_cases a:x.kind=7
  .rw[Oa a,Gt];exact λy b=>h y (E'.2 ⟨x,c,.inl ⟨a,b⟩⟩)
  .exact h x (E'.2 ⟨x,c,.inr ⟨a,O⟩⟩)
 .intro h y b;obtain ⟨x,c,⟨a,b⟩|⟨_,rfl⟩⟩:=E'.1 b
  .have d:=h x c;rw[Oa a,Gt] at d;exact d y b
  .exact h y c
theorem RK:starG Es=Es:=DP λw=>by
 constructor
 .intro h
  induction h with
  | nil=>rfl
  | cons a _ ih=>rw[show _=[] from a,show _=[] from ih];rfl
 .intro h;rw[show w=[] from h];exact .nil
theorem Sb:starG Iu=Es:=DP λw=>by
 constructor
 .intro h;cases h with
  | nil=>rfl
  | cons a _=>exact a.elim
 .intro h;rw[show w=[] from h];exact .nil
theorem PV (A:Lg):starG (starG A)=starG A:=DP λw=>by
 constructor
 .intro h
  induction h with
  | nil=>exact .nil
  | cons a _ ih=>exact RM a ih
 .exact RJ
theorem Ki:∀n:Nat,Ju Es n=Es
 | 0=>rfl
 | n+1=>by show DG Es (Ju Es n)=Es;rw[Ki n,JT]
theorem TD {m x:Int} (h0:0<=m) (h:m<=x):Hv Es m x=Es:=DP λw=>by
 constructor
 .rintro ⟨n,_,_,h⟩;rw[Ki] at h;exact h
 .intro a;exact ⟨m.toNat,qO,qO,by rw[Ki];exact a⟩
theorem RY (A:Lg) {m:Int} (h:0<=m) (a:m<=0):Hv A m 0=Es:=DP λw=>by
 constructor
 .rintro ⟨n,_,h2,h⟩;obtain rfl:n=0:=qO
  exact h
 .intro a;exact ⟨0,qO,qP,a⟩
theorem TC {x:Int} (h:0<=x):Hv Iu 0 x=Es:=DP λw=>by
 constructor
 .rintro ⟨n,_,_,h⟩;cases n with
  | zero=>exact h
  | succ n=>obtain ⟨_,_,_,h,_⟩:=h;exact h.elim
 .intro a;exact ⟨0,qP,by simpa using h,a⟩
theorem TB {m x:Int} (h:1<=m):Hv Iu m x=Iu:=DP λw=>by
 constructor
 .rintro ⟨n,a,_,h⟩;cases n with
  | zero=>simp at a;omega
  | succ n=>obtain ⟨_,_,_,h,_⟩:=h;exact h.elim
 .intro h;exact h.elim
theorem TA (A:Lg):Hv A 1 1=A:=DP λw=>by
 have a:Ju A 1=A:=JS A;constructor
 .rintro ⟨n,h1,h2,h⟩;obtain rfl:n=1:=qO
  rw[a] at h;exact h
 .intro h;exact ⟨1,qP,qP,by rw[a];exact h⟩
theorem TZ (A:Lg):M5 (M5 A)=A:=DP λw=>Classical.not_not
end Go.Proofs
namespace Go.Proofs
open Go Go.Eng Go.Sort
set_option maxRecDepth 100000
def XC (c:Int) (A:Lg):Lg:=λw=>A (c::w)
theorem OW (l:List Re):A0 (Bv 3 BP l)=Ck (l.map A0):=by
 match l with
 | []=>exact IS
 | [x]=>exact (Mc _).symm
 | x::y::l=>exact Qm (t:=.mk 3 [] _ 0 0 false) O
theorem Qn (l:List Re):A0 (De l)=Ck (l.map A0):=by
 have a:Ck ((EJ CZ (BI 3 l)).map A0)=Ck (l.map A0):=(Oe _).trans (Od l);unfold De;rw[<-a];split
 .rename_i h;rw[Gi,OY _ h]
 .exact OW _
theorem Tl (l:List Re) (w:List Int):A0 (Bv 4 BB l) w↔∃x∈l,A0 x w:=by
 match l with
 | []=>rw[show Bv 4 BB []=BB from O,Gi];simp[Iu]
 | [x]=>rw[show Bv 4 BB [x]=x from rfl];simp
 | x::y::l=>rw[show A0 (Bv 4 BB (x::y::l))=PE ((x::y::l).map A0) from Ob (t:=.mk 4 [] _ 0 0 false) O,Fa]
theorem Wv:A0 FS=M5 Iu:=by rw[OZ (t:=FS) rfl];exact congrArg M5 Gi
theorem Tk (l:List Re) (w:List Int):A0 (Bv 7 FS l) w↔∀x∈l,A0 x w:=by
 match l with
 | []=>rw[show Bv 7 FS []=FS from O,Wv];simp[Iu,M5]
 | [x]=>rw[show Bv 7 FS [x]=x from rfl];simp
 | x::y::l=>rw[show A0 (Bv 7 FS (x::y::l))=QE ((x::y::l).map A0) from Oa (t:=.mk 7 [] _ 0 0 false) O,Gt]
theorem Oc {y:Re} (h:Ca y=true) (w:List Int):A0 y w:=by
 unfold Ca at h;rw[Bool.and_eq_true,decide_eq_true_eq,decide_eq_true_eq] at h;rw[OZ h.1,IR h.2];exact id
theorem MG {y:Re} (h:BX y=true):A0 y=Iu:=IR (by simpa[BX] using h)
theorem J' {k:Int} {p:Re->Bool} {l:List Re} {x:Re}:x∈ES (Dp (EJ p (BI k l)))↔x∈BI k l∧p x=false:=by
 rw[If,show x∈Dp (EJ p (BI k l))↔x∈EJ p (BI k l) from List.mem_mergeSort];unfold EJ;rw[List.mem_filter];simp
theorem VT (l:List Re):A0 (GS 4 l Ca BX BB)=PE (l.map A0):=DP λw=>by
 rw[Fa];unfold GS;cases hf:l.find? Ca with
 | some x=>
  have b:=List.find?_some hf;have c:=List.mem_of_find?_eq_some hf;exact ⟨λh=>⟨x,c,h⟩,λ_=>Oc b w⟩
 | none=>
  show A0 (Bv 4 BB _) w↔_;rw[Tl,<-Tp l];constructor
  .rintro ⟨y,a,h⟩;exact ⟨y,(J'.1 a).1,h⟩
  .rintro ⟨y,a,h⟩;refine ⟨y,J'.2 ⟨a,?_⟩,h⟩;cases hq:BX y with
   | false=>rfl
   | true=>rw[MG hq] at h;exact h.elim
theorem VS (l:List Re):A0 (GS 7 l BX Ca FS)=QE (l.map A0):=DP λw=>by
 rw[Gt];unfold GS;cases hf:l.find? BX with
 | some x=>
  have c:=List.find?_some hf;have b:=List.mem_of_find?_eq_some hf;refine ⟨λh=>?_,λh=>h x b⟩;rw[show A0 _=Iu from MG c] at h;exact h.elim
 | none=>
  show A0 (Bv 7 FS _) w↔_;rw[Tk,<-Tn l];constructor
  .intro h y a;cases hq:Ca y with
   | true=>exact Oc hq w
   | false=>exact h y (J'.2 ⟨a,hq⟩)
  .intro h y a;exact h y (J'.1 a).1
theorem GF {k:Int} {s:List (Int×Int)} {a:List Re} {m x:Int} {g:Bool} (i:k=6->0<=m∧m<=x):A0 (Cz k s a m x g)=EB k s (a.map A0) m x:=by
 have d:A0 (.mk k s a m x g)=EB k s (a.map A0) m x:=Db (.mk k s a m x g);unfold Cz;simp only[];split
 .rename_i h;subst h;rw[Qn];rfl
 split
 .rename_i h;subst h;rw[VT];rfl
 split
 .rename_i h;subst h;rw[VS];rfl
 split
 .rename_i h
  subst h;have e:EB 5 s (a.map A0) m x=starG (A0 (a.headD BB)):=by rw[<-JH];rfl
  split
  .rename_i b
   rw[e,IS];rcases b with b|b
   .rw[IR b,Sb]
   .rw[MF b,RK]
  split
  .rename_i b
   rw[e,Tm b,PV]
  .exact d
 split
 .rename_i h
  subst h;obtain ⟨c,f⟩:=i O;have e:EB 6 s (a.map A0) m x=Hv (A0 (a.headD BB)) m x:=by rw[<-JH];rfl
  split
  .rename_i b
   rw[e,IS];rcases b with b|b|b
   .rw[b,RY _ c qO]
   .rw[MF b,TD c f]
   .rw[IR b.1,b.2,TC qO]
  split
  .rename_i hc1 b
   rw[e];rcases b with b|b
   .rw[IR b,TB qO]
   .rw[b.1,b.2,TA]
  .exact d
 split
 .rename_i h
  subst h;have e:EB 8 s (a.map A0) m x=M5 (A0 (a.headD BB)):=by rw[<-JH];rfl
  split
  .rename_i b
   rw[e,OZ b,TZ]
  .exact d
 .exact d
theorem Tr:∀(n:Nat) (t:Re),t.size<=n->CY t->A0 (CS t)=A0 t:=by
 intro n
 induction n with
 | zero=>intro t h;have:=t.size_pos;omega
 | succ n ih=>
 intro t hn a;have c:(t.args.map CS).map A0=t.args.map A0:=by
  rw[List.map_map];refine List.map_congr_left λy b=>?_;obtain ⟨i,hi⟩:=List.getElem?_of_mem b;have h1:=Re.size_arg hi;exact ih y qO (JA (DL a) hi)
 rw[QW,GF (λd=>by have:=(Km (E9 a)).rep d;omega),c,Db t]
theorem H3:∀(l:List Re),Ce l=true↔∀y∈l,Cq y=true
 | []=>by simp[Ce]
 | x::l=>by simp[Ce,H3 l]
theorem Jo:∀(l:List Re),Du l=true↔∃y∈l,Cq y=true
 | []=>by simp[Du]
 | x::l=>by simp[Du,Jo l]
theorem Ue (A B:Lg):DG A B []↔A []∧B []:=by
 constructor
 .rintro ⟨u,v,h,a,b⟩;obtain ⟨rfl,rfl⟩:=List.append_eq_nil_iff.1 h.symm;exact ⟨a,b⟩
 .rintro ⟨a,b⟩;exact ⟨[],[],O,a,b⟩
theorem Q_:∀(l:List Re),Ck (l.map A0) []↔∀y∈l,A0 y []
 | []=>⟨λ_ y a=>(by cases a),λ_=>rfl⟩
 | x::l=>by
  show DG (A0 x) (Ck (l.map A0)) []↔_;rw[Ue,Q_ l];simp
theorem TK (A:Lg) (h:A []):∀n:Nat,Ju A n []
 | 0=>rfl
 | n+1=>⟨[],[],O,h,TK A h n⟩
theorem Wg (A:Lg) {m x:Int} (h0:0<=m) (h:m<=x):Hv A m x []↔m=0∨A []:=by
 constructor
 .rintro ⟨n,a,h2,b⟩;cases n with
  | zero=>exact .inl qO
  | succ n=>exact .inr ((Ue _ _).1 b).1
 .rintro (a|a)
  .exact ⟨0,qO,by simp;omega,O⟩
  .exact ⟨m.toNat,qO,qO,TK A a _⟩
theorem UJ (t:Re):Cq t=(if t.kind=1∨t.kind=5 then true else if t.kind=3∨t.kind=7∨t.kind=9 then Ce t.args else if t.kind=4 then Du t.args else if t.kind=6 then (decide (t.mn=0) || Ce t.args) else if t.kind=8 then !Ce t.args else if t.kind=10 then (Ce t.args != t.neg) else false):=by cases t;rfl
theorem MT:∀(n:Nat) (t:Re),t.size<=n->Au t->(Cq t=true↔A0 t []):=by
 intro n
 induction n with
 | zero=>intro t h;have:=t.size_pos;omega
 | succ n ih=>
 intro t hn g;have d:=g.n;have c:∀y∈t.args,(Cq y=true↔A0 y []):=λy b=>by
  obtain ⟨i,hi⟩:=List.getElem?_of_mem b;have f:=Re.size_arg hi;exact ih y qO (g.a y b)
 rw[UJ];rcases d.ks with h|h|h|h|h|h|h|h|h
 .rw[IR h,h];simp[Iu]
 .rw[MF h,h];simp[Es]
 .rw[WF h,h];simp[RT]
 .rw[Qm h,h,Q_];simp only[show ¬((3:Int)=1∨(3:Int)=5) from qD,if_false,true_or,if_true];rw[H3];exact forall_congr' λy=>forall_congr' λb=>c y b
 .rw[Ob h,h,Fa];simp only[show ¬((4:Int)=1∨(4:Int)=5) from qD,show ¬((4:Int)=3∨(4:Int)=7∨(4:Int)=9) from qD,if_false,if_true];rw[Jo];exact exists_congr λy=>and_congr_right λb=>c y b
 .rw[Tm h,h];exact ⟨λ_=>.nil,λ_=>qP⟩
 .obtain ⟨y,b,_,_,j,f,_⟩:=d.k6 h;rw[WE h,h,b,Wg _ j f];have e:=c y (by rw[b];simp);show _↔_∨A0 y [];rw[<-e];simp[Ce]
 .rw[Oa h,h,Gt,if_neg qD,if_pos qD,H3];exact forall_congr' λy=>forall_congr' λb=>c y b
 .obtain ⟨y,b,_⟩:=d.k8 h;rw[OZ h,h,b];have e:=c y (by rw[b];simp);show _↔¬A0 y [];rw[<-e];simp[Ce]
theorem RA (A B:Lg) (c:Int) (w:List Int):DG A B (c::w)↔DG (XC c A) B w∨(A []∧B (c::w)):=by
 constructor
 .rintro ⟨u,v,h,a,b⟩;cases u with
  | nil=>rw[List.nil_append] at h;exact .inr ⟨a,by rw[h];exact b⟩
  | cons d u=>
   rw[List.cons_append,List.cons.injEq] at h;obtain ⟨rfl,h⟩:=h;exact .inl ⟨u,v,h,a,b⟩
 .rintro (⟨u,v,h,a,b⟩|⟨a,b⟩)
  .exact ⟨c::u,v,by rw[h];rfl,a,b⟩
  .exact ⟨[],c::w,O,a,b⟩
theorem Sc (A:Lg) (c:Int) (w:List Int):starG A (c::w)↔DG (XC c A) (starG A) w:=by
 constructor
 .intro h;generalize a:c::w=q at h
  induction h with
  | nil=>cases a
  | @cons u v b e ih=>
   cases u with
   | nil=>exact ih (by rw[a];rfl)
   | cons d u=>
    rw[List.cons_append,List.cons.injEq] at a;obtain ⟨rfl,h⟩:=a;exact ⟨u,v,h,b,e⟩
 .rintro ⟨u,v,h,b,e⟩;rw[h,show c::(u++v)=(c::u)++v from rfl];exact .cons b e
theorem Qg (A:Lg) (c:Int):∀(n:Nat) (w:List Int),Ju A n (c::w)->∃m,n=m+1∧DG (XC c A) (Ju A m) w
  | 0,w,h=>by cases h
  | n+1,w,h=>by
    rcases (RA A (Ju A n) c w).1 h with h|⟨h1,h2⟩
    · exact ⟨n,O,h⟩
    · obtain ⟨m,rfl,u,v,h,h3,h4⟩:=Qg A c n w h2;exact ⟨m+1,O,u,v,h,h3,⟨[],v,O,h1,h4⟩⟩
theorem VD (A:Lg) (c:Int) (w:List Int) {m x:Int} (h0:0<=m) (h:m<=x) (hx:x≠0):Hv A m x (c::w)↔DG (XC c A) (Hv A (max 0 (m - 1)) (x - 1)) w:=by
 constructor
 .rintro ⟨n,f,g,e⟩;obtain ⟨k,rfl,u,v,b,a,d⟩:=Qg A c n w e;exact ⟨u,v,b,a,k,qO,qO,d⟩
 .rintro ⟨u,v,b,a,k,f,g,d⟩;exact ⟨k+1,qO,qO,c::u,v,by rw[b];rfl,a,d⟩
theorem Sa (c:Int) (t:Re):A6 c t=(if t.kind=2 then (if Cu t.set c=true then BP else BB) else if t.kind=3 then EK c t.args
 else if t.kind=4∨t.kind=7∨t.kind=8 then Cz t.kind [] (t.args.map (A6 c)) 0 0 false
 else if t.kind=5 then De [(t.args.map (A6 c)).headD BB,t]
 else if t.kind=6 then De [(t.args.map (A6 c)).headD BB,Cz 6 [] [t.args.headD BB] (max 0 (t.mn - 1)) (t.mx - 1) false]
 else BB):=by cases t;simp only[A6,Hq];rfl
theorem Ps (a b:Re):A0 (De [a,b])=DG (A0 a) (A0 b):=by
 rw[Qn];show DG (A0 a) (DG (A0 b) Es)=_;rw[JS]
theorem OX (c:Int):∀(l:List Re),(∀y∈l,Au y)->(∀y∈l,∀w,A0 (A6 c y) w↔A0 y (c::w))->∀w,A0 (EK c l) w↔Ck (l.map A0) (c::w)
 | [],_,_,w=>by
  unfold EK;rw[Gi];exact ⟨λh=>h.elim,λh=>by cases h⟩
 | t::l,ho,hl,w=>by
  have f:=hl t qP;have ih:=OX c l (λy b=>ho y (by simp[b])) (λy b=>hl y (by simp[b])) w;have hd:A0 (A6 c t)=XC c (A0 t):=DP f;show _↔DG (A0 t) (Ck (l.map A0)) (c::w);rw[RA];unfold EK;split
  .rename_i h
   subst h;rw[f];constructor
   .intro h;exact .inl ⟨w,[],qP,h,O⟩
   .rintro (⟨u,v,h,g,a⟩|⟨_,a⟩)
    .rw[show v=[] from a,List.append_nil] at h;rw[h];exact g
    .cases a
  .have d:A0 (De [A6 c t,Bv 3 BP l])=DG (XC c (A0 t)) (Ck (l.map A0)):=by rw[Ps,OW,hd]
   have e:=MT _ t (Nat.le_refl _) (ho t qP);simp only[];split
   .rename_i h
    rw[GF (λj=>absurd j qD)];show PE ([_,_].map A0) w↔_;rw[Fa,<-d];simp only[List.mem_cons,List.not_mem_nil,or_false,exists_eq_or_imp,exists_eq_left,ih];exact or_congr Iff.rfl ⟨λa=>⟨e.1 h,a⟩,λa=>a.2⟩
   .rename_i h
    rw[<-d];exact ⟨.inl,λa=>a.resolve_right λi=>h (e.2 i.1)⟩
theorem Rp (c:Int):∀(n:Nat) (t:Re),t.size<=n->Au t->∀w,A0 (A6 c t) w↔A0 t (c::w):=by
 intro n
 induction n with
 | zero=>intro t h;have:=t.size_pos;omega
 | succ n ih=>
 intro t hn l w;have k:=l.n;have g:∀y∈t.args,∀w,A0 (A6 c y) w↔A0 y (c::w):=λy b=>by
  obtain ⟨i,hi⟩:=List.getElem?_of_mem b;have f:=Re.size_arg hi;exact ih y qO (l.a y b)
 have e:∀y,t.args=[y]->A0 (A6 c y)=XC c (A0 y):=λy b=>DP (g y (by rw[b];simp));rw[Sa];rcases k.ks with h|h|h|h|h|h|h|h|h
 .rw[IR h,h];simp only[show ¬(0:Int)=2 from qD,show ¬(0:Int)=3 from qD,show ¬((0:Int)=4∨(0:Int)=7∨(0:Int)=8) from qD,show ¬(0:Int)=5 from qD,show ¬(0:Int)=6 from qD,if_false];rw[Gi];exact Iff.rfl
 .rw[MF h,h];simp only[show ¬(1:Int)=2 from qD,show ¬(1:Int)=3 from qD,show ¬((1:Int)=4∨(1:Int)=7∨(1:Int)=8) from qD,show ¬(1:Int)=5 from qD,show ¬(1:Int)=6 from qD,if_false];rw[Gi];exact ⟨λh=>h.elim,λh=>by cases h⟩
 .rw[WF h,if_pos h];by_cases j:Cu t.set c=true
  .rw[if_pos j,IS];constructor
   .intro h;rw[show w=[] from h];exact ⟨c,O,j⟩
   .rintro ⟨d,f,_⟩;rw[List.cons.injEq] at f;exact f.2
  .rw[if_neg j,Gi];constructor
   .intro h;exact h.elim
   .rintro ⟨d,f,r⟩;rw[List.cons.injEq] at f;rw[f.1] at j;exact absurd r j
 .rw[Qm h,h];simp only[show ¬(3:Int)=2 from qD,if_false,if_true];exact OX c _ l.a g w
 .rw[Ob h,if_neg qO,if_neg qO,if_pos qO,GF (λo=>qO),h];show PE _ w↔PE _ _;rw[Fa,Fa];constructor
  .rintro ⟨z,m,h⟩;obtain ⟨y,b,rfl⟩:=List.mem_map.1 m;exact ⟨y,b,(g y b w).1 h⟩
  .rintro ⟨y,b,h⟩;exact ⟨_,List.mem_map_of_mem b,(g y b w).2 h⟩
 .obtain ⟨y,b,_⟩:=k.k5 h;rw[if_neg qO,if_neg qO,if_neg qO,if_pos h,Ps,Tm h,b];show DG (A0 (A6 c y)) (starG (A0 y)) w↔starG (A0 y) (c::w);rw[e y b,Sc]
 .obtain ⟨y,b,_,_,p,f,_,q,_⟩:=k.k6 h;rw[if_neg qO,if_neg qO,if_neg qO,if_neg qO,if_pos h,Ps,WE h,b,GF (λ_=>qO)];show DG (A0 (A6 c y)) (Hv (A0 y) _ _) w↔Hv (A0 y) _ _ (c::w);rw[e y b,VD _ _ _ p f q]
 .rw[Oa h,if_neg qO,if_neg qO,if_pos qO,GF (λo=>qO),h];show QE _ w↔QE _ _;rw[Gt,Gt];constructor
  .intro h y b;exact (g y b w).1 (h _ (List.mem_map_of_mem b))
  .intro h z m;obtain ⟨y,b,rfl⟩:=List.mem_map.1 m;exact (g y b w).2 (h y b)
 .obtain ⟨y,b,_⟩:=k.k8 h;rw[OZ h,if_neg qO,if_neg qO,if_pos qO,GF (λo=>qO),h,b];show ¬A0 (A6 c y) w↔¬A0 y (c::w);rw[g y (by rw[b];simp)]
end Go.Proofs
namespace Go.Proofs
open Go Go.Eng Go.Sort
set_option maxRecDepth 100000
theorem Ri (ll:List (List Sp)) (r s:Int):A' ll r=A' ll s↔∀l∈ll,Cu l r=Cu l s:=by
 unfold A';rw[List.map_inj_left]
theorem PG {P:List Sp->Prop} (t:Re):Fg P t↔(t.kind=2->P t.set)∧∀y∈t.args,Fg P y:=by
 cases t with
 | mk k s a m x g=>simp only[Fg,Me];rfl
theorem LG:∀(l:List Re) (s:List (List Sp)),s.Nodup->(l.foldl Gu s).Nodup
 | [],s,h=>h
 | t::l,s,h=>by
  rw[List.foldl_cons];refine LG l _ ?_;unfold Gu;split
  .rename_i c
   rw[List.nodup_append];exact ⟨h,qP,λp b q a=>by rw[List.mem_singleton] at a;subst a;exact λe=>c.2 (e▸b)⟩
  .exact h
def MP:List (List Sp):=[[(97,97)],[(97,98)],[(97,99)],[(97,100)],[(98,98)],[(98,99)],[(98,100)],[(99,99)],[(99,100)],[(100,100)]]
theorem T_ {l:List Sp} (h:∃lo hi:Int,l=[(lo,hi)]∧97<=lo∧lo<=hi∧hi<=100):l∈MP:=by
 obtain ⟨lo,hi,rfl,h1,h2,h3⟩:=h;have b:lo=97∨lo=98∨lo=99∨lo=100:=qO
 have a:hi=97∨hi=98∨hi=99∨hi=100:=qO
 rcases b with rfl|rfl|rfl|rfl<;>rcases a with rfl|rfl|rfl|rfl<;>first|(exfalso;omega)|(unfold MP;simp)
theorem Oq:∀(ll:List (List Sp)),(∀l∈ll,l∈MP)->ll.flatten.length=ll.length∧∀s∈ll.flatten,97<=s.1∧s.1<=s.2∧s.2<=100
 | [],_=>⟨O,λs h=>by cases h⟩
 | l::ll,h=>by
  obtain ⟨e,g⟩:=Oq ll λx f=>h x (List.mem_cons_of_mem _ f);have b:=h l List.mem_cons_self;have d:l.length=1∧∀s∈l,97<=s.1∧s.1<=s.2∧s.2<=100:=by
   unfold MP at b;simp only[List.mem_cons,List.not_mem_nil,or_false] at b;rcases b with rfl|rfl|rfl|rfl|rfl|rfl|rfl|rfl|rfl|rfl<;>simp
  refine ⟨by rw[List.flatten_cons,List.length_append,e,d.1,List.length_cons];omega,λs c=>?_⟩;rw[List.flatten_cons] at c;rcases List.mem_append.1 c with a|a
  .exact d.2 s a
  .exact g s a
theorem Vg {ll cs:List (List Sp)} (d:∀l∈ll,l∈MP) (hn:ll.Nodup) (h:HE ll cs):¬M9 cs:=by
 obtain ⟨hfl,a⟩:=Oq ll d;have h10:ll.length<=10:=FG hn d;rintro (⟨c,e,i⟩|i)
 .have:=h.short c e;omega
 .obtain ⟨p,b,hl,_⟩:=h;have j:(C1 (p.map (A' ll))).length<=(p.map (A' ll)).length:=FG (NI _) (P4 _);rw[List.length_map] at j;have f:p.length<=([0,97,98,99,100,101]:List Int).length:=FG (b.1.imp λh=>Int.ne_of_lt h) λk g=>by
   rcases (b.2 k).1 g with rfl|⟨s,m,h4⟩
   .simp
   .have h5:=a s m;have:k=97∨k=98∨k=99∨k=100∨k=101:=qO
    rcases this with rfl|rfl|rfl|rfl|rfl<;>simp
  simp at f;omega
theorem Uf {p:Re->Prop} (t:Re):Di p t↔p t∧∀y∈t.args,Di p y:=by
 cases t with
 | mk k s a m x g=>
 simp only[Di];refine and_congr Iff.rfl ?_;show Cl p a↔∀y∈a,Di p y
 induction a with
 | nil=>simp[Cl]
 | cons z a ih=>simp[Cl,ih]
theorem T':∀(n:Nat) (t:Re),t.size<=n->Di (H1 8) t->Fg (λs=>s∈MP) t:=by
 intro n
 induction n with
 | zero=>intro t h;have:=t.size_pos;omega
 | succ n ih=>
 intro t hs h;obtain ⟨c,d⟩:=(Uf t).1 h;refine (PG t).2 ⟨λb=>T_ (c.2.2 b),λy a=>?_⟩;obtain ⟨i,hi⟩:=List.getElem?_of_mem a;have:=Re.size_arg hi;exact ih y qO (d y a)
theorem Nw (t:Re):(CE t).Nodup:=LG _ _ qP
end Go.Proofs
namespace Go.Proofs
open Go Go.Eng Go.Sort
set_option maxRecDepth 100000
section
variable {g : Int → Int} {P : Int → Prop} {A B : Lg} {L : List Lg}
def Gx (g:Int->Int) (P:Int->Prop) (A:Lg):Prop:=∀u:List Int,(∀c∈u,P c)->(A (u.map g)↔A u)
theorem T1:Gx g P Iu:=λ_ _=>Iff.rfl
theorem NC:Gx g P Es:=λ_ _=>List.map_eq_nil_iff
theorem Vb {s:List (Int×Int)} (h:∀c,P c->Cu s (g c)=Cu s c):Gx g P (RT s):=λu hu=>by
  constructor
  · rintro ⟨c,h1,h2⟩
    match u,h1 with
    | [x],h1=>
      have h3:g x=c:=by simpa using h1
      exact ⟨x,O,by rw[<-h x (hu x List.mem_cons_self),h3];exact h2⟩
  · rintro ⟨c,rfl,h2⟩;exact ⟨g c,O,by rw[h c (hu c List.mem_cons_self)];exact h2⟩
theorem Qt (ha:Gx g P A) (hb:Gx g P B):Gx g P (DG A B):=λu hu=>by
 constructor
 ·rintro ⟨p,q,h1,h2,h3⟩;obtain ⟨p',q',rfl,rfl,rfl⟩:=List.map_eq_append_iff.1 h1;exact ⟨p',q',O,(ha p' λc hc=>hu c (List.mem_append_left _ hc)).1 h2,(hb q' λc hc=>hu c (List.mem_append_right _ hc)).1 h3⟩
 ·rintro ⟨p,q,rfl,h2,h3⟩;exact ⟨p.map g,q.map g,List.map_append,(ha p λc hc=>hu c (List.mem_append_left _ hc)).2 h2,(hb q λc hc=>hu c (List.mem_append_right _ hc)).2 h3⟩
theorem Oj:∀{L:List Lg},(∀A∈L,Gx g P A)->Gx g P (Ck L)
 | [],_=>NC
 | A::L,h=>Qt (h A List.mem_cons_self) (Oj λB a=>h B (List.mem_cons_of_mem _ a))
theorem NB (h:Gx g P A):∀n:Nat,Gx g P (Ju A n)
 | 0=>NC
 | n+1=>Qt h (NB h n)
theorem Ng {w:List Int}:starG A w↔∃n:Nat,Ju A n w:=by
 constructor
 .intro h
  induction h with
  | nil=>exact ⟨0,O⟩
  | cons a _ ih=>obtain ⟨n,hn⟩:=ih;exact ⟨n+1,_,_,O,a,hn⟩
 .rintro ⟨n,h⟩
  induction n generalizing w with
  | zero=>rw[show w=[] from h];exact .nil
  | succ n ih=>obtain ⟨u,v,rfl,a,b⟩:=h;exact .cons a (ih b)
theorem T0 (h:Gx g P A):Gx g P (starG A):=λu a=>by
 rw[Ng,Ng];exact exists_congr λn=>NB h n u a
theorem Vc (h:Gx g P A) (m x:Int):Gx g P (Hv A m x):=λu a=>exists_congr λn=>and_congr Iff.rfl (and_congr Iff.rfl (NB h n u a))
theorem IV (h:∀A∈L,Gx g P A):Gx g P (L.headD Iu):=by
 cases L with
 | nil=>exact T1
 | cons A L=>exact h A List.mem_cons_self
theorem Rw {k m x:Int} {s:List (Int×Int)} (e:k=2->∀c,P c->Cu s (g c)=Cu s c) (h:∀A∈L,Gx g P A):Gx g P (EB k s L m x):=by
 unfold EB;split
 .exact NC
 split
 .rename_i d;exact Vb (e d)
 split
 .exact Oj h
 split
 .exact λu a=>exists_congr λA=>and_congr_right λb=>h A b u a
 split
 .exact λu a=>forall_congr' λA=>imp_congr_right λb=>h A b u a
 split
 .exact λu a=>not_congr (IV h u a)
 split
 .exact T0 (IV h)
 split
 .exact Vc (IV h) m x
 split
 .exact IV h
 .exact T1
theorem Ts:∀(n:Nat) (t:Re),t.size<=n->Fg (λs=>∀c,P c->Cu s (g c)=Cu s c) t->Gx g P (A0 t):=by
 intro n
 induction n with
 | zero=>intro t h;have:=t.size_pos;omega
 | succ n ih=>
 intro t hs h;obtain ⟨b,d⟩:=(PG t).1 h;rw[Db];refine Rw b λA e=>?_;obtain ⟨y,a,rfl⟩:=List.mem_map.1 e;obtain ⟨i,hi⟩:=List.getElem?_of_mem a;exact ih y (by have:=Re.size_arg hi;omega) (d y a)
end
def We (cs:List (List Sp)) (c:Int):Int:=Bl (cs.getD c.toNat [])
theorem UM (cs:List (List Sp)):∀(w:List Int) {t:Re},Au t->Au (H4 (Gr cs) t w)
 | [],_,h=>h
 | _::w,_,h=>UM cs w (Ds _ h)
theorem O1 (cs:List (List Sp)):∀(w:List Int) {t:Re},Au t->(A0 (H4 (Gr cs) t w) []↔A0 t (w.map (We cs)))
 | [],_,_=>Iff.rfl
 | c::w,t,h=>(O1 cs w (Ds _ h)).trans (Rp (We cs c) t.size t (Nat.le_refl _) h _)
section
variable {t : Re} {cs : List (List Sp)}
theorem Q5 (n:∀l∈CE t,BT l=0) (p:HE (CE t) cs):(∀r,CA r=true->∃(k:Nat) (c:List Sp),Ch cs r=((k:Nat):Int)∧cs[k]?=some c∧∀s∈CE t,Cu s r=Cu s (Bl c))∧(∀l∈cs,l≠[]∧CA (Bl l)=true)∧0<cs.length:=by
 have b:=p.parted (XB n);have j:∀r,CA r=true->∃(k:Nat) (c:List Sp),Ch cs r=((k:Nat):Int)∧cs[k]?=some c∧∀s∈CE t,Cu s r=Cu s (Bl c):=λr a=>by
  unfold CA at a;rw[Bool.and_eq_true] at a;have g:=of_decide_eq_true a.1;have h:=of_decide_eq_true a.2;obtain ⟨k,c,o,f,q⟩:=SD b.part g h;exact ⟨k,c,o,f,(Ri _ _ _).1 ((b.mark k c r f g h).1 q)⟩
 refine ⟨j,λl m=>?_,?_⟩
 .have d:=b.low l m;obtain ⟨k,i⟩:=List.getElem?_of_mem m;have hd:=b.heads k (AM i);unfold Xj at hd;refine ⟨λe=>?_,by unfold CA;rw[Bool.and_eq_true];exact ⟨decide_eq_true d.1,decide_eq_true d.2⟩⟩;rw[List.getD_eq_getElem?_getD,i] at hd;exact hd.1 e
 .obtain ⟨k,c,_,d,_⟩:=j 0 qD;have:=AM d;omega
theorem Rn (a:CY t) (n:C_ [9,10] t=false) (e:∀l∈CE t,BT l=0) (d:HE (CE t) cs) {text:List Int} (j:∀x∈text,CA x=true):Cq (H4 (Gr cs) (CS t) (text.map (Ch cs)))=true↔A0 t text:=by
 have b:=Mt a n;obtain ⟨f,_,_⟩:=Q5 e d;rw[MT _ _ (Nat.le_refl _) (UM cs _ b),O1 cs _ b,Tr _ t (Nat.le_refl _) a,List.map_map];refine Ts (g:=We cs∘Ch cs) (P:=λc=>CA c=true) _ t (Nat.le_refl _) (Nv λs b c d=>?_) text j;obtain ⟨k,C,m,i,h⟩:=f c d;rw[h s b];show Cu s (Bl (cs.getD (Ch cs c).toNat []))=_;rw[m,Int.toNat_natCast,List.getD_eq_getElem?_getD,i];rfl
end
end Go.Proofs
namespace Go.Proofs
open Go Go.Eng
set_option maxRecDepth 100000
theorem SE {t:Re} {text:List Int} (c:B' t text=0):CY t∧(t.size:Int)<=40∧text.length<=24:=by
 unfold B' at c;by_cases d:Cj t 40=0
 .rw[if_neg qO] at c;obtain ⟨a,b⟩:=(DF qD qD).1 d;refine ⟨a,b,?_⟩;split at c<;>omega
 .rw[if_pos d] at c;omega
theorem U8 {x n:Nat} (f:Nat->Bool) (c:x=BF 25 f) (hn:n<=24):decide ((((x / 2 ^ n) &&& 1:Nat):Int)=1)=f n:=by
 have b:(x / 2 ^ n) &&& 1=x / 2 ^ n % 2:=Nat.and_one_is_mod _;have a:x.testBit n=decide (x / 2 ^ n % 2=1):=Nat.testBit_eq_decide_div_mod_eq;have d:x.testBit n=f n:=by rw[c,D3];simp;omega
 rw[<-d,a,b];congr 1;rw[eq_iff_iff];omega
theorem Sx (m:World) (t:Re) (vs:List Value) (A:Value) (text:List Int) (s:A4 m t vs) (d:BZ m A text) (D:HI m) :
 Bi prog 23 #[.agg vs.toArray,A] m λv w=>v=.tuple #[.bool (if B' t text=0 then Ar text t 0 text.length else false),.int .i64 (B' t text)]∧Ae m w:=by
 have l:=s;obtain ⟨sa,sc,aa,ac,rfl,hset,hlen,hargs⟩:=s.form;obtain ⟨f,h,rfl⟩:=BR.form d;simp only[List.length_map] at d⊢;refine qR func23 O ntmps23 O (λE=>(AA (BL (v:=(.agg (R6 t sa sc aa ac))) (c:=(R6 t sa sc aa ac)) qD O O ?_)));intro b1 w1 u;replace E:=E.ext u.ext;have g:=u.blk;refine qA (.bool false) O (qA (I6 0) O (AB (AG (AA (qV (AK (vs:=[(I6 t.kind),(.slice sa t.set.length sc),(.slice aa t.args.length ac),(I6 t.mn),(I6 t.mx),(.bool t.neg)]) O Ad AH O (g.cells O)) (qM (.slice f text.length h) O (qE O (AI (vs:=[(.agg (R6 t sa sc aa ac)),(.slice f text.length h)]) func60 kQ kQ O) (OJ _ t _ _ text (A4.ext E t l) (d.ext E)) ?_)))))));rintro _ w9 ⟨rfl,B⟩;replace g:=B.keep g;replace E:=E.ext B;refine qA (I6 (B' t text)) O (AB (AA (qM (I6 (B' t text)) O (qV (Cy (k:=.i64) (a:=B' t text) (b:=0) O O) (AB (qC O (λy=>?_) (λy=>?_)))))))
 .refine AA (qM (I6 (B' t text)) O (qA (.bool false) O (qA (I6 (B' t text)) O (AB (AJ (AP (Bf results23 (v:=(.bool false)) (v':=(.int .i64 (B' t text))) O O ?_)))))));exact ⟨by rw[if_neg y],E⟩
 .have e:B' t text=0:=qO
  obtain ⟨r,hsz,hn⟩:=SE e;refine AO (AC (AA (qV (AK (vs:=[(I6 t.kind),(.slice sa t.set.length sc),(.slice aa t.args.length ac),(I6 t.mn),(I6 t.mx),(.bool t.neg)]) O Ad AH O (g.cells O)) (qM (.slice f text.length h) O (qE O (AI (vs:=[(.agg (R6 t sa sc aa ac)),(.slice f text.length h)]) func61 kQ kQ O) (Xe text hn 40 qD t qO r _ _ _ (A4.ext E t l) (d.ext E) (D.ext E)) ?_)))));rintro _ w19 ⟨z,rfl,hbm,C,j⟩;replace g:=j.keep g;replace E:=E.ext j;obtain ⟨x,p⟩:∃x,x=BF 25 (Ar text t 0):=⟨_,O⟩;have q:x<4294967296:=p▸DM _;refine qV (Ag (a:=⟨z,0,none⟩) O) (qV (BW (b:=z) (o:=0) (i:=0) (o':=0) O O O underlying132 CP qO qO) (qV (AL (v:=(.int .u32 (x:Int))) O EE ((C.cell (CX _ qO)).trans (by rw[p]))) (qM (.slice f text.length h) O (qV (Aa (ad:=f) (n:=text.length) (cap:=h) underlying46 O) (qV (WA (k:=.u32) (a:=(x:Int)) (b:=(text.length:Int)) (c:=((x / 2 ^ text.length:Nat):Int)) (k':=.i64) O O qO (by rw[Int.fdiv_eq_ediv_of_nonneg _ (Int.le_of_lt (Int.pow_pos qD)),show min (text.length:Int).toNat IntKind.u32.bits=text.length from by simp only[IntKind.bits];omega];push_cast;rfl)) (qV (Gd (k:=.u32) (a:=((x / 2 ^ text.length:Nat):Int)) (b:=1) (v:=.int .u32 (((x / 2 ^ text.length) &&& 1:Nat):Int)) O O qP (HG _ 1 (Nat.lt_of_le_of_lt (Nat.div_le_self _ _) q) qD)) (qV (Aj (k:=.u32) (a:=(((x / 2 ^ text.length) &&& 1:Nat):Int)) (b:=1) O O) (qA (.bool (decide (((((x / 2 ^ text.length) &&& 1:Nat):Int):Int)=1))) O (qA (I6 0) O (AB (AJ (Bf results23 (v:=(.bool (decide (((((x / 2 ^ text.length) &&& 1:Nat):Int):Int)=1)))) (v':=(.int .i64 0)) O O ?_))))))))))));exact ⟨by rw[if_pos e,U8 _ p hn,e],E⟩
end Go.Proofs
namespace Go.Proofs
open Go Go.Eng Go.Sort
set_option maxRecDepth 100000
mutual
theorem Le {b:List Int} {p:Re->Prop} (c:∀t,p t->b.contains t.kind=false):∀(t:Re),Di p t->C_ b t=false
 | .mk k set args mn mx ng,h=>by
  simp only[Di] at h;have a:=c _ h.1;simp only[Re.kind] at a;simp only[C_,a,Bool.false_or];exact KG c args h.2
theorem KG {b:List Int} {p:Re->Prop} (c:∀t,p t->b.contains t.kind=false):∀(a:List Re),Cl p a->DO b a=false
 | [],_=>rfl
 | t::a,h=>by
  simp only[Cl] at h;simp only[DO,Le c t h.1,KG c a h.2,Bool.or_self]
end
end Go.Proofs
namespace Go.Eng
open Go
theorem OD {P:Program} {σ:CC} {w:World} {ty:TypeId} {pos:String} {af:Array Edge} {g:Option (Nat×Bool)} {t e:TypeId} {x y:Operand} {dst:Option Tmp} {u:Addr} (c:P.underlying t=some (.pointer e)) (a:ev σ x=.pointer (some u)) (b:ev σ y=.pointer none):(execOp (ev σ) ⟨dst,.binOp .eql t x y t,ty,pos,af,g⟩).run P w=.ok (.value (.bool false)) w:=by
 simp only[execOp,a,b,eqGuard,binOp,Op.equal,Op.maxDepth];have h:=Hm (P:=P) (w:=w) (u:=u) 9999 c;simp[h]
end Go.Eng
namespace Go.Proofs
open Go Go.Eng Go.Sort
set_option maxRecDepth 100000
theorem Ec.cut {w:World} {a e:Option Addr} {n c m c':Nat} {ll:List (List Int)} (h:Ec w (.slice a n c) ll) (f:∀rows,BR w 1 (.slice a n c) rows->BR w 1 (.slice e m c') (rows.take m)):Ec w (.slice e m c') (ll.take m):=by
 obtain ⟨vs,j,k,g⟩:=h;refine ⟨vs.take m,by rw[List.map_take];exact f _ j,by simp[k],λi u l b d=>?_⟩;rw[List.getElem?_take] at b d;split at b
 .rename_i hi
  rw[if_pos hi] at d;exact g i u l b d
 .cases b
theorem Kx {t:Re} (a:Di (H1 8) t):C_ [9,10] t=false:=Le (p:=H1 8) (λu b=>by have:=b.2.1;simp;omega) t a
theorem JJ {t:Re} (a:Di (H1 8) t):∀l∈CE t,BT l=0:=Ip (GW (NF t a) (Kx a))
theorem Vh {t:Re} (c:Di (H1 8) t) {cs:List (List Sp)} {e:Int} (h:XD (CE t) cs e):e=0∧HE (CE t) cs:=by
 have d:=JJ c;rcases h with ⟨f,_⟩|⟨_,cs',b,⟨a,_⟩|⟨_,a,g⟩⟩
 .exact absurd (JU d) f
 .exact absurd a (Vg (Ip (T' _ _ (Nat.le_refl _) c)) (Nw t) b)
 .rw[g];exact ⟨a,b⟩
theorem Vi {t:Re} (b:Di (H1 8) t) (hs:t.size<=31):Cj t 40=0∧Dd t=0:=by
 have a:=NF t b;refine ⟨(DF qD qD).2 ⟨a,qO⟩,?_⟩;unfold Dd;rw[if_neg (by rw[(DF (t:=t) (most:=300) qD qD).2 ⟨a,qO⟩];decide),if_neg (by rw[Kx b];decide)]
mutual
theorem Oo:∀t:Re,Di (H1 8) t->Hx t
 | .mk k s a m x g,h=>by
  simp only[Di] at h;simp only[Hx];have h1:k<=8:=h.1.2.1;exact ⟨qO,MO a h.2⟩
theorem MO:∀a:List Re,Cl (H1 8) a->Gh a
 | [],_=>by simp only[Gh]
 | t::a,h=>by
  simp only[Cl] at h;simp only[Gh];exact ⟨Oo t h.1,MO a h.2⟩
end
theorem Ql (c:World) (t:Re) (vs:List Value) (m:Int) (h:A4 c t vs) (f:Di (H1 8) t) (u:t.size<=31) (hm:1<=m∧m<=100) :
 Bi prog 5 #[.agg vs.toArray,.int .i64 m] c λr w=>(∃(b most:Nat) (cs:List (List Sp)),m=((most:Nat):Int)∧c.heap.size<=b∧r=.tuple #[.pointer (some ⟨b,0,none⟩),.int .i64 0]∧HE (CE t) cs∧LzAt (λy=>c.heap.size<=y∧y≠b) cs w b most (CS t) LzA.zero)∧Ae c w:=by
 refine (Wu c t vs m h).mono λr w ⟨⟨e,cs,l,k⟩,i⟩=>⟨?_,i⟩;obtain ⟨p,q⟩:=Vi f u;rcases l with ⟨a,_⟩|⟨_,a,_⟩|⟨_,_,a,_⟩|⟨_,_,_,a⟩
 .exact absurd p a
 .exact absurd q a
 .omega
 .obtain ⟨o,n⟩:=Vh f a;rcases k with ⟨d,_⟩|⟨_,b,most,d,j,s,g⟩
  .exact absurd o d
  .exact ⟨b,most,cs,d,j,s,n,g⟩
def WD (z:Nat) (t:Re) (m:Int):G2:=λv w=>∃(b most:Nat) (cs:List (List Sp)),v=.tuple #[.pointer (some ⟨b,0,none⟩),.int .i64 0]∧m=((most:Nat):Int)∧z<=b∧HE (CE t) cs∧LzAt (λy=>z<=y∧y≠b) cs w b most (CS t) LzA.zero
theorem Qj (z:Nat) (t:Re) (m:Int):EI (WD z t m):=by
 rintro v w w' e ⟨b,most,cs,rfl,a,c,d,f⟩;exact ⟨b,most,cs,O,a,c,d,f.ext e⟩
def XO (z:Nat) (t:Re) (m:Int):G2:=λv w=>∃(b most:Nat) (cs:List (List Sp)),v=.pointer (some ⟨b,0,none⟩)∧m=((most:Nat):Int)∧z<=b∧HE (CE t) cs∧LzAt (λy=>z<=y∧y≠b) cs w b most (CS t) LzA.zero
theorem Qk (z:Nat) (t:Re) (m:Int):EI (XO z t m):=by
 rintro v w w' e ⟨b,most,cs,rfl,a,c,d,f⟩;exact ⟨b,most,cs,O,a,c,d,f.ext e⟩
theorem LzAt.pos {S:Nat->Prop} {cs:List (List Sp)} {w:World} {b most:Nat} {f t:Re} {a:LzA Re} (h:LzAt S cs w b most f a) (hd:a.dom t):1<=a.n:=by
 obtain ⟨_,_,_,_,_,_,_,L,_,_,c⟩:=h.mem;obtain ⟨x,d,_⟩:=(c.dom t).1 hd;rw[c.n];exact List.length_pos_of_mem d
theorem O6 {t:Re} {text:List Int} (a:CY t) (hs:t.size<=31) (hn:text.length<=24) (c:∀x∈text,CA x=true):B' t text=0:=by
 unfold B';rw[if_neg (by rw[(DF (t:=t) (most:=40) qD qD).2 ⟨a,qO⟩];decide),if_neg qO,if_neg];rw[List.any_eq_true];rintro ⟨x,b,h⟩;rw[c x b] at h;cases h
theorem Rf {D:Re->Int->Re} {most:Nat} {a:LzA Re} {f:Re} (w:List Int) (hm:1<=most) (h:a.dom f->1<=a.n):1<=(matchA D most a f w).n:=N0 w (On h)
theorem Rm (w0:World) (hT:HI w0) (hP:Dj w0) (v1 v3:Value) (m:Int) (l:List Int) (tt:List (List Int)) (h1:BZ w0 v1 l) (h3:Ec w0 v3 tt) :
 Bi prog 4 #[v1,.int .i64 m,v3] w0 λv w=>v=.bool true∧Ae w0 w:=by
 obtain ⟨a1,c1,rfl⟩:=BR.form h1;simp only[List.length_map] at h1⊢;obtain ⟨a3,c3,rfl,bx,cc⟩:=h3.form;obtain ⟨n,hn⟩:∃n,n=min tt.length 10:=⟨_,O⟩;obtain ⟨mx,hmx⟩:∃mx:Nat,((mx:Nat):Int)=1+m % 5:=⟨(1+m % 5).toNat,qO⟩;have hm5:0<=m % 5∧m % 5<5:=qO
 refine qR func4 O ntmps4 O (λE=>(AA (qA (.bool false) O (AB (AG (AA (qE O (AI (vs:=[]) func19 kQ kQ O) (Vz _ (hT.ext E)) ?_)))))));rintro _ w9 ⟨rfl,X9⟩;replace E:=E.ext X9;refine qV (Dg (b:=true) O) (AB (Ah O (AO (AC (AA (qM (.slice a1 l.length c1) O (qE O (AI (vs:=[(.slice a1 l.length c1)]) func20 kQ kQ O) (Wr _ _ l (h1.ext E)) ?_)))))));rintro _ wa ⟨a,us,rfl,ga,za,ha,Xa⟩;replace E:=E.ext Xa;have ak:=AS.lt a ha;obtain ⟨sa,sc,aa,ac,rfl,_,_,_⟩:=ha.form;have bn:=NF a ga;have cz:=Kx ga;have c2:∀text:List Int,text.length<=10->(Ar text a 0 text.length=true↔A0 a text):=λtext hl=>Pt qO bn (Oo a ga);refine As (v:=(.agg (R6 a sa sc aa ac))) (c:=(R6 a sa sc aa ac)) (n:=6) qD A9 O AH O O O qS ?_;intro br wr Nr;replace ak:=AS.ext Nr.ext _ ak;replace E:=E.ext Nr.ext;have Br:=Nr.blk;refine AB ?_;obtain ⟨z0,b0⟩:∃z,z=(wr).heap.size:=⟨_,O⟩;replace ak:=AS.mono (S':=λy=>y<z0) (λy hy=>by rw[b0];exact hy.2) a (AS.lt a ak);have c6:br<z0:=by rw[b0];exact Br.lt
 have cy:w0.heap.size<=wr.heap.size:=E.size;have bf:br<wr.heap.size:=Br.lt;refine AG ?_;obtain ⟨c5,ab⟩:∃Fs:List CJ,Fs=[(eF (.agg (R6 a sa sc aa ac))),(eF (I6 m)),(eF (I6 (m % 5))),(eF (I6 (1+(m % 5)))),(λ_ _=>WD z0 a (1+m % 5)),(λ_ _=>WD z0 a (1+m % 5)),(λ_ _=>XO z0 a (1+m % 5)),(eF (I6 0)),(λ_ _=>XO z0 a (1+m % 5)),(eF undef)]:=⟨_,O⟩;refine EH (NT []) [true,true,true,true,true,true,true,true,true,false] [9] [32,33,34,35,36,31,37,38,8,150] [[],[],[1],[2],[0,2,3],[4],[5],[5],[0,1,2,3,4,5,6],[]] [[],[],[1],[2,1],[0,2,1,3],[4,0,2,1,3],[5,4,0,2,1,3],[5,4,0,2,1,3],[0,1,2,3,4,5,6],[]] c5 ab qK mixed qK qK qK qK ?_ ?_
 .intro wd X0;refine qZ (λS s' w' hi hN X U V H=>?_) ?_
  .replace X:=CK X;exact AT (AK (vs:=[(I6 a.kind),(.slice sa a.set.length sc),(.slice aa a.args.length ac),(I6 a.mn),(I6 a.mx),(.bool a.neg)]) (U 7 O) Ad AH O (((X0.trans X).keep Br).cells O)) O
  refine qZ (λS s' w' hi hN X U V H=>?_) ?_
  .replace X:=CK X;exact AT (Ai (v:=(I6 m)) (U 1 O)) O
  refine qZ (λS s' w' hi hN X U V H=>?_) ?_
  .replace X:=CK X;have ch:=(H 1 O).2 33 _ O (by rw[ab];rfl);exact Cr (AI (vs:=[(I6 m),(I6 5)]) func21 kQ kQ (G8 ch O)) ((J_ m 5 qD qD _).mono (λv w h=>⟨h.1,by rw[h.2];exact Chg.refl _ _⟩))
  refine qZ (λS s' w' hi hN X U V H=>?_) ?_
  .replace X:=CK X;have cx:=(H 2 O).2 34 _ O (by rw[ab];rfl);exact AT (Ax (k:=.i64) (a:=1) (b:=m % 5) (c:=1+(m % 5)) O cx (A8 qO)) O
  refine DagStepsS.cons (Em.chg (U:=Ak) (Qj _ _ _) (λp y hp hw h=>by
   exact h.elim)) (HJ.const) (λS s' w' hi hN X U V H=>Or.inl ⟨AD O,?_⟩) ?_
  .replace X:=CK X;have cg:=(H 0 O).2 32 _ O (by rw[ab];rfl);have cm:=(H 3 O).2 35 _ O (by rw[ab];rfl);exact Cr (AI (vs:=[(.agg (R6 a sa sc aa ac)),(I6 (1+(m % 5)))]) func5 kQ kQ (G8 cg cm)) ((Ql _ a _ (1+m % 5) (AS.at a (AS.ext (Ae.trans X0 X) a ak)) ga za qO).mono (λv w h=>by obtain ⟨⟨b,bj,cs,h1,h2,h3,h4,h5⟩,hX⟩:=h;exact ⟨⟨b,bj,cs,h3,h1,by have:=X0.size;have:=X.size;omega,h4,h5.mono (λy hy _=>⟨by have:=hy.1;have:=X0.size;have:=X.size;omega,hy.2⟩) (λh9=>h9.2 O)⟩,hX⟩))
  refine DagStepsS.cons (Em.chg (U:=Ak) (Qj _ _ _) (λp y hp hw h=>by
   exact h.elim)) (HJ.const) (λS s' w' hi hN X U V H=>Or.inl ⟨AD O,?_⟩) ?_
  .replace X:=CK X;exact AT (Ai (v:=s' 36) O) ((H 4 O).2 36 (λ_ _=>WD z0 a (1+m % 5)) O (by rw[ab];rfl))
  refine DagStepsS.cons (Em.chg (U:=Ak) (Qk _ _ _) (λp y hp hw h=>by
   exact h.elim)) (HJ.const) (λS s' w' hi hN X U V H=>Or.inl ⟨AD O,?_⟩) ?_
  .replace X:=CK X;obtain ⟨bb,b2,bt,bi,ce,bv,b6,bp⟩:=(show ((λ_ _=>WD z0 a (1+m % 5)):CJ) S s' (s' 31) w' from (H 5 O).2 31 (λ_ _=>WD z0 a (1+m % 5)) O (by rw[ab];rfl));exact AT (A2 (vs:=#[(P6 bb 0),(I6 0)]) (v:=(P6 bb 0)) bi O) ⟨bb,b2,bt,O,ce,bv,b6,bp⟩
  refine qZ (λS s' w' hi hN X U V H=>?_) ?_
  .replace X:=CK X;obtain ⟨bb,b2,bt,bi,ce,bv,b6,bp⟩:=(show ((λ_ _=>WD z0 a (1+m % 5)):CJ) S s' (s' 31) w' from (H 5 O).2 31 (λ_ _=>WD z0 a (1+m % 5)) O (by rw[ab];rfl));exact AT (A2 (vs:=#[(P6 bb 0),(I6 0)]) (v:=(I6 0)) bi O) O
  refine DagStepsS.cons (Em.chg (U:=Ak) (Qk _ _ _) (λp y hp hw h=>by
   exact h.elim)) (HJ.const) (λS s' w' hi hN X U V H=>Or.inl ⟨AD O,?_⟩) ?_
  .replace X:=CK X;exact AT (Dq (v:=s' 37) O) ((H 6 O).2 37 (λ_ _=>XO z0 a (1+m % 5)) O (by rw[ab];rfl))
  refine DagStepsS.tail ?_;exact DagStepsS.nil
 .intro s' wd1 w1 X0 X1 U H;replace X1:=X1.mono (M':=Ak) (λy _ h=>by
   obtain ⟨j,hj,h⟩:=h;exact h.elim)
  have da:=H 7 O 38 _ O (by rw[ab];rfl);obtain ⟨b8,k8,c8,e8,m8,g8,L8,Z8⟩:=(show ((λ_ _=>XO z0 a (1+m % 5)):CJ) (PH [true,true,true,true,true,true,true,true,true,false]) s' (s' 8) w1 from H 8 O 8 (λ_ _=>XO z0 a (1+m % 5)) O (by rw[ab];rfl));obtain ⟨j1,rfl⟩:=Am.out (σ:=s') (l:=[(1,(.int .i64 m)),(2,(.slice a3 tt.length c3)),(7,(.pointer (some ⟨br,0,none⟩))),(38,(.int .i64 0)),(8,(.pointer (some ⟨b8,0,none⟩)))]) ⟨U 1 O,U 2 O,U 7 O,da,e8,trivial⟩;clear U H;replace Br:=(X0.trans X1).keep Br;replace ak:=AS.ext (X0.trans X1) _ ak;replace X1:=X0.trans X1;replace E:=E.ext X1;obtain rfl:mx=k8:=qO
  obtain ⟨zz,hzz⟩:∃z,z=(w1).heap.size:=⟨_,O⟩;have Q8:=Z8.mono (S':=λy=>y≠b8∧y<zz) (λy hy hl=>⟨hy.2,qO⟩) (λh=>h.1 O);have hl8:b8<zz:=by have:=Z8.lt;omega
  refine qA (I6 0) O (AB (AC (AA (qV (AK (vs:=[(I6 a.kind),(.slice sa a.set.length sc),(.slice aa a.args.length ac),(I6 a.mn),(I6 a.mx),(.bool a.neg)]) O Ad AH O (Br.cells O)) (qE O (AI (vs:=[(.agg (R6 a sa sc aa ac)),(I6 100)]) func5 kQ kQ O) (Ql _ a _ 100 (AS.at a ak) ga za qD) ?_)))));rintro _ w19 ⟨⟨b9,k9,c9,hk9,hb9,rfl,L9,Z9⟩,be⟩;replace Br:=be.keep Br;replace ak:=AS.ext be _ ak;replace Q8:=Q8.ext be;replace E:=E.ext be;obtain rfl:c8=c9:=L8.uniq L9;obtain rfl:k9=100:=qO
  refine qM (.tuple #[(P6 b9 0),(I6 0)]) O (qV (A2 (vs:=#[(P6 b9 0),(I6 0)]) (v:=(P6 b9 0)) O O) (qV (A2 (vs:=#[(P6 b9 0),(I6 0)]) (v:=(I6 0)) O O) (qA (P6 b9 0) O (qA (I6 0) O (AB (AG (AA (qM (I6 0) O (qV (Cy (k:=.i64) (a:=0) (b:=0) O O) (qM (.bool false) O (AF (oj:=_) O O qD O (qM (I6 0) O (AF (oj:=_) O O qD O (qV (Cy (k:=.i64) (a:=0) (b:=0) O O) (qV (Aq (b:=false) (v:=(.bool false)) O O) (qM (.bool false) O ?_))))))))))))))));refine AF (oj:=_) O O qD O (qM (P6 b8 0) O (AF (oj:=_) O O qD O (qV (OD underlying27 O O) (qV (Aq (b:=false) (v:=(.bool false)) O O) (qM (.bool false) O (AF (oj:=_) O O qD O (qM (P6 b9 0) O (AF (oj:=_) O O qD O (qV (OD underlying27 O O) (qV (Aq (b:=false) (v:=(.bool false)) O O) (AB (Ah O (AO (AC (AG (AA (qM (.slice a3 tt.length c3) O ?_)))))))))))))))));refine qM (.slice a3 tt.length c3) O (qV (Aa (ad:=a3) (n:=tt.length) (cap:=c3) underlying26 O) (qV (TI (a:=(tt.length:Int)) (b:=10) (c:=(n:Int)) O O qO) ?_));obtain ⟨sl,bz⟩:∃a':Option Addr,(if c3=0 then a3 else Option.map (λq:Addr=>q.add (0*1)) a3)=a':=⟨_,O⟩;refine qV (HS (a:=a3) (len:=tt.length) (cap:=c3) (hi:=n) (l:=(n:Int)) underlying26 KS O O qO qO bz) (qV (Aa (ad:=sl) (n:=n) (cap:=c3) underlying26 O) (qM (I6 0) O (AB (AU ?_))));have bh:Ec w0 (.slice sl n c3) (tt.take n):=h3.cut λcl hr=>by have h9:=BR.cut (lo:=0) (hi:=n) hr qO qO bz O O;simpa using h9
  obtain ⟨SX,aq⟩:∃SX:Nat->Prop,SX=λq=>q≠b8∧q≠b9:=⟨_,O⟩;have cp:=Q8.mono (S':=SX) (λy hy _=>by rw[aq];exact ⟨hy.1,by have:=hy.2;omega⟩) (by rw[aq];exact λh=>h.1 O);have c0:=Z9.mono (S':=SX) (λy hy _=>by rw[aq];exact ⟨by have:=hy.1;omega,hy.2⟩) (by rw[aq];exact λh=>h.2 O);have ck:=ak;obtain ⟨cu,aw,a8⟩:=Q5 (JJ ga) L8;have av:∀r,CA r=true->0<=Ch c8 r∧Ch c8 r<c8.length:=λr hr=>by obtain ⟨k,c,e1,e2,_⟩:=cu r hr;have:=AM e2;omega
  have b5:1<=mx:=qO
  have h89:br<z0∧z0<=b8∧b8<b9∧w0.heap.size<=z0:=qO
  refine Av (λnn_ σ W2=>∃(k j:Nat) (a2 a3:LzA Re),(∃jj_,σ=Bj jj_ [(1,(I6 m)),(7,(P6 br 0)),(8,(P6 b8 0)),(10,(P6 b9 0)),(62,(.slice sl n c3)),(63,(I6 (n:Int))),(64,(I6 (k:Int)))])∧Chg Ak w0 W2∧BH W2 br (R6 a sa sc aa ac) 25∧(k<=n)∧(j<=10*k)∧(LzAt SX c8 W2 b8 mx (CS a) a2)∧(LzAt SX c8 W2 b9 100 (CS a) a3)∧(SimA (Gr c8) mx (CS a) j a2 a3)∧(AS (λy=>y<z0) W2 a [.int .i64 a.kind,.slice sa a.set.length sc,.slice aa a.args.length ac,.int .i64 a.mn,.int .i64 a.mx,.bool a.neg])∧nn_=n - k) (n:=n - 0) ?_ ?_
  .exact ⟨0,0,LzA.zero,LzA.zero,Am.out ⟨O,O,O,O,O,O,O,trivial⟩,E,Br,Nat.zero_le _,Nat.zero_le _,cp,c0,SimA.zero,ck,O⟩
  .clear E Br;rintro _ _ W2 ⟨k,j,a2,a3,⟨j2,rfl⟩,E,Br,hk,hj,hX,hY,hS,hR,rfl⟩;refine AA (qV (BE (k:=.i64) (a:=(k:Int)) (b:=(n:Int)) O O) (AB (AG (qC O (λct=>?_) (λct=>?_)))))
   .obtain ⟨tx,cj⟩:=AX (l:=tt.take n) (i:=k) (by simp;omega);obtain ⟨qb,qo,rfl,cr⟩:=Ol bh qO;obtain ⟨ra,rc,a6,bm⟩:=cr k tx cj;refine AO (AC (AG (AU (AA (qV (AN (b:=qb) (o:=qo) (len:=n) (cap:=c3) (i:=k) (o':=qo+k) O O O underlying26 KS qO qO) (qV (AL (v:=(.slice ra tx.length rc)) O K1 (E.cell (λf=>f) a6)) ?_))))));have hbz:b9<(W2).heap.size:=hY.lt;refine qA (.slice ra tx.length rc) O (AB (AA (qM (.slice ra tx.length rc) O (qE O (AI (vs:=[(.slice ra tx.length rc)]) func22 kQ kQ O) (WU _ _ tx (bm.ext E)) ?_))));rintro _ w29 ⟨ta,tc,text,rfl,hO,cq,bg,az⟩;replace Br:=az.keep Br;replace hX:=hX.ext az;replace hY:=hY.ext az;replace hR:=AS.ext az _ hR;replace E:=E.ext az;have hlX:=hX.lt;have hlY:=hY.lt;refine qA (.slice ta text.length tc) O (AB (AA (qM (P6 b8 0) O (qM (.slice ta text.length tc) O (qE O (AI (vs:=[(P6 b8 0),(.slice ta text.length tc)]) func14 kQ kQ O) (ME SX c8 _ b8 mx (CS a) a2 _ text hX (λy hy=>by rw[aq];exact ⟨qO,qO⟩) (EA hO (by intro r hr;simp only[List.mem_map] at hr;obtain ⟨p,_,rfl⟩:=hr;rfl) qP qD) (hP.ext E) av aw a8 qO bg) ?_)))));rintro _ w39 ⟨al,ag,a4,rfl,bo,cv,au⟩;replace Br:=au.keep (λh=>by have h9:br=b8:=h;omega) Br;replace E:=E.step au (λx hx h=>by exfalso;have h9:x=b8:=h;omega);have b3:=hY.cells au (by rw[aq];exact λh=>h.1 O) hX.no qO;have cn:=AS.chg au (λy hy h=>by have h9:y=b8:=h;have h8:y<z0:=hy;omega) _ hR;have bl:=Co hO au (λb hb h=>by have:=(hO.lt b hb).1;have h9:b=b8:=h;omega);have c4:=au.size;refine qM (.tuple #[(.bool al),(I6 ag)]) O (qV (A2 (vs:=#[(.bool al),(I6 ag)]) (v:=(.bool al)) O O) (qV (A2 (vs:=#[(.bool al),(I6 ag)]) (v:=(I6 ag)) O O) (qA (.bool al) O (qA (I6 ag) O (AB (AA (qM (P6 b9 0) O (qM (.slice ta text.length tc) O (qE O (AI (vs:=[(P6 b9 0),(.slice ta text.length tc)]) func14 kQ kQ O) (ME SX c8 _ b9 100 (CS a) a3 _ text b3 (λy hy=>by rw[aq];exact ⟨qO,qO⟩) (EA bl (by intro r hr;simp only[List.mem_map] at hr;obtain ⟨p,_,rfl⟩:=hr;rfl) qP qD) (hP.ext E) av aw a8 qO bg) ?_)))))))));rintro _ w49 ⟨aj,af,a5,rfl,b4,am,bc⟩;replace Br:=bc.keep (λh=>by have h9:br=b9:=h;omega) Br;replace E:=E.step bc (λx hx h=>by exfalso;have h9:x=b9:=h;omega);have ai:=cv.cells bc (by rw[aq];exact λh=>h.2 O) b3.no qO;have an:=AS.chg bc (λy hy h=>by have h9:y=b9:=h;have h8:y<z0:=hy;omega) _ cn;have co:=Co bl bc (λb hb h=>by have:=(bl.lt b hb).1;have h9:b=b9:=h;omega);refine qM (.tuple #[(.bool aj),(I6 af)]) O (qV (A2 (vs:=#[(.bool aj),(I6 af)]) (v:=(.bool aj)) O O) (qV (A2 (vs:=#[(.bool aj),(I6 af)]) (v:=(I6 af)) O O) (qA (.bool aj) O (qA (I6 af) O (AB (AG (AA (qM (I6 ag) O ?_))))))));obtain ⟨e4,bu⟩:∃e,(decide ((ag:Int)≠0))=e:=⟨_,O⟩;refine qV ((Cy (k:=.i64) (a:=ag) (b:=0) O O).trans (by rw[bu];try rfl)) (qM (.bool e4) O (qG (.bool e4) (nU e4 (I6 af)) (by cases e4<;>first|exact gA|exact gB|exact .inl ⟨O,Ai (v:=(I6 af)) O⟩) ?_));obtain ⟨e5,cf⟩:∃e,(decide ((af:Int)≠0))=e:=⟨_,O⟩;refine qG (.bool e4) (nU e4 (.bool e5)) (by cases e4<;>first|exact gA|exact gB|exact .inl ⟨O,(Cy (k:=.i64) (a:=af) (b:=0) O O).trans (by rw[cf];try rfl)⟩) ?_;obtain ⟨e6,cd⟩:∃e,(e4 || e5)=e:=⟨_,O⟩;refine qV (Aq (b:=e4) (v:=.bool e6) O (by rw[<-cd];cases e4<;>rfl)) (AB ?_);subst cd;subst cf;subst bu;refine A_ (b:=((decide ((ag:Int)≠0)) || (decide ((af:Int)≠0)))) O (λae=>?_) (λae=>?_)
    .have ay:=ae;refine AA (qM (I6 ag) O ?_);obtain ⟨e8,b7⟩:∃e,(decide ((ag:Int)=2))=e:=⟨_,O⟩;refine qV ((Aj (k:=.i64) (a:=ag) (b:=2) O O).trans (by rw[b7];try rfl)) (qM (.bool e8) O (qG (.bool e8) (nU e8 (I6 af)) (by cases e8<;>first|exact gA|exact gB|exact .inl ⟨O,Ai (v:=(I6 af)) O⟩) ?_));obtain ⟨e9,cb⟩:∃e,(decide ((af:Int)=2))=e:=⟨_,O⟩;refine qG (.bool e8) (nU e8 (.bool e9)) (by cases e8<;>first|exact gA|exact gB|exact .inl ⟨O,(Aj (k:=.i64) (a:=af) (b:=2) O O).trans (by rw[cb];try rfl)⟩) ?_;obtain ⟨ca,a7⟩:∃e,(e8 || e9)=e:=⟨_,O⟩;refine qV (Aq (b:=e8) (v:=.bool ca) O (by rw[<-a7];cases e8<;>rfl)) (qA (.bool ca) O (AB ?_));subst a7;subst cb;subst b7;refine AJ (AP (Ac (AP (AP (Ac (AP (AV results4 (v:=(.bool ((decide ((ag:Int)=2)) || (decide ((af:Int)=2))))) O ?_)))))));exact ⟨BO (by rcases bo with h8|h8<;>rcases b4 with h9|h9<;>rw[h8.1,h9.1] at ae<;>simp[h8.1,h9.1] at ae⊢),E⟩
    .have ay:=ae;obtain ⟨he1,bq,bs⟩:=bo.resolve_left (λh9=>by rw[h9.1] at ae;simp at ae);obtain ⟨he2,bw,c7⟩:=b4.resolve_left (λh9=>by rw[h9.1] at ae;simp at ae);have cw:=O6 bn za (by omega:text.length<=24) bg;have ax:Cq (H4 (Gr c8) (CS a) (text.map (Ch c8)))=Ar text a 0 text.length:=Bool.eq_iff_iff.2 ((Rn bn cz (JJ ga) L8 bg).trans (c2 text cq).symm);refine AO (AC (AA (qV (AK (vs:=[(I6 a.kind),(.slice sa a.set.length sc),(.slice aa a.args.length ac),(I6 a.mn),(I6 a.mx),(.bool a.neg)]) O Ad AH O (Br.cells O)) (qM (.slice ta text.length tc) O (qE O (AI (vs:=[(.agg (R6 a sa sc aa ac)),(.slice ta text.length tc)]) func23 kQ kQ O) ((Sx _ a _ _ text (AS.at a an) (EA co (by intro r hr;simp only[List.mem_map] at hr;obtain ⟨p,_,rfl⟩:=hr;rfl) qP qD) (hT.ext E)).mono (R':=λv w=>v=.tuple #[.bool (Ar text a 0 text.length),.int .i64 0]∧Ae _ w) (λv w h=>by rw[cw,if_pos rfl] at h;exact h)) ?_)))));rintro _ w59 ⟨rfl,ba⟩;replace Br:=ba.keep Br;replace ai:=ai.ext ba;replace am:=am.ext ba;replace an:=AS.ext ba _ an;replace E:=E.ext ba;refine qM (.tuple #[(.bool (Ar text a 0 text.length)),(I6 0)]) O (qV (A2 (vs:=#[(.bool (Ar text a 0 text.length)),(I6 0)]) (v:=(.bool (Ar text a 0 text.length))) O O) (qV (A2 (vs:=#[(.bool (Ar text a 0 text.length)),(I6 0)]) (v:=(I6 0)) O O) (qA (.bool (Ar text a 0 text.length)) O (qA (I6 0) O (AB (AA (qM (P6 b8 0) O (qE O (AI (vs:=[(P6 b8 0)]) func17 kQ kQ O) (OT SX c8 _ b8 mx (CS a) a4 ai) ?_))))))));rintro _ w69 ⟨rfl,a0⟩;replace Br:=a0.keep Br;replace ai:=ai.ext a0;replace am:=am.ext a0;replace an:=AS.ext a0 _ an;replace E:=E.ext a0;refine qM (.tuple #[(I6 a4.made),(I6 a4.drops),(I6 (a4.n:Int))]) O (qV (A2 (vs:=#[(I6 a4.made),(I6 a4.drops),(I6 (a4.n:Int))]) (v:=(I6 a4.made)) O O) (qV (A2 (vs:=#[(I6 a4.made),(I6 a4.drops),(I6 (a4.n:Int))]) (v:=(I6 a4.drops)) O O) (qV (A2 (vs:=#[(I6 a4.made),(I6 a4.drops),(I6 (a4.n:Int))]) (v:=(I6 (a4.n:Int))) O O) (qA (I6 a4.made) O (qA (I6 a4.drops) O (qA (I6 (a4.n:Int)) O (AB (AA (qM (P6 b9 0) O (qE O (AI (vs:=[(P6 b9 0)]) func17 kQ kQ O) (OT SX c8 _ b9 100 (CS a) a5 am) ?_))))))))));rintro _ ci ⟨rfl,a9⟩;replace Br:=a9.keep Br;replace ai:=ai.ext a9;replace am:=am.ext a9;replace an:=AS.ext a9 _ an;replace E:=E.ext a9;have b1:SimA (Gr c8) mx (CS a) (j+text.length) a4 a5:=by rw[bs,c7];have h9:=hS.text b5 (w:=text.map (Ch c8)) (by rw[List.length_map];omega);rw[List.length_map] at h9;exact h9
     have hp1:1<=a4.n:=by rw[bs];exact Rf _ b5 hX.pos
     have hle:=ai.ok.le;have hmm:=b1.mm;rw[ax] at bq bw;refine qM (.tuple #[(I6 a5.made),(I6 a5.drops),(I6 (a5.n:Int))]) O (qV (A2 (vs:=#[(I6 a5.made),(I6 a5.drops),(I6 (a5.n:Int))]) (v:=(I6 a5.made)) O O) (qV (A2 (vs:=#[(I6 a5.made),(I6 a5.drops),(I6 (a5.n:Int))]) (v:=(I6 a5.drops)) O O) (qV (A2 (vs:=#[(I6 a5.made),(I6 a5.drops),(I6 (a5.n:Int))]) (v:=(I6 (a5.n:Int))) O O) (qA (I6 a5.made) O (qA (I6 a5.drops) O (qA (I6 (a5.n:Int)) O (AB (AA (qM (I6 0) O (qV (Cy (k:=.i64) (a:=0) (b:=0) O O) (qM (.bool false) O (AF (oj:=_) O O qD O (qM (.bool al) O (AF (oj:=_) O O qD O (qM (.bool (Ar text a 0 text.length)) O ?_)))))))))))))));refine AF (oj:=_) O O qD O (qV (My (p:=al) (q:=Ar text a 0 text.length) underlying4 O O) (qV (Aq (b:=false) (v:=(.bool (al != (Ar text a 0 text.length)))) O O) (qM (.bool (al != (Ar text a 0 text.length))) O ?_)));have ap:(al != (Ar text a 0 text.length))=false:=by rw[bq];simp
     refine AF (oj:=_) O O qD (BC ap) (qM (.bool aj) O (AF (oj:=_) O O qD (BC ap) (qM (.bool (Ar text a 0 text.length)) O (AF (oj:=_) O O qD (BC ap) (qV (My (p:=aj) (q:=Ar text a 0 text.length) underlying4 O O) (qV (Aq (b:=al != (Ar text a 0 text.length)) (v:=(.bool (aj != (Ar text a 0 text.length)))) O (by rw[ap];rfl)) (qM (.bool (aj != (Ar text a 0 text.length))) O ?_)))))));have ah:(aj != (Ar text a 0 text.length))=false:=by rw[bw];simp
     refine AF (oj:=_) O O qD (BC ah) (qM (I6 (a4.n:Int)) O (AF (oj:=_) O O qD (BC ah) (qM (I6 m) O (AF (oj:=_) O O qD (BC ah) (qE O (AI (vs:=[(I6 m),(I6 5)]) func21 kQ kQ O) ((J_ m 5 qD qD _).mono (R':=λv w=>v=.int .i64 (m % 5)∧Ae ci w) (λv w h=>⟨h.1,by rw[h.2];exact Chg.refl _ _⟩)) ?_)))));rintro _ w89 ⟨rfl,bd⟩;replace Br:=bd.keep Br;replace ai:=ai.ext bd;replace am:=am.ext bd;replace an:=AS.ext bd _ an;replace E:=E.ext bd;refine AF (oj:=_) O O qD (BC ah) (qV (Ax (k:=.i64) (a:=1) (b:=m % 5) (c:=1+(m % 5)) O O (A8 qO)) (AF (oj:=_) O O qD (BC ah) (qV (D0 (k:=.i64) (a:=(a4.n:Int)) (b:=1+(m % 5)) O O) (qV (Aq (b:=aj != (Ar text a 0 text.length)) (v:=(.bool (decide ((1+(m % 5):Int)<(a4.n:Int))))) O (by rw[ah];rfl)) (qM (.bool (decide ((1+(m % 5):Int)<(a4.n:Int)))) O ?_)))));have ar:(decide ((1+(m % 5):Int)<((a4.n:Nat):Int)))=false:=decide_eq_false qO;refine AF (oj:=_) O O qD (BC ar) (qM (I6 (a4.n:Int)) O (AF (oj:=_) O O qD (BC ar) (qV (BE (k:=.i64) (a:=(a4.n:Int)) (b:=1) O O) (qV (Aq (b:=decide ((1+(m % 5):Int)<(a4.n:Int))) (v:=(.bool (decide (((a4.n:Int):Int)<1)))) O (by rw[ar];rfl)) (qM (.bool (decide (((a4.n:Int):Int)<1))) O ?_)))));have ao:(decide ((((a4.n:Nat):Int):Int)<1))=false:=decide_eq_false qO;refine AF (oj:=_) O O qD (BC ao) (qM (I6 a4.made) O (AF (oj:=_) O O qD (BC ao) (qM (I6 a5.made) O (AF (oj:=_) O O qD (BC ao) (qV (BE (k:=.i64) (a:=a4.made) (b:=a5.made) O O) (qV (Aq (b:=decide (((a4.n:Int):Int)<1)) (v:=(.bool (decide ((a4.made:Int)<a5.made)))) O (by rw[ao];rfl)) (AB ?_)))))));have bk:(decide ((a4.made:Int)<a5.made))=false:=decide_eq_false qO;refine Ah (BC bk) (AO (AQ (AC (AR (qV (Ax (k:=.i64) (a:=(k:Int)) (b:=1) (c:=(k:Int)+1) O O (A8 qO)) (qM (I6 ((k:Int)+1)) O (AB (AC ?_))))))));exact ⟨n - (k+1),qO,k+1,j+text.length,a4,a5,Am.out ⟨O,O,O,O,O,O,O,trivial⟩,E,Br,qO,qO,ai,am,b1,an,O⟩
   .refine Aw (AZ (AZ (Ap (AC (AA (qA (.bool true) O (AB (AJ (AV results4 (v:=(.bool true)) O ?_)))))))));exact ⟨O,E⟩
end Go.Proofs
namespace Go.Proofs
open Go Go.Eng
set_option maxRecDepth 100000
section
variable {H : Type} {enc : TypeId × Value → H} {P : Program} {w : World} {base : Nat} {spare : Nat → Bool} {held : Bool}
theorem LB {a:Addr} {k:Nat} {cs:List Value} (hk:0<k) (h:w.cells? base a k=some cs):∃b o,a=⟨b,o,none⟩∧cs.length=k∧BA w b o cs:=by
 obtain ⟨f,l,e⟩:=World.cells?_some h;obtain ⟨b,o,s⟩:=a;have d:cs.length=k:=by first|exact l|exact f|omega
 have g:=e 0 qO;have m:s=none:=by
  cases s with
  | none=>rfl
  | some s=>
   exfalso;have j:∃v,w.cell? ⟨b,o,some s⟩=some v:=⟨_,by simpa[Addr.add,List.getElem?_eq_getElem (show 0<cs.length by omega)] using g⟩;obtain ⟨v,c⟩:=j;simp[World.cell?] at c;cases hh:w.heap[b]?<;>simp[hh] at c;split at c<;>simp at c
 subst m;refine ⟨b,o,O,d,λi v c=>?_⟩;have:=e i (by have:=AM c;omega);rw[Addr.add_lit] at this;rw[this,c]
theorem N7 {α:Type} {f:α->List Value}:∀{rows:List (List Value)},(∀r∈rows,∃y,r=f y)->∃l:List α,rows=l.map f
 | [],_=>⟨[],O⟩
 | r::rows,h=>by
  obtain ⟨y,c⟩:=h r qP;obtain ⟨l,d⟩:=N7 (rows:=rows) (f:=f) λb a=>h b (List.mem_cons_of_mem _ a);exact ⟨y::l,by rw[c,d];rfl⟩
theorem L7 {t e k j:Nat} {cs:List Value} {x:DataW H×List MemPlace} {R:List Value->Prop} (G:P.underlying t=some (.slice e)) (K:P.cellsOf e=k) (D:0<k)
 (h:DataW.trod enc P w base spare held j t cs=some x) (I:∀n c y,n<j->DataW.trod enc P w base spare held n e c=some y->R c) :
 ∃a rows cap,cs=[.slice a rows.length cap]∧BR w k (.slice a rows.length cap) rows∧(∀r∈rows,R r∧r.length=k)∧rows.length<=cap∧cap<=maxLen:=by
 rcases DataW.trod_slice G h with ⟨rfl,_⟩|⟨a,len,cap,elems,rest,n,rfl,rfl,_,hb,hl,A,hlen,v,_,_⟩
 .exact ⟨none,[],0,O,BR.nil _ _ _ _,qP,qP,by simp[maxLen]⟩
 .have s:∀i,i<len->∃c,w.cells? base (a.add (i*k)) k=some c∧R c:=by
   intro i hi;have:=v i hi;rw[List.getElem?_eq_getElem qO,K,Option.bind_eq_some_iff] at this;obtain ⟨c,p,g⟩:=this;exact ⟨c,p,I n c _ qO g⟩
  have C:∀m,m<=len->∃rows:List (List Value),rows.length=m∧∀i r,rows[i]?=some r->w.cells? base (a.add (i*k)) k=some r∧R r:=by
   intro m
   induction m with
   | zero=>intro _;exact ⟨[],O,qP⟩
   | succ m ih=>
    intro A;obtain ⟨rows,p,g⟩:=ih qO;obtain ⟨c,u,M⟩:=s m qO;refine ⟨rows++[c],by simp[p],λi r f=>?_⟩;rcases Nat.lt_or_ge i rows.length with hi|hi
    .rw[List.getElem?_append_left hi] at f;exact g i r f
    .rw[List.getElem?_append_right hi] at f;have z:=AM f;simp at z;obtain rfl:i=m:=qO
     simp[p] at f;subst f;exact ⟨u,M⟩
  obtain ⟨rows,E,d⟩:=C len (Nat.le_refl _);have q:rows.length<=9223372036854775807:=by simp only[maxLen] at A;omega
  refine ⟨some a,rows,cap,by rw[E],⟨some a,cap,O,q,qO,?_⟩,?_,qO,A⟩
  .rcases Nat.eq_zero_or_pos len with L|L
   .left;exact List.eq_nil_of_length_eq_zero qO
   .right;obtain ⟨J,B⟩:=AX (l:=rows) (i:=0) qO;have p:=(d 0 J B).1;have N:a.add (0*k)=a:=by simp[Addr.add]
    rw[N] at p;obtain ⟨b,o,rfl,_,_⟩:=LB D p;refine ⟨b,o,O,λi r f=>?_⟩;have g:=(d i r f).1;rw[Addr.add_lit] at g;obtain ⟨b',o',F,_,u⟩:=LB D g;cases F;exact u
  .intro r f;obtain ⟨i,hi⟩:=List.mem_iff_getElem?.1 f;have g:=d i r hi;obtain ⟨_,_,_,u,_⟩:=LB D g.1;exact ⟨g.2,u⟩
theorem Kk {t e b:Nat} {cs:List Value} {x:DataW H×List MemPlace} (g:P.underlying t=some (.slice e)) (d:P.underlying e=some (.int .i64)) (c:P.cellsOf e=1)
 (h:DataW.trod enc P w base spare held b t cs=some x):∃a l cap,cs=[.slice a l.length cap]∧BZ w (.slice a l.length cap) l:=by
 obtain ⟨a,rows,cap,rfl,j,k,_⟩:=L7 (R:=λcs=>∃n:Int,cs=GJ n) g c qD h (λn cs' y _ f=>by
  obtain ⟨m,rfl,_⟩:=DataW.trod_int d f;exact ⟨m,O⟩)
 obtain ⟨l,rfl⟩:=N7 λr i=>(k r i).1;exact ⟨a,l,cap,qP,by simpa[BZ] using j⟩
end
section
variable {H : Type} {enc : TypeId × Value → H} {w : World} {base : Nat} {spare : Nat → Bool} {held : Bool}
theorem XF:prog.cellsOf 3=1:=by kernel_rfl
end
end Go.Proofs
namespace Go.Proofs
open Go Go.Eng
set_option maxRecDepth 100000
section
variable {H : Type} {enc : TypeId × Value → H} {w : World} {base : Nat} {spare : Nat → Bool} {held : Bool}
theorem Vw:prog.cellsOf 46=1:=by kernel_rfl
theorem Ku:∀{rows:List (List Value)},(∀r∈rows,∃(a:Option Addr) (l:List Int) (cap:Nat),r=[.slice a l.length cap]∧BZ w (.slice a l.length cap) l)->
 ∃(vs:List Value) (ll:List (List Int)),rows=vs.map (λx=>[x])∧vs.length=ll.length∧∀(i:Nat) (u:Value) (l:List Int),vs[i]?=some u->ll[i]?=some l->BZ w u l
 | [],_=>⟨[],[],O,O,λi u l h=>by simp at h⟩
 | r::rows,h=>by
  obtain ⟨vs,ll,rfl,f,g⟩:=Ku (rows:=rows) λr d=>h r (List.mem_cons_of_mem _ d);obtain ⟨a,l,cap,rfl,e⟩:=h r List.mem_cons_self;refine ⟨.slice a l.length cap::vs,l::ll,O,by simp[f],λi u m b c=>?_⟩;cases i with
  | zero=>simp at b c;subst b;subst c;exact e
  | succ i=>exact g i u m (by simpa using b) (by simpa using c)
theorem Pk {b:Nat} {cs:List Value} {x:DataW H×List MemPlace} (h:DataW.trod enc prog w base spare held b 26 cs=some x):∃a ll cap,cs=[.slice a (List.length (α:=List Int) ll) cap]∧Ec w (.slice a ll.length cap) ll:=by
 obtain ⟨a,rows,cap,rfl,j,k,_⟩:=L7 (R:=λcs=>∃(a:Option Addr) (l:List Int) (cap:Nat),cs=[.slice a l.length cap]∧BZ w (.slice a l.length cap) l) underlying26 Vw qD h (λn cs' y _ e=>by
  obtain ⟨a,l,c,g,i⟩:=Kk underlying46 underlying3 XF e;exact ⟨a,l,c,g,i⟩)
 obtain ⟨vs,ll,rfl,d,m⟩:=Ku λr f=>(k r f).1;exact ⟨a,ll,cap,by simp[d],vs,by simpa[d] using j,d,m⟩
end
end Go.Proofs
