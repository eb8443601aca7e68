/- Contracts and plain lemmas, part 4. -/
import Derived.Test.YtmkajlkbimgngaaGreatZo3
open Go.Proofs.Tryz
set_option maxHeartbeats 16000000
set_option linter.unusedVariables false
namespace Go.Proofs
open Go Go.Eng Go.Sort
set_option maxRecDepth 100000
theorem Tb {w:World} {b o:Nat} {v:Value} (h:w.cell? ⟨b,o,none⟩=some v):b<w.heap.size:=by
 apply Classical.byContradiction;intro hb;unfold World.cell? at h;rw[Array.getElem?_eq_none (by simpa using hb)] at h;cases h
def OI (m n9:Nat):El:=λv w=>∃g,v=.slice (some ⟨g,0,none⟩) ((m+7) / 8) ((m+7) / 8)∧Az w g (GW m λ_=>false) 5∧n9<=g
theorem Qy {m a:Nat}:∀v w w',Ao w w'->OI m a v w->OI m a v w':=by
 rintro v w w' x ⟨g,d,c,b⟩;exact ⟨g,d,x.keep c,b⟩
theorem Up {α:Type} {c most:Nat} {stp:α->Nat->Option α} {acc:α->Int} {a0:α} {base:Nat} {r:Value} {w:World} (h:JW c most stp acc a0 base r w) (b:¬GA c stp a0 most):r=.tuple #[.agg #[.int .i64 0,.slice none 0 0,.slice none 0 0],.bool false]:=by
 rcases h with ⟨a,_⟩|⟨_,a⟩
 .exact absurd a b
 .exact a
def Ot (c:Nat) (f:List Nat->Int) (base:Nat) (r:Value) (w:World):Prop:=∃C ca cc ma mc,Db c f C∧C.next.length<=20000∧(∀x∈C.accept,x<2147483648)∧r=.tuple #[.agg #[.int .i64 C.start,.slice ca C.accept.length cc,.slice ma C.next.length mc],.bool true]∧DV base w C [.int .i64 C.start,.slice ca C.accept.length cc,.slice ma C.next.length mc]
theorem Xk {α:Type} {c most:Nat} {stp:α->Nat->Option α} {acc:α->Int} {a0:α} {base d:Nat} {r:Value} {w:World} (h:JW c most stp acc a0 base r w) (b:GA c stp a0 most) (hb:d<=base):∃u,r=.tuple #[u,.bool true]∧Xl c most stp acc a0 d u w:=by
 rcases h with ⟨_,D,v,a,e,k,l,f,j,vs,i,g⟩|⟨a,_⟩
 .exact ⟨v,e,D,k,l,f,j,vs,i,a most b,g.low hb⟩
 .exact absurd b a
def Tx (r:Value):Prop:=r=.tuple #[.agg #[.int .i64 0,.slice none 0 0,.slice none 0 0],.bool false]
open Classical in
noncomputable def catB (a b:Dfa) (w:List Nat):Int:=if VE (beh a a.start) (beh b b.start) w then 0 else -1
def DU {α:Type} (ok:Bool) (c most:Nat) (stp:α->Nat->Option α) (acc:α->Int) (a0:α) (base:Nat):El:=λv w=>∃D ea ec na nc vs,v=.agg #[.int .i64 D.start,.slice ea D.accept.length ec,.slice na D.next.length nc]∧(ok=true->ExpOf c most stp acc a0 D∧OutSt w base (.slice ea D.accept.length ec) (.slice na D.next.length nc) vs D.accept D.next)
section
variable {α : Type} {ok : Bool} {c most : Nat} {stp : α → Nat → Option α} {acc : α → Int} {a0 : α} {base : Nat}
theorem Da:∀v w w',Ao w w'->DU ok c most stp acc a0 base v w->DU ok c most stp acc a0 base v w':=by
 rintro v w w' x ⟨D,f,g,b,e,vs,d,a⟩;exact ⟨D,f,g,b,e,vs,d,λh=>⟨(a h).1,(a h).2.ext x⟩⟩
theorem JO:∀u w,DU ok c most stp acc a0 base u w->∃vs:Array Value,u=.agg vs∧vs.size=3∧∀v∈vs.toList,v.oneCell'=true:=by
 rintro u w ⟨D,ea,ec,na,nc,vs,a,h2⟩;exact ⟨_,a,O,by simp[Value.oneCell']⟩
theorem JN {b:Nat} {cs:Array Value}:∀u w w',Az w b cs 52->Chg (λy=>y=b) w w'->DU ok c most stp acc a0 base u w->DU ok c most stp acc a0 base u w':=by
 rintro u w w' g x ⟨D,l,m,f,k,vs,i,d⟩;exact ⟨D,l,m,f,k,vs,i,λa=>⟨(d a).1,(d a).2.chg x (λy j h=>OutSt.typ (d a).2 g qD qD (by have e:y=b:=h;rw[<-e];exact j))⟩⟩
theorem Mt {b:Nat} {r:Value} {w:World} (h:JW c most stp acc a0 base r w) (a:ok=true↔GA c stp a0 most) (hb:b<=base):∃u,r=.tuple #[u,.bool ok]∧DU ok c most stp acc a0 b u w:=by
 cases ok with
 | true=>
  obtain ⟨u,l,D,k,m,e,j,vs,i,g,f⟩:=Xk h (a.1 O) hb;exact ⟨u,l,D,k,m,e,j,vs,i,λ_=>⟨g,f⟩⟩
 | false=>exact ⟨_,Up h λd=>(by cases a.2 d),⟨0,[],[]⟩,none,0,none,0,[],O,λh=>by cases h⟩
end
theorem PW (p:Prop):∃ok:Bool,(ok=true↔p):=by
 by_cases h:p
 .exact ⟨true,by simp[h]⟩
 .exact ⟨false,by simp[h]⟩
theorem WK (w0:World) (n m c:Nat) (a b:Dfa) (av bv:List Value) (oka:OkD n c a) (okb:OkD m c b) (ha:B' w0 a av) (hb:B' w0 b bv) (hc:1≤c∧c≤16) (hn:n≤20000) (hm:m≤20000) :
  CJ prog 165 #[.agg av.toArray,.agg bv.toArray] w0 fun r w=>((GA c (Ee a b m) (FU a b m) 20000∧Ot c (catB a b) w0.heap.size r w)∨(¬GA c (Ee a b m) (FU a b m) 20000∧Tx r))∧Ao w0 w:=by
 have bm:=ha;have bo:=hb;have hal:=oka.al;have hbl:=okb.al;have hnl:=oka.nl;have cm:=okb.nl;have hst:=oka.st;obtain ⟨aa,ac,na,nc,rfl,b5,a3⟩:=bm;obtain ⟨bd,bc,ap,am,rfl,_,_⟩:=bo;obtain ⟨nb,no,rfl,bh⟩:=Ca (n:=a.next.length) a3 qO;obtain ⟨row,ao⟩:=AL (l:=a.next) (i:=0) qO;have cj:=(oka.row row (List.mem_of_getElem? ao)).1;obtain ⟨ra,rc,ae,bj⟩:=bh 0 row ao;rw[cj] at ae bj;have ck:=Tb ae;subst cm;obtain ⟨ok,hk⟩:=PW (GA c (Ee a b b.next.length) (FU a b b.next.length) 20000);refine qR func165 rfl ntmps165 rfl (fun E=>(Y (BM (v:=(.agg #[(I6 a.start),(.slice aa a.accept.length ac),(.slice (some ⟨nb,no,none⟩) a.next.length nc)])) (c:=#[(I6 a.start),(.slice aa a.accept.length ac),(.slice (some ⟨nb,no,none⟩) a.next.length nc)]) qD rfl rfl ?_)));intro bp wp Np;have Fp:=Np.ge E;replace E:=E.ext Np.ext;have Bp:=Np.blk;refine BM (v:=(.agg #[(I6 b.start),(.slice bd b.accept.length bc),(.slice ap b.next.length am)])) (c:=#[(I6 b.start),(.slice bd b.accept.length bc),(.slice ap b.next.length am)]) qD rfl rfl ?_;intro bq wq Nq;have Fq:=Nq.ge E;have Oq_bp:=Nq.lt Bp;replace Bp:=Nq.keep Bp;replace E:=E.ext Nq.ext;have Bq:=Nq.blk;refine BO (c:=#[(I6 0),(.slice none 0 0),(.slice none 0 0)]) qD CU rfl ?_;intro br wr Nr;have Fr:=Nr.ge E;have Or_bp:=Nr.lt Bp;have Or_bq:=Nr.lt Bq;replace Bp:=Nr.keep Bp;replace Bq:=Nr.keep Bq;replace E:=E.ext Nr.ext;have Br:=Nr.blk;refine qA (.bool false) rfl (AA (Y (qV (CA (vs:=[]) (us:=[(P6 bp 0),(P6 bq 0)]) rfl rfl) (Au (v:=(.func (.func 178) #[] #[(P6 bp 0),(P6 bq 0)])) (c:=#[(.func (.func 178) #[] #[(P6 bp 0),(P6 bq 0)])]) (n:=1) qD Vb rfl Vk rfl rfl rfl qS ?_))));intro bf wf Nf;have Ff:=Nf.ge E;have Of_bp:=Nf.lt Bp;have Of_bq:=Nf.lt Bq;have Of_br:=Nf.lt Br;replace Bp:=Nf.keep Bp;replace Bq:=Nf.keep Bq;replace Br:=Nf.keep Br;replace E:=E.ext Nf.ext;have Bf:=Nf.blk;refine AA ?_;obtain ⟨n9,ar⟩:∃n9,n9=(wf).heap.size:=⟨_,rfl⟩;have hpq:bp<n9∧bq<n9∧bf<n9∧nb<n9:=⟨by rw[ar];exact Bp.lt,by rw[ar];exact Bq.lt,by rw[ar];exact Bf.lt,by rw[ar];have:=E.size;omega⟩;have cf:w0.heap.size≤wf.heap.size:=E.size;have ax:bp<wf.heap.size:=Bp.lt;have au:bq<wf.heap.size:=Bq.lt;have ay:br<wf.heap.size:=Br.lt;have a1:bf<wf.heap.size:=Bf.lt;refine AE ?_;obtain ⟨cl,ab⟩:∃Fs:List CZ,Fs=[(eF (.func (.func 178) #[] #[(P6 bp 0),(P6 bq 0)])),(eF (P6 bp 0)),(eF (I6 a.start)),(eF (P6 bq 2)),(eF (.slice ap b.next.length am)),(eF (I6 (b.next.length:Int))),(fun S _ v w=>S 7=false→(OI b.next.length n9) v w),(eF (.agg #[(I6 a.start),(.string ((FU a b b.next.length).2))])),(eF (P6 bp 2)),(eF (.slice (some ⟨nb,no,none⟩) a.next.length nc)),(eF (.pointer (some ⟨nb,no+0,none⟩))),(eF (.slice ra c rc)),(eF (I6 (c:Int))),(eF (.func (.func 182) #[] #[(P6 bp 0),(P6 bq 0),(P6 bf 0)])),(eF (.func (.func 184) #[] #[(P6 bq 0)])),(fun S s v w=>G_ 20 [(.bool ok)] (DU ok c 20000 (Ee a b b.next.length) (G' b b.next.length) (FU a b b.next.length) n9) S s v w),(fun S s v w=>G_ 20 [(.bool ok)] (DU ok c 20000 (Ee a b b.next.length) (G' b b.next.length) (FU a b b.next.length) n9) S s v w),(fun S _ v w=>S 20=false→(DU ok c 20000 (Ee a b b.next.length) (G' b b.next.length) (FU a b b.next.length) n9) v w),(eF (.bool ok)),(fun S _ v w=>S 20=false→((M7 52 #[(I6 0),(.slice none 0 0),(.slice none 0 0)] wf.heap.size)) v w),(fun S s v w=>Jn 7 wf.heap.size 52 (DU ok c 20000 (Ee a b b.next.length) (G' b b.next.length) (FU a b b.next.length) n9) S s v w),(eF undef)]:=⟨_,rfl⟩;refine M9 (ND [(7,(fun y=>n9≤y)),(20,(fun y=>wf.heap.size≤y))]) (VX [(7,Tz 5)]) ([]) ((fun _=>False)) [true,true,true,true,true,true,true,true,true,true,true,true,true,true,true,true,true,true,true,true,true,false] [21] [11,12,13,14,15,16,17,18,19,20,21,22,23,24,25,26,10,27,28,7,54,55] [[],[],[1],[],[3],[4],[5],[0,2,6],[],[8],[9],[10],[11],[],[],[7,12,13,14],[15],[16],[16],[],[0,1,2,3,4,5,6,7,8,9,10,11,12,13,14,15,16,17,19],[]] [[],[],[1],[],[3],[4,3],[5,4,3],[0,2,1,6,5,4,3],[],[8],[9,8],[10,9,8],[11,10,9,8],[],[],[7,0,2,1,6,5,4,3,12,11,10,9,8,13,14],[15,7,0,2,1,6,5,4,3,12,11,10,9,8,13,14],[16,15,7,0,2,1,6,5,4,3,12,11,10,9,8,13,14],[16,15,7,0,2,1,6,5,4,3,12,11,10,9,8,13,14],[],[0,1,2,3,4,5,6,7,8,9,10,11,12,13,14,15,16,17,19],[]] cl ab qK mixed qK qK qK qK ?_ ((fun _ _ _ _ _ h=>h.elim)) ?_
 ·intro wd X0;refine DagStepsG.cons (CS.eq) (CT.const) (fun S s' w' hi hN X U V H=>Or.inl ⟨AQ rfl,?_⟩) ?_
  ·replace X:=VH (hN 7 rfl) (hN 20 rfl) X;exact L7 qD (AX (AD (v:=(.func (.func 178) #[] #[(.pointer (some ⟨bp,0,none⟩)),(.pointer (some ⟨bq,0,none⟩))])) (U 6 rfl) QI (((X0.trans X).keep Bf).cell rfl)) rfl)
  refine DagStepsG.cons (CS.eq) (CT.const) (fun S s' w' hi hN X U V H=>Or.inl ⟨AQ rfl,?_⟩) ?_
  ·replace X:=VH (hN 7 rfl) (hN 20 rfl) X;exact L7 qD (AX (AN (b:=bp) (o:=0) (o':=0) (U 2 rfl) underlying52 rfl Ab rfl) rfl)
  refine DagStepsG.cons (CS.eq) (CT.const) (fun S s' w' hi hN X U V H=>Or.inl ⟨AQ rfl,?_⟩) ?_
  ·replace X:=VH (hN 7 rfl) (hN 20 rfl) X;have bx:=(H 1 rfl).2 12 _ rfl (by rw[ab];rfl);exact L7 qD (AX (AD (v:=(.int .i64 a.start)) bx Aa (((X0.trans X).keep Bp).cell rfl)) rfl)
  refine DagStepsG.cons (CS.eq) (CT.const) (fun S s' w' hi hN X U V H=>Or.inl ⟨AQ rfl,?_⟩) ?_
  ·replace X:=VH (hN 7 rfl) (hN 20 rfl) X;exact L7 qD (AX (AN (b:=bq) (o:=0) (o':=2) (U 3 rfl) underlying52 rfl CB rfl) rfl)
  refine DagStepsG.cons (CS.eq) (CT.const) (fun S s' w' hi hN X U V H=>Or.inl ⟨AQ rfl,?_⟩) ?_
  ·replace X:=VH (hN 7 rfl) (hN 20 rfl) X;have cd:=(H 3 rfl).2 14 _ rfl (by rw[ab];rfl);exact L7 qD (AX (AD (v:=(.slice ap b.next.length am)) cd B0 (((X0.trans X).keep Bq).cell rfl)) rfl)
  refine DagStepsG.cons (CS.eq) (CT.const) (fun S s' w' hi hN X U V H=>Or.inl ⟨AQ rfl,?_⟩) ?_
  ·replace X:=VH (hN 7 rfl) (hN 20 rfl) X;have bt:=(H 4 rfl).2 15 _ rfl (by rw[ab];rfl);exact L7 qD (AX (AH (ad:=ap) (n:=b.next.length) (cap:=am) underlying50 bt) rfl)
  refine DagStepsG.cons (CS.till (U:=AZ) (Qy) (fun p y hp hw ag hq h=>by
     rcases B7 h with ⟨rfl,h0⟩|h0
     ·exact absurd rfl ag
     rcases B7 h0 with ⟨rfl,h1⟩|h1
     ·exact Bool.noConfusion (show true=false from hq)
     exact h1.elim)) (CT.const) (fun S s' w' hi hN X U V H=>Or.inl ⟨AQ rfl,?_⟩) ?_
  ·replace X:=VH (hN 7 rfl) (hN 20 rfl) X;have b0:=(H 5 rfl).2 16 _ rfl (by rw[ab];rfl);exact L7 qD (Cw (AT (vs:=[(.int .i64 ((b.next.length:Nat):Int))]) func181 kQ kQ (LL b0)) ((KR _ b.next.length qO).mono (fun v w h=>⟨fun _=>(by obtain ⟨g,h1,h2,h3⟩:=h.1;exact ⟨g,h1,h2,by have:=X0.size;have:=X.size;omega⟩),h.2⟩)))
  refine DagStepsG.cons (CS.eq) (CT.const) (fun S s' w' hi hN X U V H=>Or.inl ⟨AQ rfl,?_⟩) ?_
  ·replace X:=VH hi (hN 20 rfl) X;have bi:=(H 2 rfl).2 13 _ rfl (by rw[ab];rfl);obtain ⟨a0,bw,be,cb⟩:=(show (OI b.next.length n9) (s' 17) w' from ((H 6 rfl).2 17 (fun S _ v w=>S 7=false→(OI b.next.length n9) v w) rfl (by rw[ab];rfl)) hi);have ch:=(H 0 rfl).2 11 _ rfl (by rw[ab];rfl);exact Xy (Dv (D_ (first:=#[]) (cap:=#[(.pointer (some ⟨bp,0,none⟩)),(.pointer (some ⟨bq,0,none⟩))]) (vs:=[(.int .i64 a.start),(.slice (some ⟨a0,0,none⟩) ((b.next.length+7) / 8) ((b.next.length+7) / 8))]) (ws:=#[(.int .i64 a.start),(.slice (some ⟨a0,0,none⟩) ((b.next.length+7) / 8) ((b.next.length+7) / 8)),(.pointer (some ⟨bp,0,none⟩)),(.pointer (some ⟨bq,0,none⟩))]) ch func178 kQ kQ (JD bi bw) rfl) ((Tc _ n b.next.length c a b _ _ bp bq a0 a.start (fun _=>false) oka okb (ha.ext (Ao.trans E (X0.trans X))) (hb.ext (Ao.trans E (X0.trans X))) ((X0.trans X).keep Bp) ((X0.trans X).keep Bq) be qO hm ⟨qO,qO⟩).mono (fun v w h=>⟨⟨h.1,WI be h.2⟩,h.2.mono (fun y _ h=>by have h':y=a0:=h;rw[h'];exact Or.inl ⟨rfl,cb⟩)⟩)))
  refine DagStepsG.cons (CS.eq) (CT.const) (fun S s' w' hi hN X U V H=>Or.inl ⟨AQ rfl,?_⟩) ?_
  ·replace X:=RT (hN 20 rfl) X;exact L7 qD (AX (AN (b:=bp) (o:=0) (o':=2) (U 2 rfl) underlying52 rfl CB rfl) rfl)
  refine DagStepsG.cons (CS.eq) (CT.const) (fun S s' w' hi hN X U V H=>Or.inl ⟨AQ rfl,?_⟩) ?_
  ·replace X:=RT (hN 20 rfl) X;have bk:=(H 8 rfl).2 19 _ rfl (by rw[ab];rfl);exact L7 qD (AX (AD (v:=(.slice (some ⟨nb,no,none⟩) a.next.length nc)) bk B0 ((Chg.keep X kH (X0.keep Bp)).cell rfl)) rfl)
  refine DagStepsG.cons (CS.eq) (CT.const) (fun S s' w' hi hN X U V H=>Or.inl ⟨AQ rfl,?_⟩) ?_
  ·replace X:=RT (hN 20 rfl) X;have b1:=(H 9 rfl).2 20 _ rfl (by rw[ab];rfl);exact L7 qD (AX (AC (b:=nb) (o:=no) (len:=a.next.length) (cap:=nc) (i:=0) (o':=no+0) b1 rfl rfl underlying50 BG qO qO) rfl)
  refine DagStepsG.cons (CS.eq) (CT.const) (fun S s' w' hi hN X U V H=>Or.inl ⟨AQ rfl,?_⟩) ?_
  ·replace X:=RT (hN 20 rfl) X;have b8:=(H 10 rfl).2 21 _ rfl (by rw[ab];rfl);exact L7 qD (AX (AD (v:=(.slice ra c rc)) b8 BX (Chg.cell X kH (X0.cell (E.cell (fun f=>f) ae)))) rfl)
  refine DagStepsG.cons (CS.eq) (CT.const) (fun S s' w' hi hN X U V H=>Or.inl ⟨AQ rfl,?_⟩) ?_
  ·replace X:=RT (hN 20 rfl) X;have b2:=(H 11 rfl).2 22 _ rfl (by rw[ab];rfl);exact L7 qD (AX (AH (ad:=ra) (n:=c) (cap:=rc) underlying22 b2) rfl)
  refine DagStepsG.cons (CS.eq) (CT.const) (fun S s' w' hi hN X U V H=>Or.inl ⟨AQ rfl,?_⟩) ?_
  ·replace X:=RT (hN 20 rfl) X;exact L7 qD (AX (CA (vs:=[]) (us:=[(.pointer (some ⟨bp,0,none⟩)),(.pointer (some ⟨bq,0,none⟩)),(.pointer (some ⟨bf,0,none⟩))]) rfl (Qz (U 2 rfl) (U 3 rfl) (U 6 rfl))) rfl)
  refine DagStepsG.cons (CS.eq) (CT.const) (fun S s' w' hi hN X U V H=>Or.inl ⟨AQ rfl,?_⟩) ?_
  ·replace X:=RT (hN 20 rfl) X;exact L7 qD (AX (CA (vs:=[]) (us:=[(.pointer (some ⟨bq,0,none⟩))]) rfl (LL (U 3 rfl))) rfl)
  refine DagStepsG.cons (CS.tup (U:=AZ) (Da) (fun p y hp hw ag h=>by
     rcases B7 h with ⟨rfl,h0⟩|h0
     ·exact Bool.noConfusion (show true=false from hw)
     rcases B7 h0 with ⟨rfl,h1⟩|h1
     ·exact absurd rfl ag
     exact h1.elim)) (CT.const) (fun S s' w' hi hN X U V H=>Or.inl ⟨AQ rfl,?_⟩) ?_
  ·replace X:=RT (hN 20 rfl) X;have bg:=(H 7 rfl).2 18 _ rfl (by rw[ab];rfl);have b6:=(H 12 rfl).2 23 _ rfl (by rw[ab];rfl);have b4:=(H 13 rfl).2 24 _ rfl (by rw[ab];rfl);have bz:=(H 14 rfl).2 25 _ rfl (by rw[ab];rfl);exact L7 qD (DB (Cw (AT (vs:=[(.agg #[(.int .i64 a.start),(.string ((FU a b b.next.length).2))]),(.int .i64 ((c:Nat):Int)),(.func (.func 182) #[] #[(.pointer (some ⟨bp,0,none⟩)),(.pointer (some ⟨bq,0,none⟩)),(.pointer (some ⟨bf,0,none⟩))]),(.func (.func 184) #[] #[(.pointer (some ⟨bq,0,none⟩))]),(.int .i64 20000)]) func180 kQ kQ (Vz bg b6 b4 bz rfl)) (R:=fun v w=>∃u,v=.tuple (u::[(.bool ok)]).toArray∧(DU ok c 20000 (Ee a b b.next.length) (G' b b.next.length) (FU a b b.next.length) n9) u w) ((Uo _ (FU a b b.next.length) c 20000 _ _ (Ee a b b.next.length) (G' b b.next.length) hc qD (fun k _=>Tu b _ k) (fun w k x hE hr hx=>CV.mk (first:=#[]) (cap:=#[.pointer (some ⟨bp,0,none⟩),.pointer (some ⟨bq,0,none⟩),.pointer (some ⟨bf,0,none⟩)]) func182 kQ kQ rfl (WM w n b.next.length c a b _ _ bp bq bf x k oka okb (ha.ext (Ao.trans ((E.ext X0).step X (fun y hy h=>by first|omega|(dsimp only at h;omega))) hE)) (hb.ext (Ao.trans ((E.ext X0).step X (fun y hy h=>by first|omega|(dsimp only at h;omega))) hE)) (hE.keep (Chg.keep X kH (X0.keep Bp))) (hE.keep (Chg.keep X kH (X0.keep Bq))) (hE.keep (Chg.keep X kH (X0.keep Bf))) hm (Ma oka okb hr).1.2 (by rw[(Ma oka okb hr).2,Dc]) hx hc.2)) (fun w k hE hr=>CV.mk (first:=#[]) (cap:=#[.pointer (some ⟨bq,0,none⟩)]) func184 kQ kQ rfl (WL w b.next.length c b _ bq k okb (hb.ext (Ao.trans ((E.ext X0).step X (fun y hy h=>by first|omega|(dsimp only at h;omega))) hE)) (hE.keep (Chg.keep X kH (X0.keep Bq))) hm (by rw[(Ma oka okb hr).2,Dc])))).mono (fun v w h=>⟨Mt h.1 hk (by have:=X0.size;have:=X.size;omega),h.2⟩))) (fun v w h=>by obtain ⟨u,h1,h2⟩:=h;exact ⟨u,h1,fun _=>h2⟩))
  refine DagStepsG.cons (CS.tup (U:=AZ) (Da) (fun p y hp hw ag h=>by
     rcases B7 h with ⟨rfl,h0⟩|h0
     ·exact Bool.noConfusion (show true=false from hw)
     rcases B7 h0 with ⟨rfl,h1⟩|h1
     ·exact absurd rfl ag
     exact h1.elim)) (CT.const) (fun S s' w' hi hN X U V H=>Or.inl ⟨AQ rfl,?_⟩) ?_
  ·replace X:=RT (hN 20 rfl) X;exact L7 qD (AX (Ah (v:=s' 26) rfl) (by obtain ⟨u,h1,h2⟩:=(H 15 rfl).2 26 (fun S s v w=>G_ 20 [(.bool ok)] (DU ok c 20000 (Ee a b b.next.length) (G' b b.next.length) (FU a b b.next.length) n9) S s v w) rfl (by rw[ab];rfl);exact ⟨u,h1,fun _=>h2 (hN 20 rfl)⟩))
  refine DagStepsG.cons (CS.till (U:=AZ) (Da) (fun p y hp hw ag hq h=>by
     rcases B7 h with ⟨rfl,h0⟩|h0
     ·exact Bool.noConfusion (show true=false from hw)
     rcases B7 h0 with ⟨rfl,h1⟩|h1
     ·exact absurd rfl ag
     exact h1.elim)) (CT.const) (fun S s' w' hi hN X U V H=>Or.inl ⟨AQ rfl,?_⟩) ?_
  ·replace X:=RT (hN 20 rfl) X;obtain ⟨u9,e9,g9⟩:=(H 16 rfl).2 10 (fun S s v w=>G_ 20 [(.bool ok)] (DU ok c 20000 (Ee a b b.next.length) (G' b b.next.length) (FU a b b.next.length) n9) S s v w) rfl (by rw[ab];rfl);exact L7 qD (AX (Ai (vs:=(u9::[(.bool ok)]).toArray) (v:=u9) e9 rfl) (fun _=>g9 (hN 20 rfl)))
  refine DagStepsG.cons (CS.eq) (CT.const) (fun S s' w' hi hN X U V H=>Or.inl ⟨AQ rfl,?_⟩) ?_
  ·replace X:=X.mono (M':=(fun y=>(fun y=>n9≤y) y∨((fun y=>wf.heap.size≤y) y))) (fun y _ h=>by
     obtain ⟨j,hj,h⟩:=h;rcases B7 h with ⟨rfl,h0⟩|h0
     ·exact (Or.inl h0)
     rcases B7 h0 with ⟨rfl,h1⟩|h1
     ·exact (Or.inr h1)
     exact h1.elim)
   obtain ⟨u9,e9,_⟩:=(H 16 rfl).2 10 (fun S s v w=>G_ 20 [(.bool ok)] (DU ok c 20000 (Ee a b b.next.length) (G' b b.next.length) (FU a b b.next.length) n9) S s v w) rfl (by rw[ab];rfl);exact L7 qD (AX (Ai (vs:=(u9::[(.bool ok)]).toArray) (v:=(.bool ok)) e9 rfl) rfl)
  refine DagStepsG.cons (CS.till1 (U:=AZ) (WT qD) (fun v w w' x h=>Ix _ _ _ v w w' x h) (fun p y hp ag hw b3 hq h=>by
     rcases B7 h with ⟨rfl,h0⟩|h0
     ·exact absurd rfl ag
     rcases B7 h0 with ⟨rfl,h1⟩|h1
     ·exact absurd rfl b3
     exact h1.elim)) (CT.const) (fun S s' w' hi hN X U V H=>Or.inl ⟨AQ rfl,?_⟩) ?_
  ·replace X:=RT (hN 20 rfl) X;exact L7 qD (DB (Ez (c:=#[(.int .i64 0),(.slice none 0 0),(.slice none 0 0)]) (hs:=wf.heap.size) CU rfl (by have:=X0.size;have:=X.size;omega)) (R':=fun v w=>IE S 19 20=false→(M7 52 #[(.int .i64 0),(.slice none 0 0),(.slice none 0 0)] wf.heap.size) v w) (fun _ _ h _=>h))
  refine DagStepsG.cons (CS.put (Da) (fun p y hp hw h=>by
     rcases B7 h with ⟨rfl,h0⟩|h0
     ·exact Bool.noConfusion (show true=false from hw)
     rcases B7 h0 with ⟨rfl,h1⟩|h1
     ·exact absurd rfl hp
     exact h1.elim)) (CT.put (j:=19) rfl rfl) (fun S s' w' hi hN X U V H=>Or.inl ⟨AQ rfl,?_⟩) ?_
  ·replace X:=RT hi X;obtain ⟨b9,e9,B9,l9⟩:=((H 19 rfl).2 7 (fun S _ v w=>S 20=false→((M7 52 #[(.int .i64 0),(.slice none 0 0),(.slice none 0 0)] wf.heap.size)) v w) rfl (by rw[ab];rfl)) hi;have g9:=((H 17 rfl).2 27 (fun S _ v w=>S 20=false→(DU ok c 20000 (Ee a b b.next.length) (G' b b.next.length) (FU a b b.next.length) n9) v w) rfl (by rw[ab];rfl)) hi;exact L7 qD (DB (IM (n:=3) e9 rfl g9 B9 rfl Ap (JO) (JN) (by first|exact .inl ⟨rfl,l9⟩|exact .inr (.inl ⟨rfl,l9⟩))) (fun v w h=>by obtain ⟨vs,h1,h2⟩:=h;exact ⟨b9,vs,e9,l9,h1,h2⟩))
  refine DagStepsG.tail ?_;exact DagStepsG.nil
 ·intro s' wd1 w1 X0 X1 U H;replace X1:=X1.mono (M':=(fun y=>(fun y=>n9≤y) y∨((fun y=>wf.heap.size≤y) y))) (fun y _ h=>by
    obtain ⟨j,hj,h⟩:=h;rcases B7 h with ⟨rfl,h0⟩|h0
    ·exact (Or.inl h0)
    rcases B7 h0 with ⟨rfl,h1⟩|h1
    ·exact (Or.inr h1)
    exact h1.elim)
  have ce:=H 18 rfl 28 _ rfl (by rw[ab];rfl);obtain ⟨bu,a5,bn,l54,ai,b7⟩:=(show ((fun S s v w=>Jn 7 wf.heap.size 52 (DU ok c 20000 (Ee a b b.next.length) (G' b b.next.length) (FU a b b.next.length) n9) S s v w):CZ) (Iw [true,true,true,true,true,true,true,true,true,true,true,true,true,true,true,true,true,true,true,true,true,false]) s' (s' 54) w1 from H 20 rfl 54 (fun S s v w=>Jn 7 wf.heap.size 52 (DU ok c 20000 (Ee a b b.next.length) (G' b b.next.length) (FU a b b.next.length) n9) S s v w) rfl (by rw[ab];rfl));obtain ⟨aq,bb,a2,ba,a4,a5,cg,ci⟩:=b7;cases cg;obtain ⟨j1,rfl⟩:=Af.out (σ:=s') (l:=[(4,(.pointer (some ⟨br,0,none⟩))),(28,(.bool ok)),(7,(.pointer (some ⟨bu,0,none⟩)))]) ⟨U 4 rfl,ce,bn,trivial⟩;clear U H;replace Bp:=Chg.keep X1 (fun h=>h.elim kH kH) (X0.keep Bp);replace Bq:=Chg.keep X1 (fun h=>h.elim kH kH) (X0.keep Bq);replace Br:=Chg.keep X1 (fun h=>h.elim kH kH) (X0.keep Br);replace Bf:=Chg.keep X1 (fun h=>h.elim kH kH) (X0.keep Bf);replace E:=(E.ext X0).step X1 (fun y hy h=>by first|omega|(dsimp only at h;omega));refine qA _ rfl (AA (AB ?_));rcases Bool.eq_false_or_eq_true (ok) with af|af
  ·have a7:=af;obtain ⟨ak,a8⟩:=ci af;refine AE (Y (qM _ rfl (qV (Cj rfl) ?_)));have a9:(!ok)=false:=by rw[af];rfl
   refine AA (AW (Aw a9) (AK (AB (Y (qV (AU (vs:=[(I6 aq.start),(.slice bb aq.accept.length a2),(.slice ba aq.next.length a4)]) rfl BC Ap rfl (ai.cells rfl)) ?_)))));obtain ⟨aw,ah⟩:∃aw,aw=(w1).heap.size:=⟨_,rfl⟩;have an:w0.heap.size≤aw∧br<aw:=⟨by rw[ah];exact E.size,by rw[ah];exact Br.lt⟩;refine qE rfl (AT func162 kQ kQ rfl) (HM _ aq.next.length c aq _ ak.ok a8.dfa ⟨by have:=ak.most;omega,hc⟩ ak.acc) ?_;rintro _ w99 ⟨⟨C,ca,cc,ma,mc,hC,hCl,bs,rfl,az⟩,aj⟩;replace Bp:=aj.keep Bp;replace Bq:=aj.keep Bq;replace Br:=aj.keep Br;replace Bf:=aj.keep Bf;replace ai:=aj.keep ai;replace a8:=a8.ext aj;replace E:=E.ext aj;rw[←ah] at az;refine Al (b:=br) (o:=0) (c':=#[(I6 C.start),(.slice ca C.accept.length cc),(.slice ma C.next.length mc)]) rfl rfl qS Ap rfl Br qL rfl ?_;intro w3 S3;replace az:=az.chg S3.chg fun y h=>by have h':y=br:=h;omega
   replace Bp:=S3.keep qO Bp;replace Bq:=S3.keep qO Bq;replace Bf:=S3.keep qO Bf;replace ai:=S3.keep qO ai;replace E:=S3.step E qQ;replace Br:=S3.blk;refine qA _ rfl (AA (AS (BJ results165 (vs:=[(.int .i64 C.start),(.slice ca C.accept.length cc),(.slice ma C.next.length mc)]) (b:=br) (v':=(.bool true)) rfl BC Ap rfl (Br.cells rfl) rfl ?_)));exact ⟨.inl ⟨hk.1 af,⟨C,ca,cc,ma,mc,hC.congr (fun w hw=>by rw[ak.start,ak.beh w hw];exact Tj okb w),by have:=ak.most;omega,bs,rfl,az.low an.1⟩⟩,E⟩
  ·have a7:=af;refine AE (Y (qM _ rfl (qV (Cj rfl) ?_)));have a6:(!ok)=true:=by rw[af];rfl
   refine AA (A4 (Aw a6) (Y (qV (BU (ps:=[]) (v:=(.agg #[(I6 0),(.slice none 0 0),(.slice none 0 0)])) rfl qK) (Al (b:=br) (o:=0) (c':=#[(I6 0),(.slice none 0 0),(.slice none 0 0)]) rfl rfl qS Ap rfl Br qL rfl ?_))));intro w5 S5;replace Bp:=S5.keep qO Bp;replace Bq:=S5.keep qO Bq;replace Bf:=S5.keep qO Bf;replace ai:=S5.keep qO ai;replace E:=S5.step E qQ;replace Br:=S5.blk;refine qA _ rfl (AA (AS (AO (BJ results165 (vs:=[(.int .i64 0),(.slice none 0 0),(.slice none 0 0)]) (b:=br) (v':=(.bool false)) rfl BC Ap rfl (Br.cells rfl) rfl ?_))));exact ⟨.inr ⟨fun h=>(by rw[hk.2 h] at af;cases af),rfl⟩,E⟩
end Go.Proofs
namespace Go.Proofs
open Go Go.Eng Go.Sort
set_option maxRecDepth 100000
theorem N_ (w0:World) (n m c:Nat) (a b:Dfa) (av bv:List Value) (both:Bool) (oka:OkD n c a) (okb:OkD m c b) (ha:B' w0 a av) (hb:B' w0 b bv) (hc:1≤c∧c≤16) (hnM:n≤20000∧m≤20000) (h1:∀x∈a.accept,x<2147483648) (h2:∀x∈b.accept,x<2147483648) :
  CJ prog 166 #[.agg av.toArray,.agg bv.toArray,.bool both] w0 fun r w=>((GA c (Et both a b) (a.start,b.start) 20000∧Ot c (fun w=>T1 both (beh a a.start w) (beh b b.start w)) w0.heap.size r w)∨(¬GA c (Et both a b) (a.start,b.start) 20000∧Tx r))∧Ao w0 w:=by
 have bh:=ha;have bi:=hb;have hal:=oka.al;have hbl:=okb.al;have hnl:=oka.nl;have hst:=oka.st;obtain ⟨aa,ac,na,nc,rfl,b0,ax⟩:=bh;obtain ⟨a9,a8,ba,a7,rfl,_,_⟩:=bi;obtain ⟨nb,no,rfl,bc⟩:=Ca (n:=a.next.length) ax qO;obtain ⟨row,an⟩:=AL (l:=a.next) (i:=0) qO;have b6:=(oka.row row (List.mem_of_getElem? an)).1;obtain ⟨ra,rc,ae,be⟩:=bc 0 row an;rw[b6] at ae be;obtain ⟨ok,hk⟩:=PW (GA c (Et both a b) (a.start,b.start) 20000);refine qR func166 rfl ntmps166 rfl (fun E=>(Y (BM (v:=(.agg #[(I6 a.start),(.slice aa a.accept.length ac),(.slice (some ⟨nb,no,none⟩) a.next.length nc)])) (c:=#[(I6 a.start),(.slice aa a.accept.length ac),(.slice (some ⟨nb,no,none⟩) a.next.length nc)]) qD rfl rfl ?_)));intro bp wp Np;have Fp:=Np.ge E;replace E:=E.ext Np.ext;have Bp:=Np.blk;refine BM (v:=(.agg #[(I6 b.start),(.slice a9 b.accept.length a8),(.slice ba b.next.length a7)])) (c:=#[(I6 b.start),(.slice a9 b.accept.length a8),(.slice ba b.next.length a7)]) qD rfl rfl ?_;intro bq wq Nq;have Fq:=Nq.ge E;have Oq_bp:=Nq.lt Bp;replace Bp:=Nq.keep Bp;replace E:=E.ext Nq.ext;have Bq:=Nq.blk;refine BM (v:=(.bool both)) (c:=#[(.bool both)]) qD rfl rfl ?_;intro bf wf Nf;have Ff:=Nf.ge E;have Of_bp:=Nf.lt Bp;have Of_bq:=Nf.lt Bq;replace Bp:=Nf.keep Bp;replace Bq:=Nf.keep Bq;replace E:=E.ext Nf.ext;have Bf:=Nf.blk;refine BO (c:=#[(I6 0),(.slice none 0 0),(.slice none 0 0)]) qD CU rfl ?_;intro br wr Nr;have Fr:=Nr.ge E;have Or_bp:=Nr.lt Bp;have Or_bq:=Nr.lt Bq;have Or_bf:=Nr.lt Bf;replace Bp:=Nr.keep Bp;replace Bq:=Nr.keep Bq;replace Bf:=Nr.keep Bf;replace E:=E.ext Nr.ext;have Br:=Nr.blk;refine qA _ rfl (AA ?_);obtain ⟨n9,hn9⟩:∃n9,n9=(wr).heap.size:=⟨_,rfl⟩;have b4:w0.heap.size≤wr.heap.size:=E.size;have aq:bp<wr.heap.size:=Bp.lt;have ao:bq<wr.heap.size:=Bq.lt;have aw:bf<wr.heap.size:=Bf.lt;have ar:br<wr.heap.size:=Br.lt;refine AE ?_;obtain ⟨b8,ab⟩:∃Fs:List CZ,Fs=[(eF (P6 bp 0)),(eF (I6 a.start)),(eF (P6 bq 0)),(eF (I6 b.start)),(eF (.agg #[(I6 a.start),(I6 b.start)])),(eF (P6 bp 2)),(eF (.slice (some ⟨nb,no,none⟩) a.next.length nc)),(eF (.pointer (some ⟨nb,no+0,none⟩))),(eF (.slice ra c rc)),(eF (I6 (c:Int))),(eF (.func (.func 187) #[] #[(P6 bp 0),(P6 bq 0),(P6 bf 0)])),(eF (.func (.func 188) #[] #[(P6 bp 0),(P6 bq 0),(P6 bf 0)])),(fun S s v w=>G_ 17 [(.bool ok)] (DU ok c 20000 (Et both a b) (Gj both a b) (a.start,b.start) n9) S s v w),(fun S s v w=>G_ 17 [(.bool ok)] (DU ok c 20000 (Et both a b) (Gj both a b) (a.start,b.start) n9) S s v w),(fun S _ v w=>S 17=false→(DU ok c 20000 (Et both a b) (Gj both a b) (a.start,b.start) n9) v w),(eF (.bool ok)),(fun S _ v w=>S 17=false→((M7 52 #[(I6 0),(.slice none 0 0),(.slice none 0 0)] wr.heap.size)) v w),(fun S s v w=>Jn 8 wr.heap.size 52 (DU ok c 20000 (Et both a b) (Gj both a b) (a.start,b.start) n9) S s v w),(eF undef)]:=⟨_,rfl⟩;refine GJ (ND [(17,(fun y=>wr.heap.size≤y))]) [true,true,true,true,true,true,true,true,true,true,true,true,true,true,true,true,true,true,false] [18] [11,12,13,14,15,16,17,18,19,20,21,22,23,10,24,25,8,48,49] [[],[0],[],[2],[1,3],[],[5],[6],[7],[8],[],[],[4,9,10,11],[12],[13],[13],[],[0,1,2,3,4,5,6,7,8,9,10,11,12,13,14,16],[]] [[],[0],[],[2],[1,0,3,2],[],[5],[6,5],[7,6,5],[8,7,6,5],[],[],[4,1,0,3,2,9,8,7,6,5,10,11],[12,4,1,0,3,2,9,8,7,6,5,10,11],[13,12,4,1,0,3,2,9,8,7,6,5,10,11],[13,12,4,1,0,3,2,9,8,7,6,5,10,11],[],[0,1,2,3,4,5,6,7,8,9,10,11,12,13,14,16],[]] b8 ab qK mixed qK qK qK qK ?_ ?_
 ·intro wd X0;refine qZ (fun S s' w' hi hN X U V H=>?_) ?_
  ·replace X:=Em (hN 17 rfl) X;exact AX (AN (U 3 rfl) underlying52 rfl Ab rfl) rfl
  refine qZ (fun S s' w' hi hN X U V H=>?_) ?_
  ·replace X:=Em (hN 17 rfl) X;have b5:=(H 0 rfl).2 11 _ rfl (by rw[ab];rfl);exact AX (AD b5 Aa (((X0.trans X).keep Bp).cell rfl)) rfl
  refine qZ (fun S s' w' hi hN X U V H=>?_) ?_
  ·replace X:=Em (hN 17 rfl) X;exact AX (AN (U 4 rfl) underlying52 rfl Ab rfl) rfl
  refine qZ (fun S s' w' hi hN X U V H=>?_) ?_
  ·replace X:=Em (hN 17 rfl) X;have bd:=(H 2 rfl).2 13 _ rfl (by rw[ab];rfl);exact AX (AD bd Aa (((X0.trans X).keep Bq).cell rfl)) rfl
  refine qZ (fun S s' w' hi hN X U V H=>?_) ?_
  ·replace X:=Em (hN 17 rfl) X;have bo:=(H 1 rfl).2 12 _ rfl (by rw[ab];rfl);have b3:=(H 3 rfl).2 14 _ rfl (by rw[ab];rfl);exact AX (BU (ps:=[(0,(I6 a.start)),(1,(I6 b.start))]) (v:=(.agg #[(I6 a.start),(I6 b.start)])) (XW bo b3) qK) rfl
  refine qZ (fun S s' w' hi hN X U V H=>?_) ?_
  ·replace X:=Em (hN 17 rfl) X;exact AX (AN (U 3 rfl) underlying52 rfl CB rfl) rfl
  refine qZ (fun S s' w' hi hN X U V H=>?_) ?_
  ·replace X:=Em (hN 17 rfl) X;have bu:=(H 5 rfl).2 16 _ rfl (by rw[ab];rfl);exact AX (AD bu B0 (((X0.trans X).keep Bp).cell rfl)) rfl
  refine qZ (fun S s' w' hi hN X U V H=>?_) ?_
  ·replace X:=Em (hN 17 rfl) X;have bn:=(H 6 rfl).2 17 _ rfl (by rw[ab];rfl);exact AX (AC (i:=0) bn rfl rfl underlying50 BG qO qO) rfl
  refine qZ (fun S s' w' hi hN X U V H=>?_) ?_
  ·replace X:=Em (hN 17 rfl) X;have bb:=(H 7 rfl).2 18 _ rfl (by rw[ab];rfl);exact AX (AD bb BX ((Ao.trans E (X0.trans X)).cell ae)) rfl
  refine qZ (fun S s' w' hi hN X U V H=>?_) ?_
  ·replace X:=Em (hN 17 rfl) X;have bg:=(H 8 rfl).2 19 _ rfl (by rw[ab];rfl);exact AX (AH underlying22 bg) rfl
  refine qZ (fun S s' w' hi hN X U V H=>?_) ?_
  ·replace X:=Em (hN 17 rfl) X;exact AX (CA rfl (Qz (U 3 rfl) (U 4 rfl) (U 5 rfl))) rfl
  refine qZ (fun S s' w' hi hN X U V H=>?_) ?_
  ·replace X:=Em (hN 17 rfl) X;exact AX (CA rfl (Qz (U 3 rfl) (U 4 rfl) (U 5 rfl))) rfl
  refine DagStepsS.cons (CY.tup (U:=AZ) (Da) (fun p y hp hw ag h=>by
     rcases B7 h with ⟨rfl,h0⟩|h0
     ·exact absurd rfl ag
     exact h0.elim)) (CT.const) (fun S s' w' hi hN X U V H=>Or.inl ⟨AQ rfl,?_⟩) ?_
  ·replace X:=Em (hN 17 rfl) X;have bk:=(H 4 rfl).2 15 _ rfl (by rw[ab];rfl);have bx:=(H 9 rfl).2 20 _ rfl (by rw[ab];rfl);have b1:=(H 10 rfl).2 21 _ rfl (by rw[ab];rfl);have bz:=(H 11 rfl).2 22 _ rfl (by rw[ab];rfl);exact DB (Cw (AT func186 kQ kQ (Vz bk bx b1 bz rfl)) (R:=fun v w=>∃u,v=.tuple (u::[(.bool ok)]).toArray∧(DU ok c 20000 (Et both a b) (Gj both a b) (a.start,b.start) n9) u w) ((Un _ (a.start,b.start) c 20000 _ _ (Et both a b) (Gj both a b) hc qD (fun k _=>Tt oka okb h1 h2 k) (fun w k x hE hr hx=>CV.mk (first:=#[]) (cap:=#[.pointer (some ⟨bp,0,none⟩),.pointer (some ⟨bq,0,none⟩),.pointer (some ⟨bf,0,none⟩)]) func187 kQ kQ rfl ((SI w n m c a b _ _ both bp bq bf k x oka okb (ha.ext (Ao.trans E ((X0.trans X).trans hE))) (hb.ext (Ao.trans E ((X0.trans X).trans hE))) (((X0.trans X).trans hE).keep Bp) (((X0.trans X).trans hE).keep Bq) (((X0.trans X).trans hE).keep Bf) ⟨(Ha oka okb hr).1.2,(Ha oka okb hr).2.2⟩ hx).mono fun v w2 h=>⟨⟨(BN a k.1 x,BN b k.2 x),by rw[(NJ both a b k x).1];exact h.1,(NJ both a b k x).2⟩,h.2⟩)) (fun w k hE hr=>CV.mk (first:=#[]) (cap:=#[.pointer (some ⟨bp,0,none⟩),.pointer (some ⟨bq,0,none⟩),.pointer (some ⟨bf,0,none⟩)]) func188 kQ kQ rfl (SH w n m c a b _ _ both bp bq bf k oka okb (ha.ext (Ao.trans E ((X0.trans X).trans hE))) (hb.ext (Ao.trans E ((X0.trans X).trans hE))) (((X0.trans X).trans hE).keep Bp) (((X0.trans X).trans hE).keep Bq) (((X0.trans X).trans hE).keep Bf) ⟨(Ha oka okb hr).1.2,(Ha oka okb hr).2.2⟩))).mono (fun v w h=>⟨Mt h.1 hk (by have:=X0.size;have:=X.size;omega),h.2⟩))) (fun v w h=>by obtain ⟨u,h1,h2⟩:=h;exact ⟨u,h1,fun _=>h2⟩)
  refine DagStepsS.cons (CY.tup (U:=AZ) (Da) (fun p y hp hw ag h=>by
     rcases B7 h with ⟨rfl,h0⟩|h0
     ·exact absurd rfl ag
     exact h0.elim)) (CT.const) (fun S s' w' hi hN X U V H=>Or.inl ⟨AQ rfl,?_⟩) ?_
  ·replace X:=Em (hN 17 rfl) X;exact AX (Ah rfl) (by obtain ⟨u,h1,h2⟩:=(H 12 rfl).2 23 (fun S s v w=>G_ 17 [(.bool ok)] (DU ok c 20000 (Et both a b) (Gj both a b) (a.start,b.start) n9) S s v w) rfl (by rw[ab];rfl);exact ⟨u,h1,fun _=>h2 (hN 17 rfl)⟩)
  refine DagStepsS.cons (CY.till (U:=AZ) (Da) (fun p y hp hw ag h=>by
     rcases B7 h with ⟨rfl,h0⟩|h0
     ·exact absurd rfl ag
     exact h0.elim)) (CT.const) (fun S s' w' hi hN X U V H=>Or.inl ⟨AQ rfl,?_⟩) ?_
  ·replace X:=Em (hN 17 rfl) X;obtain ⟨u9,e9,g9⟩:=(H 13 rfl).2 10 (fun S s v w=>G_ 17 [(.bool ok)] (DU ok c 20000 (Et both a b) (Gj both a b) (a.start,b.start) n9) S s v w) rfl (by rw[ab];rfl);exact AX (Ai e9 rfl) (fun _=>g9 (hN 17 rfl))
  refine qZ (fun S s' w' hi hN X U V H=>?_) ?_
  ·replace X:=RU X;obtain ⟨u9,e9,_⟩:=(H 13 rfl).2 10 (fun S s v w=>G_ 17 [(.bool ok)] (DU ok c 20000 (Et both a b) (Gj both a b) (a.start,b.start) n9) S s v w) rfl (by rw[ab];rfl);exact AX (Ai e9 rfl) rfl
  refine DagStepsS.cons (CY.till (U:=AZ) (fun v w w' x h=>Ix _ _ _ v w w' x h) (fun p y hp hw ag h=>by
     rcases B7 h with ⟨rfl,h0⟩|h0
     ·exact absurd rfl ag
     exact h0.elim)) (CT.const) (fun S s' w' hi hN X U V H=>Or.inl ⟨AQ rfl,?_⟩) ?_
  ·replace X:=Em (hN 17 rfl) X;exact DB (Ez (c:=#[(I6 0),(.slice none 0 0),(.slice none 0 0)]) (hs:=wr.heap.size) CU rfl (by have:=X0.size;have:=X.size;omega)) (R':=fun v w=>IE S 16 17=false→(M7 52 #[(I6 0),(.slice none 0 0),(.slice none 0 0)] wr.heap.size) v w) (fun _ _ h _=>h)
  refine DagStepsS.cons (CY.put (Da) (fun p y hp hw h=>by
     rcases B7 h with ⟨rfl,h0⟩|h0
     ·exact absurd rfl hp
     exact h0.elim)) (CT.put (j:=16) rfl rfl) (fun S s' w' hi hN X U V H=>Or.inl ⟨AQ rfl,?_⟩) ?_
  ·replace X:=Em hi X;obtain ⟨b9,e9,B9,l9⟩:=((H 16 rfl).2 8 (fun S _ v w=>S 17=false→((M7 52 #[(.int .i64 0),(.slice none 0 0),(.slice none 0 0)] wr.heap.size)) v w) rfl (by rw[ab];rfl)) hi;have g9:=((H 14 rfl).2 24 (fun S _ v w=>S 17=false→(DU ok c 20000 (Et both a b) (Gj both a b) (a.start,b.start) n9) v w) rfl (by rw[ab];rfl)) hi;exact DB (IM (n:=3) e9 rfl g9 B9 rfl Ap (JO) (JN) (by first|exact .inl ⟨rfl,l9⟩|exact .inr (.inl ⟨rfl,l9⟩))) (fun v w h=>by obtain ⟨vs,h1,h2⟩:=h;exact ⟨b9,vs,e9,l9,h1,h2⟩)
  refine DagStepsS.tail ?_;exact DagStepsS.nil
 ·intro s' wd1 w1 X0 X1 U H;replace X1:=X1.mono (M':=(fun y=>(fun y=>wr.heap.size≤y) y)) (fun y _ h=>by
    obtain ⟨j,hj,h⟩:=h;rcases B7 h with ⟨rfl,h0⟩|h0
    ·exact h0
    exact h0.elim)
  have bs:=H 15 rfl 25 _ rfl (by rw[ab];rfl);obtain ⟨bw,a2,bt,l48,ai,b7⟩:=(show ((fun S s v w=>Jn 8 wr.heap.size 52 (DU ok c 20000 (Et both a b) (Gj both a b) (a.start,b.start) n9) S s v w):CZ) (Iw [true,true,true,true,true,true,true,true,true,true,true,true,true,true,true,true,true,true,false]) s' (s' 48) w1 from H 17 rfl 48 (fun S s v w=>Jn 8 wr.heap.size 52 (DU ok c 20000 (Et both a b) (Gj both a b) (a.start,b.start) n9) S s v w) rfl (by rw[ab];rfl));obtain ⟨am,a3,a6,a5,a4,a2,bm,b2⟩:=b7;cases bm;obtain ⟨j1,rfl⟩:=Af.out (σ:=s') (l:=[(6,(.pointer (some ⟨br,0,none⟩))),(25,(.bool ok)),(8,(.pointer (some ⟨bw,0,none⟩)))]) ⟨U 6 rfl,bs,bt,trivial⟩;clear U H;replace Bp:=Chg.keep X1 kH (X0.keep Bp);replace Bq:=Chg.keep X1 kH (X0.keep Bq);replace Bf:=Chg.keep X1 kH (X0.keep Bf);replace Br:=Chg.keep X1 kH (X0.keep Br);replace E:=(E.ext X0).step X1 (fun y hy h=>by first|omega|(dsimp only at h;omega));refine qA _ rfl (AA (AB ?_));rcases Bool.eq_false_or_eq_true (ok) with ad|ad
  ·have az:=ad;obtain ⟨aj,a0⟩:=b2 ad;refine AE (Y (qM _ rfl (qV (Cj rfl) ?_)));have a1:(!ok)=false:=by rw[ad];rfl
   refine AA (AW (Aw a1) (AK (AB (Y (qV (AU (vs:=[(I6 am.start),(.slice a3 am.accept.length a6),(.slice a5 am.next.length a4)]) rfl BC Ap rfl (ai.cells rfl)) ?_)))));obtain ⟨ap,af⟩:∃ap,ap=(w1).heap.size:=⟨_,rfl⟩;have ak:w0.heap.size≤ap∧br<ap:=⟨by rw[af];exact E.size,by rw[af];exact Br.lt⟩;refine qE rfl (AT func162 kQ kQ rfl) (HM _ am.next.length c am _ aj.ok a0.dfa ⟨by have:=aj.most;omega,hc⟩ aj.acc) ?_;rintro _ w99 ⟨⟨C,ca,cc,ma,mc,hC,hCl,bj,rfl,au⟩,ah⟩;replace Bp:=ah.keep Bp;replace Bq:=ah.keep Bq;replace Bf:=ah.keep Bf;replace Br:=ah.keep Br;replace ai:=ah.keep ai;replace a0:=a0.ext ah;replace E:=E.ext ah;rw[←af] at au;refine Al (b:=br) (o:=0) (c':=#[(I6 C.start),(.slice ca C.accept.length cc),(.slice ma C.next.length mc)]) rfl rfl qS Ap rfl Br qL rfl ?_;intro w3 S3;replace au:=au.chg S3.chg fun y h=>by have h':y=br:=h;omega
   replace Bp:=S3.keep qO Bp;replace Bq:=S3.keep qO Bq;replace Bf:=S3.keep qO Bf;replace ai:=S3.keep qO ai;replace E:=S3.step E qQ;replace Br:=S3.blk;refine qA _ rfl (AA (AS (BJ results166 (vs:=[(.int .i64 C.start),(.slice ca C.accept.length cc),(.slice ma C.next.length mc)]) (b:=br) (v':=(.bool true)) rfl BC Ap rfl (Br.cells rfl) rfl ?_)));exact ⟨.inl ⟨hk.1 ad,⟨C,ca,cc,ma,mc,hC.congr (fun w hw=>by rw[aj.start,aj.beh w hw];exact K7 both a b w (a.start,b.start)),by have:=aj.most;omega,bj,rfl,au.low ak.1⟩⟩,E⟩
  ·have az:=ad;refine AE (Y (qM _ rfl (qV (Cj rfl) ?_)));have ay:(!ok)=true:=by rw[ad];rfl
   refine AA (A4 (Aw ay) (Y (qV (BU (ps:=[]) (v:=(.agg #[(I6 0),(.slice none 0 0),(.slice none 0 0)])) rfl qK) (Al (b:=br) (o:=0) (c':=#[(I6 0),(.slice none 0 0),(.slice none 0 0)]) rfl rfl qS Ap rfl Br qL rfl ?_))));intro w5 S5;replace Bp:=S5.keep qO Bp;replace Bq:=S5.keep qO Bq;replace Bf:=S5.keep qO Bf;replace ai:=S5.keep qO ai;replace E:=S5.step E qQ;replace Br:=S5.blk;refine qA _ rfl (AA (AS (AO (BJ results166 (vs:=[(.int .i64 0),(.slice none 0 0),(.slice none 0 0)]) (b:=br) (v':=(.bool false)) rfl BC Ap rfl (Br.cells rfl) rfl ?_))));exact ⟨.inr ⟨fun h=>(by rw[hk.2 h] at ad;cases ad),rfl⟩,E⟩
end Go.Proofs
namespace Go.Proofs
open Go Go.Eng Go.Sort
set_option maxRecDepth 100000
section
variable {P : Program} {σ : CN} {w : World} {dst : Option Tmp} {ty : TypeId} {pos : String} {af : Array Edge} {g : Option (Nat × Bool)} {t t' : TypeId} {x y : Operand}
theorem P2 {a b:ByteArray} (c:ev σ x=.string a) (d:ev σ y=.string b):(execOp (ev σ) ⟨dst,.binOp .eql t x y t',ty,pos,af,g⟩).run P w=.ok (.value (.bool (decide (a=b)))) w:=by
 have h:(a.toList == b.toList)=decide (a=b):=by
  by_cases e:a=b
  .rw[decide_eq_true e,(Lib.bytes_beq_iff a b).2 e]
  .rw[decide_eq_false e,(Lib.bytes_beq_false_iff a b).2 e]
 simp only[execOp,c,d,eqGuard,binOp];simp[Op.stringOp,h]
theorem SE {a b:ByteArray} (c:ev σ x=.string a) (d:ev σ y=.string b) (h:a.size+b.size<=9223372036854775807):(execOp (ev σ) ⟨dst,.binOp .add t x y t',ty,pos,af,g⟩).run P w=.ok (.value (.string (a++b))) w:=by
 simp only[execOp,c,d,eqGuard,binOp];simp[run_string_add_sum w a b h]
end
theorem S' {a:Dfa} {n:Nat} {M:Nat->Bool} (h:HS a n (Cn n M)=true):(λq=>M q || decide (((q:Nat):Int)=a.start))=HI a n M:=funext λq=>by
 unfold HI;rw[h,Bool.true_and]
theorem Ur {a:Dfa} {n:Nat} {M:Nat->Bool} (h:HS a n (Cn n M)=false):M=HI a n M:=funext λq=>by
 unfold HI;rw[h,Bool.false_and,Bool.or_false]
theorem Pw (e:World) (n c:Nat) (a:Dfa) (r:List Value) (k g:Nat) (M:Nat->Bool) (h:OkD n c a) (q:B' e a r) (b:Az e k r.toArray 52) (f:Az e g (GW n M) 5) (u:n<=20000) (hg:g≠k) :
 CJ prog 189 #[.slice (some ⟨g,0,none⟩) ((n+7) / 8) ((n+7) / 8),.pointer (some ⟨k,0,none⟩)] e λv w=>v=.string (Cn n (HI a n M))∧Chg (λy=>y=g) e w:=by
 have hst:=h.st;have hgl:=f.lt;have hal2:=b.lt;have m:=q;obtain ⟨s,t,z,A,rfl,_,_⟩:=m;refine F9 func189 O ntmps189 (Jo O) ?_;have E:Chg (λy=>y=g) e e:=Chg.refl _ _;refine Y (qA _ O (AA (AE (Y (qV (AU (vs:=[(I6 a.start),(.slice s a.accept.length t),(.slice z a.next.length A)]) O BC Ap O (b.cells O)) (qM _ O (qV (DS (l:=GN n M) underlying162 underlying5 underlying202 O f (ET n _)) (qE O (AT func185 kQ kQ O) (JU _ n c a _ (Cn n M) h (q) u (Dc n M)) ?_))))))));rintro _ w9 ⟨rfl,o⟩;replace b:=o.keep b;replace f:=o.keep f;replace E:=E.ext o;refine AA (A3 O (λi=>?_) (λi=>?_))
 .have p:=i;refine AG (qM _ O (qF k 0 0 O underlying52 O Ab O (qV (AD O Aa (b.cell O)) (qE O (AT func179 kQ kQ O) (Ph _ n g a.start M qO f qO) ?_))));rintro _ w19 ⟨rfl,j,d⟩;replace b:=j.keep qO b;replace E:=E.step j (by intro x hx hm;omega);rw[S' i] at d;refine AA (AB (Y (qM _ O (qV (DS (l:=GN n (HI a n M)) underlying162 underlying5 underlying202 O d (ET n _)) (qA _ O (AA (AS (AV results189 (v:=(.string (Cn n (HI a n M)))) O ?_))))))));exact ⟨O,E⟩
 .have p:=i;have d:=f;rw[Ur (a:=a) (n:=n) (M:=M) i] at d;refine AK (AB (Y (qM _ O (qV (DS (l:=GN n (HI a n M)) underlying162 underlying5 underlying202 O d (ET n _)) (qA _ O (AA (AS (AV results189 (v:=(.string (Cn n (HI a n M)))) O ?_))))))));exact ⟨O,E⟩
theorem NI (a:Dfa) (n:Nat) (bg k k':ByteArray) (x:Nat) (b:k'=if k=bg then FX a n else k):(EZ a n bg k x).isSome=D0 a n k' x∧∀q,EZ a n bg k x=some q->Cn n (HI a n (GB a n k' x))=q:=by
 unfold EZ;simp only[<-b];by_cases h:D0 a n k' x=true
 .rw[if_pos h,h];exact ⟨O,λq e=>Option.some.inj e⟩
 .rw[if_neg h];exact ⟨by simpa using h,λq e=>by cases e⟩
theorem UE (o:World) (n c:Nat) (a:Dfa) (P:List Value) (p R S Q K x:Nat) (k bg:ByteArray) (m:OkD n c a) (s:B' o a P) (d:Az o p P.toArray 52) (i:Az o S #[.string bg] 9) (h:Az o Q #[.slice (some ⟨K,0,none⟩) ((n+7) / 8) ((n+7) / 8)] 162) (j:Az o K (GW n λq=>decide (((q:Nat):Int)=a.start)) 5) (f:Az o R #[.func (.func 189) #[] #[.pointer (some ⟨p,0,none⟩)]] 217) (t:n<=20000) (U:k=bg∨k.size=(n+7) / 8) (u:x<c) (T:c<=16) :
 CJ prog 191 #[.string k,.int .i64 ((x:Nat):Int),.pointer (some ⟨S,0,none⟩),.pointer (some ⟨Q,0,none⟩),.pointer (some ⟨p,0,none⟩),.pointer (some ⟨R,0,none⟩)] o λv w=>(∃q:ByteArray,v=.tuple #[.string q,.bool (EZ a n bg k x).isSome]∧∀r,EZ a n bg k x=some r->q=r)∧Ao o w:=by
 have I:=s;obtain ⟨J,M,N,L,rfl,_,_⟩:=I;have hbal:=d.lt;have hbbl:=i.lt;have hbfl:=h.lt;have hgfl:=j.lt;have hbel:=f.lt;refine qR func191 O ntmps191 O (λE=>(Y (qA _ O (qA _ O (AA (AE (Y (qM _ O (qV (AD O Oc (i.cell O)) (B_ (v:=(.bool (decide (k=bg)))) O O qD (P2 O O) (AA (qC O (λy=>?_) (λy=>?_)))))))))))))
 .refine AG (qV (AD O Mq (h.cell O)) (qV (DS (l:=GN n λq=>decide ((q:Int)=a.start)) underlying162 underlying5 underlying9 O j (ET n _)) (qA _ O (AA (AB (Y (qV (AU (vs:=[(I6 a.start),(.slice J a.accept.length M),(.slice N a.next.length L)]) O BC Ap O (d.cells O)) (qM _ O (qM _ O ?_)))))))));obtain ⟨H,C⟩:=NI a n bg k (FX a n) x (by rw[if_pos y]);have z:=E.size;refine qE O (AT func183 kQ kQ O) (MU _ n c x a _ (FX a n) m (s.ext E) t (Dc n _) u T) ?_;rintro _ D ⟨⟨g,rfl,B,F⟩,b⟩;replace d:=b.keep d;replace i:=b.keep i;replace h:=b.keep h;replace j:=b.keep j;replace f:=b.keep f;replace E:=E.ext b;refine qM _ O (qV (Ai O O) (qV (Ai O O) (qA _ O (qA _ O (AA (Y (qV (AD O QH (f.cell O)) (qM _ O (qE O (D_ O func189 kQ kQ O O) (Pw _ n c a _ p g (GB a n (FX a n) x) m (s.ext E) d B t qO) ?_)))))))));rintro _ A ⟨rfl,e⟩;replace d:=e.keep qO d;replace i:=e.keep qO i;replace h:=e.keep qO h;replace j:=e.keep qO j;replace f:=e.keep qO f;replace E:=E.step e (by intro x u V;omega);refine qM _ O (qA _ O (qA _ O (AA (AS (Cl results191 (v:=(.string (Cn n (HI a n (GB a n (FX a n) x))))) (v':=(.bool (D0 a n (FX a n) x))) O O ?_)))));exact ⟨⟨Cn n (HI a n (GB a n (FX a n) x)),by rw[H],C⟩,E⟩
 .have G:k.size=(n+7) / 8:=U.resolve_left y;obtain ⟨H,C⟩:=NI a n bg k k x (by rw[if_neg y]);have z:=E.size;refine AK (AB (Y (qV (AU (vs:=[(I6 a.start),(.slice J a.accept.length M),(.slice N a.next.length L)]) O BC Ap O (d.cells O)) (qM _ O (qM _ O (qE O (AT func183 kQ kQ O) (MU _ n c x a _ k m (s.ext E) t G u T) ?_))))));rintro _ D ⟨⟨g,rfl,B,F⟩,b⟩;replace d:=b.keep d;replace i:=b.keep i;replace h:=b.keep h;replace j:=b.keep j;replace f:=b.keep f;replace E:=E.ext b;refine qM _ O (qV (Ai O O) (qV (Ai O O) (qA _ O (qA _ O (AA (Y (qV (AD O QH (f.cell O)) (qM _ O (qE O (D_ O func189 kQ kQ O O) (Pw _ n c a _ p g (GB a n k x) m (s.ext E) d B t qO) ?_)))))))));rintro _ A ⟨rfl,e⟩;replace d:=e.keep qO d;replace i:=e.keep qO i;replace h:=e.keep qO h;replace j:=e.keep qO j;replace f:=e.keep qO f;replace E:=E.step e (by intro x u V;omega);refine qM _ O (qA _ O (qA _ O (AA (AS (Cl results191 (v:=(.string (Cn n (HI a n (GB a n k x))))) (v':=(.bool (D0 a n k x))) O O ?_)))));exact ⟨⟨Cn n (HI a n (GB a n k x)),by rw[H],C⟩,E⟩
theorem UD (h:World) (n c:Nat) (a:Dfa) (o:List Value) (p r:Nat) (k bg:ByteArray) (m:OkD n c a) (q:B' h a o) (g:Az h p o.toArray 52) (f:Az h r #[.string bg] 9) (s:n<=20000) (x:k=bg∨k.size=(n+7) / 8) :
 CJ prog 192 #[.string k,.pointer (some ⟨r,0,none⟩),.pointer (some ⟨p,0,none⟩)] h λv w=>v=.int .i64 (GQ a n bg k)∧Ao h w:=by
 have l:=q;obtain ⟨t,z,u,y,rfl,_,_⟩:=l;refine qR func192 O ntmps192 O (λE=>(Y (qA _ O (AA (Y (qM _ O (qV (AD O Oc (f.cell O)) (B_ (v:=(.bool (decide (k=bg)))) O O qD (P2 O O) (qM _ O ?_)))))))));rcases Bool.eq_false_or_eq_true (decide (k=bg)) with d|d
 .have e:=d;replace e:=of_decide_eq_true e;refine AJ O O qD (v:=.bool true) (Aw d) (Or.inl O) (AJ O O qD (v:=.bool true) (Aw d) (Or.inl O) (AJ O O qD (v:=.bool true) (Aw d) (Or.inl O) (qV (Ac (v:=(.bool true)) O (by rw[d];rfl)) (qE O (AT func161 kQ kQ O) (HJ true _) ?_))));rintro _ i ⟨rfl,b⟩;replace g:=b.keep g;replace f:=b.keep f;replace E:=E.ext b;refine qA _ O (AA (AS (AV results192 (v:=(.int .i64 (if true=true then 0 else -1))) O ?_)));exact ⟨by unfold GQ Il;rw[d,Bool.true_or],E⟩
 .have e:=d;replace e:=of_decide_eq_false e;refine AF O O qD (Aw d) (qV (AU (vs:=[(I6 a.start),(.slice t a.accept.length z),(.slice u a.next.length y)]) O BC Ap O (g.cells O)) (AF O O qD (Aw d) (qM _ O (AF O O qD (Aw d) (qE O (AT func185 kQ kQ O) (JU _ n c a _ k m (q.ext E) s (x.resolve_left e)) ?_)))));rintro _ w9 ⟨rfl,j⟩;refine qV (Ac (v:=(.bool (HS a n k))) O (by rw[d];rfl)) (qE O (AT func161 kQ kQ O) (HJ (HS a n k) _) ?_);rintro _ i ⟨rfl,b⟩;replace g:=b.keep (j.keep g);replace f:=b.keep (j.keep f);replace E:=(E.ext j).ext b;refine qA _ O (AA (AS (AV results192 (v:=(.int .i64 (if HS a n k=true then 0 else -1))) O ?_)));exact ⟨by unfold GQ Il;rw[d,Bool.false_or],E⟩
open Classical in
noncomputable def starB (a:Dfa) (w:List Nat):Int:=if StarW (beh a a.start) w then 0 else -1
def Cf (a:Dfa) (n:Nat):ByteArray:=(⟨#[98,101,103,105,110]⟩:ByteArray)++FX a n
theorem MK (a:Dfa) (n:Nat):(Cf a n).size=5+(n+7) / 8:=by
 unfold Cf FX;rw[ByteArray.size_append,Dc];rfl
theorem UC (w0:World) (n c:Nat) (a:Dfa) (av:List Value) (oka:OkD n c a) (ha:B' w0 a av) (hc:1≤c∧c≤16) (hn:n≤20000) :
  CJ prog 167 #[.agg av.toArray] w0 fun r w=>((GA c (EZ a n (Cf a n)) (Cf a n) 20000∧Ot c (starB a) w0.heap.size r w)∨(¬GA c (EZ a n (Cf a n)) (Cf a n) 20000∧Tx r))∧Ao w0 w:=by
 have bz:=ha;have hal:=oka.al;have bh:=oka.nl;have hst:=oka.st;have a7:(Cf a n).size≠(n+7) / 8:=by rw[MK];omega
 obtain ⟨aa,ac,na,nc,rfl,b3,a8⟩:=bz;obtain ⟨nb,no,rfl,bb⟩:=Ca (n:=a.next.length) a8 qO;obtain ⟨row,ao⟩:=AL (l:=a.next) (i:=0) qO;have bs:=(oka.row row (List.mem_of_getElem? ao)).1;obtain ⟨ra,rc,af,bv⟩:=bb 0 row ao;rw[bs] at af bv;subst bh;obtain ⟨ok,hk⟩:=PW (GA c (EZ a a.next.length (Cf a a.next.length)) (Cf a a.next.length) 20000);refine qR func167 rfl ntmps167 rfl (fun E=>(Y (BM (v:=(.agg #[(I6 a.start),(.slice aa a.accept.length ac),(.slice (some ⟨nb,no,none⟩) a.next.length nc)])) (c:=#[(I6 a.start),(.slice aa a.accept.length ac),(.slice (some ⟨nb,no,none⟩) a.next.length nc)]) qD rfl rfl ?_)));intro bp wp Np;have Fp:=Np.ge E;replace E:=E.ext Np.ext;have Bp:=Np.blk;refine BO (c:=#[(I6 0),(.slice none 0 0),(.slice none 0 0)]) qD CU rfl ?_;intro br wr Nr;have Fr:=Nr.ge E;have Or_bp:=Nr.lt Bp;replace Bp:=Nr.keep Bp;replace E:=E.ext Nr.ext;have Br:=Nr.blk;refine qA _ rfl (AA (Y (qV (CA rfl rfl) (Au (v:=(.func (.func 189) #[] #[(P6 bp 0)])) (c:=#[(.func (.func 189) #[] #[(P6 bp 0)])]) (n:=1) qD Va rfl Vj rfl rfl rfl qS ?_))));intro be we Ne;have Fe:=Ne.ge E;have Oe_bp:=Ne.lt Bp;have Oe_br:=Ne.lt Br;replace Bp:=Ne.keep Bp;replace Br:=Ne.keep Br;replace E:=E.ext Ne.ext;have Be:=Ne.blk;refine AA (Y (qF bp 0 2 rfl underlying52 rfl CB rfl (qV (AD rfl B0 (Bp.cell rfl)) (qV (AH underlying50 rfl) ?_))));have hlt:bp<(we).heap.size∧br<(we).heap.size∧be<(we).heap.size∧w0.heap.size≤(we).heap.size:=⟨Bp.lt,Br.lt,Be.lt,E.size⟩;refine qE rfl (AT func181 kQ kQ rfl) (KR _ a.next.length qO) ?_;rintro _ w9 ⟨⟨g,rfl,hG,hg0⟩,X9⟩;replace Bp:=X9.keep Bp;replace Br:=X9.keep Br;replace Be:=X9.keep Be;replace E:=E.ext X9;refine Au (v:=(.slice (some ⟨g,0,none⟩) ((a.next.length+7) / 8) ((a.next.length+7) / 8))) (c:=#[(.slice (some ⟨g,0,none⟩) ((a.next.length+7) / 8) ((a.next.length+7) / 8))]) (n:=1) qD Vc rfl Vl rfl rfl rfl qS ?_;intro bf wf Nf;have Ff:=Nf.ge E;have Of_bp:=Nf.lt Bp;have Of_br:=Nf.lt Br;have Of_be:=Nf.lt Be;have Of_g:=Nf.lt hG;replace Bp:=Nf.keep Bp;replace Br:=Nf.keep Br;replace Be:=Nf.keep Be;replace hG:=Nf.keep hG;replace E:=E.ext Nf.ext;have Bf:=Nf.blk;refine AA (Y (qV (AD rfl Mq (Bf.cell rfl)) (qF bp 0 0 rfl underlying52 rfl Ab rfl (qV (AD rfl Aa (Bp.cell rfl)) (qE rfl (AT func179 kQ kQ rfl) (Ph _ a.next.length g a.start (fun _=>false) qO hG qO) ?_)))));rintro _ bw ⟨rfl,am,b0⟩;replace Bp:=am.keep qO Bp;replace Br:=am.keep qO Br;replace Be:=am.keep qO Be;replace Bf:=am.keep qO Bf;replace E:=E.step am (by intro x hx hm;omega);have hG:Az bw g (GW a.next.length fun q=>decide (((q:Nat):Int)=a.start)) 5:=by simpa only[Bool.false_or] using b0
 refine AA (Y (qV (AD rfl Mq (Bf.cell rfl)) (qV (DS (l:=GN a.next.length fun q=>decide ((q:Int)=a.start)) underlying162 underlying5 underlying9 rfl hG (ET _ _)) (B_ (v:=(.string (Cf a a.next.length))) rfl rfl qD (SE rfl rfl (by unfold FX;rw[Dc];show 5+_≤_;omega)) (Au (v:=(.string (Cf a a.next.length))) (c:=#[(.string (Cf a a.next.length))]) (n:=1) qD T2 rfl Qi rfl rfl rfl qS ?_)))));intro bq wq Nq;have Fq:=Nq.ge E;have Oq_bp:=Nq.lt Bp;have Oq_br:=Nq.lt Br;have Oq_be:=Nq.lt Be;have Oq_bf:=Nq.lt Bf;have Oq_g:=Nq.lt hG;replace Bp:=Nq.keep Bp;replace Br:=Nq.keep Br;replace Be:=Nq.keep Be;replace Bf:=Nq.keep Bf;replace hG:=Nq.keep hG;replace E:=E.ext Nq.ext;have Bq:=Nq.blk;refine AA ?_;obtain ⟨n9,hn9⟩:∃n9,n9=(wq).heap.size:=⟨_,rfl⟩;have b4:w0.heap.size≤wq.heap.size:=E.size;have ar:bp<wq.heap.size:=Bp.lt;have au:br<wq.heap.size:=Br.lt;have aw:be<wq.heap.size:=Be.lt;have ay:bf<wq.heap.size:=Bf.lt;have a0:g<wq.heap.size:=hG.lt;have ap:bq<wq.heap.size:=Bq.lt;refine AE ?_;obtain ⟨bu,ab⟩:∃Fs:List CZ,Fs=[(eF (.string (Cf a a.next.length))),(eF (P6 bp 2)),(eF (.slice (some ⟨nb,no,none⟩) a.next.length nc)),(eF (.pointer (some ⟨nb,no+0,none⟩))),(eF (.slice ra c rc)),(eF (I6 (c:Int))),(eF (.func (.func 191) #[] #[(P6 bq 0),(P6 bf 0),(P6 bp 0),(P6 be 0)])),(eF (.func (.func 192) #[] #[(P6 bq 0),(P6 bp 0)])),(fun S s v w=>G_ 13 [(.bool ok)] (DU ok c 20000 (EZ a a.next.length (Cf a a.next.length)) (GQ a a.next.length (Cf a a.next.length)) (Cf a a.next.length) n9) S s v w),(fun S s v w=>G_ 13 [(.bool ok)] (DU ok c 20000 (EZ a a.next.length (Cf a a.next.length)) (GQ a a.next.length (Cf a a.next.length)) (Cf a a.next.length) n9) S s v w),(fun S _ v w=>S 13=false→(DU ok c 20000 (EZ a a.next.length (Cf a a.next.length)) (GQ a a.next.length (Cf a a.next.length)) (Cf a a.next.length) n9) v w),(eF (.bool ok)),(fun S _ v w=>S 13=false→((M7 52 #[(I6 0),(.slice none 0 0),(.slice none 0 0)] wq.heap.size)) v w),(fun S s v w=>Jn 7 wq.heap.size 52 (DU ok c 20000 (EZ a a.next.length (Cf a a.next.length)) (GQ a a.next.length (Cf a a.next.length)) (Cf a a.next.length) n9) S s v w),(eF undef)]:=⟨_,rfl⟩;refine GJ (ND [(13,(fun y=>wq.heap.size≤y))]) [true,true,true,true,true,true,true,true,true,true,true,true,true,true,false] [14] [22,23,24,25,26,27,28,29,30,21,31,32,7,51,52] [[],[],[1],[2],[3],[4],[],[],[0,5,6,7],[8],[9],[9],[],[0,1,2,3,4,5,6,7,8,9,10,12],[]] [[],[],[1],[2,1],[3,2,1],[4,3,2,1],[],[],[0,5,4,3,2,1,6,7],[8,0,5,4,3,2,1,6,7],[9,8,0,5,4,3,2,1,6,7],[9,8,0,5,4,3,2,1,6,7],[],[0,1,2,3,4,5,6,7,8,9,10,12],[]] bu ab qK mixed qK qK qK qK ?_ ?_
 ·intro wd X0;refine qZ (fun S s' w' hi hN X U V H=>?_) ?_
  ·replace X:=Em (hN 13 rfl) X;exact AX (AD (U 6 rfl) Oc (((X0.trans X).keep Bq).cell rfl)) rfl
  refine qZ (fun S s' w' hi hN X U V H=>?_) ?_
  ·replace X:=Em (hN 13 rfl) X;exact AX (AN (U 1 rfl) underlying52 rfl CB rfl) rfl
  refine qZ (fun S s' w' hi hN X U V H=>?_) ?_
  ·replace X:=Em (hN 13 rfl) X;have bn:=(H 1 rfl).2 23 _ rfl (by rw[ab];rfl);exact AX (AD bn B0 (((X0.trans X).keep Bp).cell rfl)) rfl
  refine qZ (fun S s' w' hi hN X U V H=>?_) ?_
  ·replace X:=Em (hN 13 rfl) X;have b2:=(H 2 rfl).2 24 _ rfl (by rw[ab];rfl);exact AX (AC (i:=0) b2 rfl rfl underlying50 BG qO qO) rfl
  refine qZ (fun S s' w' hi hN X U V H=>?_) ?_
  ·replace X:=Em (hN 13 rfl) X;have bi:=(H 3 rfl).2 25 _ rfl (by rw[ab];rfl);exact AX (AD bi BX ((Ao.trans E (X0.trans X)).cell af)) rfl
  refine qZ (fun S s' w' hi hN X U V H=>?_) ?_
  ·replace X:=Em (hN 13 rfl) X;have bd:=(H 4 rfl).2 26 _ rfl (by rw[ab];rfl);exact AX (AH underlying22 bd) rfl
  refine qZ (fun S s' w' hi hN X U V H=>?_) ?_
  ·replace X:=Em (hN 13 rfl) X;exact AX (CA rfl (Xh (U 6 rfl) (U 5 rfl) (U 1 rfl) (U 4 rfl))) rfl
  refine qZ (fun S s' w' hi hN X U V H=>?_) ?_
  ·replace X:=Em (hN 13 rfl) X;exact AX (CA rfl (JD (U 6 rfl) (U 1 rfl))) rfl
  refine DagStepsS.cons (CY.tup (U:=AZ) (Da) (fun p y hp hw ai h=>by
     rcases B7 h with ⟨rfl,h0⟩|h0
     ·exact absurd rfl ai
     exact h0.elim)) (CT.const) (fun S s' w' hi hN X U V H=>Or.inl ⟨AQ rfl,?_⟩) ?_
  ·replace X:=Em (hN 13 rfl) X;have bk:=(H 0 rfl).2 22 _ rfl (by rw[ab];rfl);have b5:=(H 5 rfl).2 27 _ rfl (by rw[ab];rfl);have bo:=(H 6 rfl).2 28 _ rfl (by rw[ab];rfl);have bc:=(H 7 rfl).2 29 _ rfl (by rw[ab];rfl);exact DB (Cw (AT func190 kQ kQ (Vz bk b5 bo bc rfl)) (R:=fun v w=>∃u,v=.tuple (u::[(.bool ok)]).toArray∧(DU ok c 20000 (EZ a a.next.length (Cf a a.next.length)) (GQ a a.next.length (Cf a a.next.length)) (Cf a a.next.length) n9) u w) ((Um _ (Cf a a.next.length) c 20000 _ _ (EZ a a.next.length (Cf a a.next.length)) (GQ a a.next.length (Cf a a.next.length)) hc qD (fun k _=>Ts a _ _ k) (fun w k x hE hr hx=>CV.mk (first:=#[]) (cap:=#[.pointer (some ⟨bq,0,none⟩),.pointer (some ⟨bf,0,none⟩),.pointer (some ⟨bp,0,none⟩),.pointer (some ⟨be,0,none⟩)]) func191 kQ kQ rfl (UE w a.next.length c a _ bp be bq bf g x k _ oka (ha.ext (Ao.trans E ((X0.trans X).trans hE))) (((X0.trans X).trans hE).keep Bp) (((X0.trans X).trans hE).keep Bq) (((X0.trans X).trans hE).keep Bf) (((X0.trans X).trans hE).keep hG) (((X0.trans X).trans hE).keep Be) hn ((KE oka a7 hr).imp id fun h9=>by rw[h9,Dc]) hx hc.2)) (fun w k hE hr=>CV.mk (first:=#[]) (cap:=#[.pointer (some ⟨bq,0,none⟩),.pointer (some ⟨bp,0,none⟩)]) func192 kQ kQ rfl (UD w a.next.length c a _ bp bq k _ oka (ha.ext (Ao.trans E ((X0.trans X).trans hE))) (((X0.trans X).trans hE).keep Bp) (((X0.trans X).trans hE).keep Bq) hn ((KE oka a7 hr).imp id fun h9=>by rw[h9,Dc])))).mono (fun v w h=>⟨Mt h.1 hk (by have:=X0.size;have:=X.size;omega),h.2⟩))) (fun v w h=>by obtain ⟨u,h1,h2⟩:=h;exact ⟨u,h1,fun _=>h2⟩)
  refine DagStepsS.cons (CY.tup (U:=AZ) (Da) (fun p y hp hw ai h=>by
     rcases B7 h with ⟨rfl,h0⟩|h0
     ·exact absurd rfl ai
     exact h0.elim)) (CT.const) (fun S s' w' hi hN X U V H=>Or.inl ⟨AQ rfl,?_⟩) ?_
  ·replace X:=Em (hN 13 rfl) X;exact AX (Ah rfl) (by obtain ⟨u,h1,h2⟩:=(H 8 rfl).2 30 (fun S s v w=>G_ 13 [(.bool ok)] (DU ok c 20000 (EZ a a.next.length (Cf a a.next.length)) (GQ a a.next.length (Cf a a.next.length)) (Cf a a.next.length) n9) S s v w) rfl (by rw[ab];rfl);exact ⟨u,h1,fun _=>h2 (hN 13 rfl)⟩)
  refine DagStepsS.cons (CY.till (U:=AZ) (Da) (fun p y hp hw ai h=>by
     rcases B7 h with ⟨rfl,h0⟩|h0
     ·exact absurd rfl ai
     exact h0.elim)) (CT.const) (fun S s' w' hi hN X U V H=>Or.inl ⟨AQ rfl,?_⟩) ?_
  ·replace X:=Em (hN 13 rfl) X;obtain ⟨u9,e9,g9⟩:=(H 9 rfl).2 21 (fun S s v w=>G_ 13 [(.bool ok)] (DU ok c 20000 (EZ a a.next.length (Cf a a.next.length)) (GQ a a.next.length (Cf a a.next.length)) (Cf a a.next.length) n9) S s v w) rfl (by rw[ab];rfl);exact AX (Ai e9 rfl) (fun _=>g9 (hN 13 rfl))
  refine qZ (fun S s' w' hi hN X U V H=>?_) ?_
  ·replace X:=RU X;obtain ⟨u9,e9,_⟩:=(H 9 rfl).2 21 (fun S s v w=>G_ 13 [(.bool ok)] (DU ok c 20000 (EZ a a.next.length (Cf a a.next.length)) (GQ a a.next.length (Cf a a.next.length)) (Cf a a.next.length) n9) S s v w) rfl (by rw[ab];rfl);exact AX (Ai e9 rfl) rfl
  refine DagStepsS.cons (CY.till (U:=AZ) (fun v w w' x h=>Ix _ _ _ v w w' x h) (fun p y hp hw ai h=>by
     rcases B7 h with ⟨rfl,h0⟩|h0
     ·exact absurd rfl ai
     exact h0.elim)) (CT.const) (fun S s' w' hi hN X U V H=>Or.inl ⟨AQ rfl,?_⟩) ?_
  ·replace X:=Em (hN 13 rfl) X;exact DB (Ez (c:=#[(I6 0),(.slice none 0 0),(.slice none 0 0)]) (hs:=wq.heap.size) CU rfl (by have:=X0.size;have:=X.size;omega)) (R':=fun v w=>IE S 12 13=false→(M7 52 #[(I6 0),(.slice none 0 0),(.slice none 0 0)] wq.heap.size) v w) (fun _ _ h _=>h)
  refine DagStepsS.cons (CY.put (Da) (fun p y hp hw h=>by
     rcases B7 h with ⟨rfl,h0⟩|h0
     ·exact absurd rfl hp
     exact h0.elim)) (CT.put (j:=12) rfl rfl) (fun S s' w' hi hN X U V H=>Or.inl ⟨AQ rfl,?_⟩) ?_
  ·replace X:=Em hi X;obtain ⟨b9,e9,B9,l9⟩:=((H 12 rfl).2 7 (fun S _ v w=>S 13=false→((M7 52 #[(.int .i64 0),(.slice none 0 0),(.slice none 0 0)] wq.heap.size)) v w) rfl (by rw[ab];rfl)) hi;have g9:=((H 10 rfl).2 31 (fun S _ v w=>S 13=false→(DU ok c 20000 (EZ a a.next.length (Cf a a.next.length)) (GQ a a.next.length (Cf a a.next.length)) (Cf a a.next.length) n9) v w) rfl (by rw[ab];rfl)) hi;exact DB (IM (n:=3) e9 rfl g9 B9 rfl Ap (JO) (JN) (by first|exact .inl ⟨rfl,l9⟩|exact .inr (.inl ⟨rfl,l9⟩))) (fun v w h=>by obtain ⟨vs,h1,h2⟩:=h;exact ⟨b9,vs,e9,l9,h1,h2⟩)
  refine DagStepsS.tail ?_;exact DagStepsS.nil
 ·intro s' wd1 w1 X0 X1 U H;replace X1:=X1.mono (M':=(fun y=>(fun y=>wq.heap.size≤y) y)) (fun y _ h=>by
    obtain ⟨j,hj,h⟩:=h;rcases B7 h with ⟨rfl,h0⟩|h0
    ·exact h0
    exact h0.elim)
  have b6:=H 11 rfl 32 _ rfl (by rw[ab];rfl);obtain ⟨bg,a9,bj,l51,ag,bt⟩:=(show ((fun S s v w=>Jn 7 wq.heap.size 52 (DU ok c 20000 (EZ a a.next.length (Cf a a.next.length)) (GQ a a.next.length (Cf a a.next.length)) (Cf a a.next.length) n9) S s v w):CZ) (Iw [true,true,true,true,true,true,true,true,true,true,true,true,true,true,false]) s' (s' 51) w1 from H 13 rfl 51 (fun S s v w=>Jn 7 wq.heap.size 52 (DU ok c 20000 (EZ a a.next.length (Cf a a.next.length)) (GQ a a.next.length (Cf a a.next.length)) (Cf a a.next.length) n9) S s v w) rfl (by rw[ab];rfl));obtain ⟨an,a5,az,ba,a6,a9,bm,bx⟩:=bt;cases bm;obtain ⟨j1,rfl⟩:=Af.out (σ:=s') (l:=[(2,(.pointer (some ⟨br,0,none⟩))),(32,(.bool ok)),(7,(.pointer (some ⟨bg,0,none⟩)))]) ⟨U 2 rfl,b6,bj,trivial⟩;clear U H;replace Bp:=Chg.keep X1 kH (X0.keep Bp);replace Br:=Chg.keep X1 kH (X0.keep Br);replace Be:=Chg.keep X1 kH (X0.keep Be);replace Bf:=Chg.keep X1 kH (X0.keep Bf);replace hG:=Chg.keep X1 kH (X0.keep hG);replace Bq:=Chg.keep X1 kH (X0.keep Bq);replace E:=(E.ext X0).step X1 (fun y hy h=>by first|omega|(dsimp only at h;omega));refine qA _ rfl (AA (AB ?_));rcases Bool.eq_false_or_eq_true (ok) with ad|ad
  ·have a2:=ad;obtain ⟨aj,a3⟩:=bx ad;refine AE (Y (qM _ rfl (qV (Cj rfl) ?_)));have a4:(!ok)=false:=by rw[ad];rfl
   refine AA (AW (Aw a4) (AK (AB (Y (qV (AU (vs:=[(I6 an.start),(.slice a5 an.accept.length az),(.slice ba an.next.length a6)]) rfl BC Ap rfl (ag.cells rfl)) ?_)))));obtain ⟨aq,ah⟩:∃aq,aq=(w1).heap.size:=⟨_,rfl⟩;have ak:w0.heap.size≤aq∧br<aq:=⟨by rw[ah];exact E.size,by rw[ah];exact Br.lt⟩;refine qE rfl (AT func162 kQ kQ rfl) (HM _ an.next.length c an _ aj.ok a3.dfa ⟨by have:=aj.most;omega,hc⟩ aj.acc) ?_;rintro _ w99 ⟨⟨C,ca,cc,ma,mc,hC,hCl,b1,rfl,ax⟩,ae⟩;replace Bp:=ae.keep Bp;replace Br:=ae.keep Br;replace Be:=ae.keep Be;replace Bf:=ae.keep Bf;replace hG:=ae.keep hG;replace Bq:=ae.keep Bq;replace ag:=ae.keep ag;replace a3:=a3.ext ae;replace E:=E.ext ae;rw[←ah] at ax;refine Al (b:=br) (o:=0) (c':=#[(I6 C.start),(.slice ca C.accept.length cc),(.slice ma C.next.length mc)]) rfl rfl qS Ap rfl Br qL rfl ?_;intro w3 S3;replace ax:=ax.chg S3.chg fun y h=>by have h':y=br:=h;omega
   replace Bp:=S3.keep qO Bp;replace Be:=S3.keep qO Be;replace Bf:=S3.keep qO Bf;replace hG:=S3.keep qO hG;replace Bq:=S3.keep qO Bq;replace ag:=S3.keep qO ag;replace E:=S3.step E qQ;replace Br:=S3.blk;refine qA _ rfl (AA (AS (BJ results167 (vs:=[(.int .i64 C.start),(.slice ca C.accept.length cc),(.slice ma C.next.length mc)]) (b:=br) (v':=(.bool true)) rfl BC Ap rfl (Br.cells rfl) rfl ?_)));exact ⟨.inl ⟨hk.1 ad,⟨C,ca,cc,ma,mc,hC.congr (fun w hw=>by rw[aj.start,aj.beh w hw];exact RK oka a7 w),by have:=aj.most;omega,b1,rfl,ax.low ak.1⟩⟩,E⟩
  ·have a2:=ad;refine AE (Y (qM _ rfl (qV (Cj rfl) ?_)));have a1:(!ok)=true:=by rw[ad];rfl
   refine AA (A4 (Aw a1) (Y (qV (BU (ps:=[]) (v:=(.agg #[(I6 0),(.slice none 0 0),(.slice none 0 0)])) rfl qK) (Al (b:=br) (o:=0) (c':=#[(I6 0),(.slice none 0 0),(.slice none 0 0)]) rfl rfl qS Ap rfl Br qL rfl ?_))));intro w5 S5;replace Bp:=S5.keep qO Bp;replace Be:=S5.keep qO Be;replace Bf:=S5.keep qO Bf;replace hG:=S5.keep qO hG;replace Bq:=S5.keep qO Bq;replace ag:=S5.keep qO ag;replace E:=S5.step E qQ;replace Br:=S5.blk;refine qA _ rfl (AA (AS (AO (BJ results167 (vs:=[(.int .i64 0),(.slice none 0 0),(.slice none 0 0)]) (b:=br) (v':=(.bool false)) rfl BC Ap rfl (Br.cells rfl) rfl ?_))));exact ⟨.inr ⟨fun h=>(by rw[hk.2 h] at ad;cases ad),rfl⟩,E⟩
end Go.Proofs
namespace Go.Eng
open Go
theorem D7 {P:Program} {ch:List PanicEntry} {a:Func} {R:Value->World->Prop} {X:World->Prop} {σ:CN} {w:World} (h:fin P a R .ret σ w):WB P ch a R X .ret σ w:=h
section
variable {P : Program} {N : Nat} {Q : Dj} {σ : CN} {w : World} {K : CN → World → Prop} {ops : Array Oper} {rest : List Oper}
theorem MN {o:Oper} (e:o.guard=none) {v:Value} (d:(execOp (ev σ) o).run P w=.halt (.panic v) w) (k:Q (.panic [{v,recovered:=false}]) σ w):DW P N ops K Q (o::rest) σ w:=by
 intro dz a c b;refine wpList_plain e λK' hK=>?_;unfold Oper.wp;rw[Cr,b,d];simp only[Oper.upon];exact ⟨c,by rw[b];exact k⟩
theorem P1 {dst:Option Tmp} {ty:TypeId} {pos:String} {af:Array Edge} {g:Option (Nat×Bool)} {x:Operand} {u:TypeId} {v:Value} (a:ev σ x=.iface u v):(execOp (ev σ) ⟨dst,.panic x,ty,pos,af,g⟩).run P w=.halt (.panic (.iface u v)) w:=by
 simp[execOp,a,Instr.panic]
theorem Ja {dst:Option Tmp} {ty:TypeId} {pos:String} {af:Array Edge} {g:Option (Nat×Bool)} {x:Operand} {t:TypeId} {fs:Array Field} {v:Value} (b:P.underlying t=some (.struct fs)) (a:ev σ x=v):(execOp (ev σ) ⟨dst,.makeInterface t x,ty,pos,af,g⟩).run P w=.ok (.value (.iface t v)) w:=by
 subst a;simp[execOp,Instr.makeInterface,run_underlying b]
end
def XE (P:Program) (fn:Func) (R:Ending->World->Prop) (d:Deferred):Dj
  | .normal,σ,w | .ret,σ,w=>∀a:Act,DO a=σ->Leaves P fn a.tmps R [d] .returning w
  | .panic ch,σ,w=>∀a:Act,DO a=σ->Leaves P fn a.tmps R [d] (.panicking ch) w
  | _,_,_=>False
def Xb (P:Program) (N:Nat) (c:Code) (Q:Exit->Act->World->Prop) (σ:CN) (w:World):Prop:=∀a,Ok [] N a->DO a=σ->c.wp P Q a w
def VA (P:Program) (N:Nat) (ops:Array Oper) (Q:Exit->Act->World->Prop) (l:List Oper) (σ:CN) (w:World):Prop:=∀a,Ok [] N a->DO a=σ->wpList P ops Q l a w
section
variable {P : Program} {N : Nat} {QA : Exit → Act → World → Prop} {σ : CN} {w : World} {ops : Array Oper} {rest : List Oper} {y : Code}
theorem RS {f:FuncId} {a:Func} {c:Code} {args:Array Value} {R:Ending->World->Prop}
 (d:P.funcs[f]?=some a) (hb:a.body=some c) (b:a.ntmps=N) (hsz:args.size<=N)
 (h:Xb P N c (bodyPostD P a R) (λt=>args.getD t undef) w):Calls P f args w R:=by
 refine calls_of_wp_defers d hb (h _ ⟨?_,O⟩ ?_)
 .simp[b];omega
 .funext t;simp only[DO,Array.getD_eq_getD_getElem?,Array.getElem?_append];split
  .rfl
  .rename_i hlt
   rw[Array.getElem?_replicate,Array.getElem?_eq_none (xs:=args) qO];split<;>rfl
theorem LD {d:Nat} {l:List Oper} (h:DW P N l.toArray (Xb P N y QA) (λ_ _ _=>False) l σ w):Xb P N (.seq (.region d l.toArray false) y) QA σ w:=λa b c=>by
 refine wp_seq (Code.wp_mono ?_ (wp_region_lit (h [] a b c)));rintro e a' w' ⟨o,q⟩;cases e<;>first|exact q a' o rfl|exact (show False from q).elim
theorem Jr {d:Nat} {l:List Oper} (h:VA P N l.toArray (Exit.then (y.wp P QA) QA) l σ w):Xb P N (.seq (.region d l.toArray false) y) QA σ w:=λa b c=>wp_seq (wp_region_lit (h a b c))
theorem Tv {o:Oper} (g:o.guard=none) {d:Nat} (hd:o.dst=some d) (e:d<N) {v:Value} {w':World}
 (f:(execOp (ev σ) o).run P w=.ok (.value v) w') (k:VA P N ops QA rest (E4 σ d v) w'):VA P N ops QA (o::rest) σ w:=by
 intro a b c;refine wpList_plain g λK' h=>?_;unfold Oper.wp;rw[Cr,c,f];simp only[Oper.upon,hd];exact h _ _ (k _ (b.put _ _) (by rw[Dx b e,c]))
theorem Pj {b:Func} {R:Ending->World->Prop} {o:Oper} {d:Deferred} (l:o.guard=none) (hd:o.dst=none)
 (i:(execOp (ev σ) o).run P w=.ok (.defer d) w) (k:Wp P N y (XE P b R d) σ w):VA P N ops (Exit.then (y.wp P (bodyPostD P b R)) (bodyPostD P b R)) [o] σ w:=by
 intro a g h;refine wpList_plain l λK' j=>?_;unfold Oper.wp;rw[Cr,h,i];simp only[Oper.upon,hd];refine j _ _ ?_;have f:=g.defers;have m:=k [d] {a with defers:=d::a.defers} ⟨g.size,by simp[f]⟩ (by rw[<-h];rfl);show y.wp P (bodyPostD P b R) {a with defers:=d::a.defers} w;refine Code.wp_mono ?_ m;rintro e a' w' ⟨o',q⟩;have c:=o'.defers;cases e<;>simp only[XE] at q<;>simp only[bodyPostD]
 .rw[c];exact q a' O
 .rw[c];exact q a' O
 .rw[c];exact q a' O
theorem UQ {ty:TypeId} {pos:String} {af:Array Edge} {g:Option (Nat×Bool)} {x:Operand} {ts:Array TypeId} {f:FuncId} {cap:Array Value} (a:ev σ x=.func (.func f) #[] cap):(execOp (ev σ) ⟨none,.defer ⟨.value x,#[],ts⟩,ty,pos,af,g⟩).run P w=.ok (.defer {target:=.fn (.func f) cap,args:=#[]}) w:=by
 simp[execOp,resolve,a,Deferred.ofValue]
theorem KX {c:Func} {a:Array Value} {R:Ending->World->Prop} {d:Deferred} {f:FuncId} {cap:Array Value} {u:FrameMode} {X:World->Prop} (hd:d={target:=.fn (.func f) cap,args:=#[]}) (i:u≠.run)
 (hi:(callFunc f cap).run P w=.ok (.enter f cap) w) (k:CallsD P f cap u w λe b w'=>(∃r,e=.returned r)∧settle b=.returning∧X w') (g:∀w',X w'->∃v,(results c a).run P w'=.ok v w'∧R (.returned v) w'):Leaves P c a R [d] u w:=by
 subst hd;refine leaves_cons (f:=f) (args:=cap) i (by simpa[invoke] using hi) (k.mono ?_);rintro e b w' ⟨⟨r,rfl⟩,j,h⟩;simp only;rw[j];exact g w' h
end
theorem Lk {P:Program} {w:World} {ρ:Operand->Value} {dst:Option Tmp} {ty:TypeId} {pos:String} {af:Array Edge} {g:Option (Nat×Bool)} {ts:Array TypeId}:(execOp ρ ⟨dst,.call ⟨.builtin .recover,#[],ts⟩,ty,pos,af,g⟩).run P w=.ok .recover w:=by
 simp[execOp,resolve,invoke,builtin]
section
variable {P : Program} {σ : CN} {w : World} {dst : Option Tmp} {ty : TypeId} {pos : String} {af : Array Edge} {g : Option (Nat × Bool)} {x : Operand} {t s : TypeId} {v : Value} {fs : Array Field}
theorem NY (a:P.underlying t=some (.struct fs)) (b:ev σ x=.iface t v):(execOp (ev σ) ⟨dst,.typeAssert x s t true,ty,pos,af,g⟩).run P w=.ok (.value (.tuple #[v,.bool true])) w:=by
 simp[execOp,b,Instr.typeAssert,run_underlying a]
theorem NZ (a:P.underlying t=some (.struct fs)) (c:EO P t v) (b:ev σ x=.nilIface):(execOp (ev σ) ⟨dst,.typeAssert x s t true,ty,pos,af,g⟩).run P w=.ok (.value (.tuple #[v,.bool false])) w:=by
 have h:=c.run w;simp[execOp,b,Instr.typeAssert,run_underlying a,h]
end
theorem IU {P:Program} {h:Func} {a0 f t u b c n:Nat} (m:h.results=#[.cell a0 t,.cell f u]) {σ:CN} {w:World} {vs:List Value} {v':Value} (r:σ a0=.pointer (some ⟨b,0,none⟩)) (e:σ f=.pointer (some ⟨c,0,none⟩)) (q:HR P t=true) (hs:DK P t n) (l:vs.length=n) (s:A' w b 0 vs) (d:DI P u=true) (g:w.cell? ⟨c,0,none⟩=some v') {a:Act} (p:DO a=σ):(results h a.tmps).run P w=.ok (.tuple #[.agg vs.toArray,v']) w:=by
 subst p;have i:a.tmps.getD a0 undef=.pointer (some ⟨b,0,none⟩):=r;have j:a.tmps.getD f undef=.pointer (some ⟨c,0,none⟩):=e;simp only[Array.getD_eq_getD_getElem?] at i j;have k:=GE (P:=P) (w:=w) q hs l s;have o:(loadVar u ⟨c,0,none⟩).run P w=.ok v' w:=by simp[loadVar,DI.run d,g]
 simp[results,m,i,j,asAddr,k,o]
theorem Ij {Q Q':Exit->Act->World->Prop} (b:∀e a w,Q e a w->Q' e a w) (h:LetsOut Q):LetsOut Q':=by
 obtain ⟨a,w,h⟩:=h;exact ⟨a,w,b _ _ _ h⟩
theorem Lq {P:Program} {o:Oper} {a:Act} {w:World} {K K':Act->World->Prop} {Q Q':Exit->Act->World->Prop} (h:∀a w,K a w->K' a w) (d:∀e a w,Q e a w->Q' e a w)
 (b:o.wp P a w K Q):o.wp P a w K' Q':=by
 unfold Oper.wp at *;generalize (execOp a.eval o).run P w=r at *;cases r with
 | ok n w'=>
  cases n<;>simp only[Oper.upon] at b⊢<;>
   first
    | exact h _ _ b
    | exact Calls.mono b (λe w'' c=>by cases e<;>first|exact h _ _ c|exact Ij d c|exact d _ _ _ c)
    | exact Rows.mono b (λ_ _ c=>h _ _ c)
 | halt x w'=>cases x<;>simp only[Oper.upon] at b⊢<;>first|exact d _ _ _ b|exact b
theorem MP {P:Program} {ops:Array Oper} {Q Q':Exit->Act->World->Prop} (b:∀e a w,Q e a w->Q' e a w):∀(l:List Oper) (a:Act) (w:World),wpList P ops Q l a w->wpList P ops Q' l a w:=by
 intro l
 induction l with
 | nil=>intro a w h;exact b _ _ _ h
 | cons o l ih=>
  intro a w h;unfold wpList at h⊢;by_cases c:Region.wanted o (yielded ops a.tmps)=true
  .rw[if_pos c] at h⊢;rcases h with h|h
   .exact .inl (Lq (λa w h=>ih a w h) b h)
   .exact .inr ⟨h.1,Ij b h.2⟩
  .rw[if_neg c] at h⊢;exact ih _ _ h
theorem NE {P:Program} {ops:Array Oper} {Q:Exit->Act->List Frame->World->Prop} {cs:List Frame} (i:∀(a:Act) (w:World),¬Q .outgrown a cs w):∀(l:List Oper) (k:Nat) (a:Act) (w:World),(∀j,l[j]?=ops[k+j]?)->wpList P ops (λe a w=>Q e a cs w) l a w->wpOpsS P ops Q (List.range' k l.length) a cs w:=by
 intro l
 induction l with
 | nil=>intro k a w _ h;exact h
 | cons o l ih=>
  intro k a w g h;have n:ops[k]?=some o:=by simpa using (g 0).symm
  have b:∀j,l[j]?=ops[k+1+j]?:=λj=>by have:=g (j+1);simpa[Nat.add_assoc,Nat.add_comm 1 j] using this
  rw[List.length_cons,List.range'_succ];unfold wpList at h;unfold wpOpsS;simp only[n];by_cases f:Region.wanted o (yielded ops a.tmps)=true
  .rw[if_pos f] at h⊢;rcases h with h|⟨_,m,p,h⟩
   .have c:=Lq (K':=λa' w'=>wpOpsS P ops Q (List.range' (k+1) l.length) a' cs w') (λa w h=>ih (k+1) a w b h) (λ_ _ _ h=>h) h;unfold Oper.wp at c;split
    .rename_i d
     rw[d] at c;exact (show False from c).elim
    .exact c
   .exact absurd h (i m p)
  .rw[if_neg f] at h⊢;exact ih (k+1) _ _ b h
theorem HX {P:Program} {N:Nat} {f:FuncId} {m:Func} {Q C:Nat} {d:Oper} {rest:List Oper} {y:Code} {args:Array Value} {u g:FrameMode} {w:World} {v:Value} {R:Value->World->Prop}
 (J:P.funcs[f]?=some m) (hb:m.body=some (.seq (.region Q (d::rest).toArray false) y)) (K:m.ntmps=N) (hsz:args.size<=N) (L:d.guard=none) (hd:d.dst=some C) (G:C<N)
 (E:∀(ρ:Operand->Value) (w:World),(execOp ρ d).run P w=.ok .recover w)
 (H:(u=.returning∧v=.nilIface∧g=u)∨∃c,u=.panicking ({v:=v,recovered:=false}::c)∧g=.panicking ({v:=v,recovered:=true}::c))
 (h:DW P N (d::rest).toArray (Wp P N y (fin P m R)) (fin P m R) rest (E4 (λt=>args.getD t undef) C v) w):CallsD P f args u w λe A w'=>(∃r,e=.returned r∧R r w')∧A=g:=by
 refine callsD_of_wpS J hb λi cs l=>?_;apply wpS_seq;apply wpS_region;have B:(d::rest).toArray.size=rest.length+1:=qP
 rw[B,List.range_eq_range',List.range'_succ];obtain ⟨a0,k⟩:∃a0:Act,a0={tmps:=args++Array.replicate (m.ntmps - args.size) undef,defers:=[]}:=⟨_,O⟩;rw[<-k];have s:Ok [] N a0:=⟨by rw[k];simp[K];omega,by rw[k]⟩;have z:DO a0=λt=>args.getD t undef:=by
  rw[k];funext t;simp only[DO,Array.getD_eq_getD_getElem?,Array.getElem?_append];split
  .rfl
  .rename_i hlt
   rw[Array.getElem?_replicate,Array.getElem?_eq_none (xs:=args) qO];split<;>rfl
 have T:=h [] (a0.put (some C) v) (s.put _ _) (by rw[Dx s G,z]);have b:(match recoverD (i::cs) with|some (v,cs')=>some (v,cs')|none=>some (Value.nilIface,i::cs))=some (v,{i with mode:=g}::cs):=by
  rcases H with ⟨rfl,rfl,rfl⟩|⟨c,rfl,rfl⟩
  .have:({i with mode:=FrameMode.returning}:Frame)=i:=by cases i;simp at l;subst l;rfl
   simp[recoverD,l,this]
  .simp[recoverD,l]
 have D:wpOpsS P (d::rest).toArray (Exit.thenS (y.wpS P (bodyPostS P m i cs λe A w'=>(∃r,e=.returned r∧R r w')∧A=g)) (bodyPostS P m i cs λe A w'=>(∃r,e=.returned r∧R r w')∧A=g)) (List.range' (0+1) rest.length) (a0.put (some C) v) ({i with mode:=g}::cs) w:=by
  refine NE ?_ rest (0+1) _ _ (λj=>by simp[Nat.add_comm]) (MP ?_ rest _ _ T)
  .rintro a F ⟨u9,⟨r,M,_⟩,_⟩;cases M
  .rintro e a F ⟨o,q⟩;cases e<;>simp only[MT] at q<;>simp only[Exit.thenS]
   .refine wpS_of_wp (Code.wp_mono ?_ (q [] a o O));rintro e a F ⟨o,q⟩;cases e<;>simp only[fin] at q<;>simp only[bodyPostS]
    .obtain ⟨n,x,r⟩:=q;exact ⟨o.defers,g,O,n,x a O,⟨n,O,r⟩,O⟩
    .obtain ⟨n,x,r⟩:=q;exact ⟨o.defers,g,O,n,x a O,⟨n,O,r⟩,O⟩
   all_goals simp only[fin] at q
   .obtain ⟨n,x,r⟩:=q;exact ⟨o.defers,g,O,n,x a O,⟨n,O,r⟩,O⟩
 unfold wpOpsS;have S:(d::rest).toArray[0]?=some d:=qP
 have I:Region.wanted d (yielded (d::rest).toArray a0.tmps)=true:=by simp[Region.wanted,L]
 simp only[S,E];rw[if_pos I,hd];cases hr:recoverD (i::cs) with
 | none=>rw[hr] at b;simp only[Option.some.injEq,Prod.mk.injEq] at b;rw[<-b.1,<-b.2] at D;exact D
 | some p=>rw[hr] at b;obtain ⟨p1,p2⟩:=p;simp only[Option.some.injEq,Prod.mk.injEq] at b;rw[<-b.1,<-b.2] at D;exact D
end Go.Eng
namespace Go.Proofs
open Go Go.Eng Go.Sort
set_option maxRecDepth 100000
def WX:List PanicEntry:=[{v:=.iface 131 (.agg #[]),recovered:=false}]
theorem JC (w0:World) (b:Bool) (x:Int) (ya za:Option Addr) (yn yc zn zc:Nat):LS prog WX 164 #[.agg #[.int .i64 x,.slice ya yn yc,.slice za zn zc],.bool b] w0 (fun r w=>(b=true∧r=.agg #[.int .i64 x,.slice ya yn yc,.slice za zn zc])∧Ao w0 w) fun w=>b=false∧Ao w0 w:=by
 refine Er func164 rfl ntmps164 (Jo rfl) ?_;have E:Chg AZ w0 w0:=Chg.refl _ _;refine Y (BM (v:=(.agg #[(I6 x),(.slice ya yn yc),(.slice za zn zc)])) (c:=#[(I6 x),(.slice ya yn yc),(.slice za zn zc)]) qD rfl rfl ?_);intro bd wd Nd;have Fd:=Nd.ge E;replace E:=E.ext Nd.ext;have Bd:=Nd.blk;refine BO (c:=#[(I6 0),(.slice none 0 0),(.slice none 0 0)]) qD CU rfl ?_;intro br wr Nr;have Fr:=Nr.ge E;have Or_bd:=Nr.lt Bd;replace Bd:=Nr.keep Bd;replace E:=E.ext Nr.ext;have Br:=Nr.blk;refine AA (AE (Y (qM _ rfl (qV (Cj rfl) (AA (A3 rfl (fun h0=>?_) (fun h0=>?_)))))))
 ·have aa:=h0;replace h0:=by simpa using h0
  refine AG (qV (BU (ps:=[]) (v:=(.agg #[])) rfl qK) (qV (Ja (t:=131) (v:=(.agg #[])) underlying131 rfl) (MN rfl (P1 (u:=131) (v:=(.agg #[])) rfl) (And.intro rfl ⟨h0,E⟩))))
 ·have aa:=h0;replace h0:=by simpa using h0
  refine AK (AB (Y (qV (AU (vs:=[(I6 x),(.slice ya yn yc),(.slice za zn zc)]) rfl BC Ap rfl (Bd.cells rfl)) (Al (b:=br) (o:=0) (c':=#[(I6 x),(.slice ya yn yc),(.slice za zn zc)]) rfl rfl qS Ap rfl Br qL rfl ?_))));intro w2 S2;replace Bd:=S2.keep qO Bd;replace E:=S2.step E qQ;replace Br:=S2.blk;refine AA (AS (D7 (Cp results164 (vs:=[(.int .i64 x),(.slice ya yn yc),(.slice za zn zc)]) (b:=br) rfl BC Ap rfl (Br.cells rfl) ?_)));exact ⟨⟨h0,rfl⟩,E⟩
end Go.Proofs
namespace Go.Proofs
open Go Go.Eng Go.Sort
set_option maxRecDepth 100000
def By (S:Nat->Prop) (w:World) (d:Dfa) (vs:List Value):Prop:=∀(M:Nat->Prop) w',Chg M w w'->(∀b,S b->b<w.heap.size->¬M b)->B' w' d vs
theorem By.at' {S:Nat->Prop} {w:World} {d:Dfa} {vs:List Value} (h:By S w d vs):B' w d vs:=h AZ w (Chg.refl _ _) λ_ _ _ f=>f.elim
theorem By.mono {S a:Nat->Prop} {w:World} {d:Dfa} {vs:List Value} (hs:∀b,S b->a b) (h:By S w d vs):By a w d vs:=λM w' c e=>h M w' c λb hb=>e b (hs b hb)
theorem By.chg {S M:Nat->Prop} {w w':World} {d:Dfa} {vs:List Value} (h:By S w d vs) (c:Chg M w w') (f:∀b,S b->b<w.heap.size->¬M b):By (λb=>S b∧b<w.heap.size) w' d vs:=λM2 g c2 e=>
 h (λb=>M b∨M2 b) g (Chg.trans (c.mono λb _ hb=>.inl hb) (c2.mono λb _ hb=>.inr hb)) λb hb a=>λi=>i.elim (f b hb a) (e b ⟨hb,a⟩ (Nat.lt_of_lt_of_le a c.size))
theorem By.ext {S:Nat->Prop} {w w':World} {d:Dfa} {vs:List Value} (h:By S w d vs) (e:Ao w w'):By S w' d vs:=(h.chg e λ_ _ _ f=>f.elim).mono λ_ hb=>hb.1
theorem By.of_new {m:Nat} {w:World} {d:Dfa} {vs:List Value} (h:DV m w d vs):By (λb=>m<=b∧b<w.heap.size) w d vs:=λM w' c e=>
 h (λb=>M b∧b<m) w' (c.mono λb a hb=>⟨hb,Classical.byContradiction λhn=>e b ⟨qO,a⟩ a hb⟩) λb hb=>.inl hb.2
theorem JQ {S:Nat->Prop} {w:World} {f a s m:Nat} {d:Dfa} {vs:List Value} (n:Az w f (d.accept.map (Value.int .i64)).toArray s) (j:Az w a vs.toArray m) (z:S f) (q:S a) (p:vs.length=d.next.length) (hm:d.accept.length<=1000000∧d.next.length<=1000000)
 (e:∀(i:Nat) u l,vs[i]?=some u->d.next[i]?=some l->∃g T,u=.slice (some ⟨g,0,none⟩) l.length l.length∧S g∧l.length<=1000000∧Az w g (l.map (Value.int .i64)).toArray T) :
 By S w d [.int .i64 d.start,.slice (some ⟨f,0,none⟩) d.accept.length d.accept.length,.slice (some ⟨a,0,none⟩) d.next.length d.next.length]:=by
 intro M w' c h;refine ⟨_,_,_,_,O,EV (c.keep (h f z n.lt) n) O qO,vs,?_,p,?_⟩
 .have:=HA (w:=w') (b:=a) (t:=m) (k:=1) (cap:=vs.length) (rows:=vs.map λx=>[x]) (by rw[show (vs.map λx=>[x]).flatten=vs by simp[List.flatten_eq_flatMap,List.flatMap_map]];exact c.keep (h a q j.lt) j) (by intro r e;simp only[List.mem_map] at e;obtain ⟨x,_,rfl⟩:=e;rfl) (by simp;omega) qP;rw[<-p];simpa using this
 .intro i u l v hi;obtain ⟨g,T,rfl,y,hlen,o⟩:=e i u l v hi;exact EV (c.keep (h g y o.lt) o) O qO
def Hu (S:Nat->Prop) (d:Dfa) (r:Value) (w:World):Prop:=∃ea ec na nc,r=.agg #[.int .i64 d.start,.slice ea d.accept.length ec,.slice na d.next.length nc]∧By S w d [.int .i64 d.start,.slice ea d.accept.length ec,.slice na d.next.length nc]
def BV (c:Nat):Dfa:=⟨0,[0],[List.replicate c (-1)]⟩
def Gb (c:Nat):Dfa:=⟨0,[-1],[List.replicate c (-1)]⟩
theorem Ky (w0:World) (c:Nat) (hc:1≤c∧c≤16):CJ prog 160 #[.int .i64 ((c:Nat):Int)] w0 fun r w=>Hu (fun b=>w0.heap.size≤b) (BV c) r w∧Ao w0 w:=by
  refine qR func160 rfl ntmps160 rfl (fun E=>(Y (BO (c:=#[(I6 0),(.slice none 0 0),(.slice none 0 0)]) qD CU rfl ?_)));intro br wr Nr;have Fr:=Nr.ge E;replace E:=E.ext Nr.ext;have Br:=Nr.blk;refine AA (Y (Ad (ps:=[(0,(I6 0))]) (c:=#[(I6 0)]) qD rfl underlying22 Ab CW qD qD qK ?_));intro be we Ne;have Fe:=Ne.ge E;have Oe_br:=Ne.lt Br;replace Br:=Ne.keep Br;replace E:=E.ext Ne.ext;have Be:=Ne.blk;refine Ad (ps:=[(0,(I6 (-1)))]) (c:=#[(I6 (-1))]) qD rfl underlying22 Ab CW qD qD qK ?_;intro bm wm Nm;have Fm:=Nm.ge E;have Om_br:=Nm.lt Br;have Om_be:=Nm.lt Be;replace Br:=Nm.keep Br;replace Be:=Nm.keep Be;replace E:=E.ext Nm.ext;have Bm:=Nm.blk;refine qM _ rfl ?_;have hlt:br<(wm).heap.size∧w0.heap.size≤(wm).heap.size:=⟨Br.lt,E.size⟩;refine qE rfl (AT func163 kQ kQ rfl) (HC _ bm 1 c (-1) _ Bm hc.1 qO) ?_;rintro _ w9 ⟨⟨g,rfl,hg0,hG⟩,X9⟩;replace Br:=X9.keep Br;replace Be:=X9.keep Be;replace Bm:=X9.keep Bm;replace E:=E.ext X9;have hx:w0.heap.size≤g∧br<g:=⟨qO,qO⟩;refine Ad (ps:=[(0,(.slice (some ⟨g,0,none⟩) c c))]) (c:=#[(.slice (some ⟨g,0,none⟩) c c)]) qD rfl underlying50 BG EG qD qD qK ?_;intro bn wn Nn;have Fn:=Nn.ge E;have On_br:=Nn.lt Br;have On_be:=Nn.lt Be;have On_bm:=Nn.lt Bm;have On_g:=Nn.lt hG;replace Br:=Nn.keep Br;replace Be:=Nn.keep Be;replace Bm:=Nn.keep Bm;replace hG:=Nn.keep hG;replace E:=E.ext Nn.ext;have Bn:=Nn.blk;refine qV (BU (ps:=[(1,(.slice (some ⟨be,0,none⟩) 1 1)),(2,(.slice (some ⟨bn,0,none⟩) 1 1))]) (v:=(.agg #[(I6 0),(.slice (some ⟨be,0,none⟩) 1 1),(.slice (some ⟨bn,0,none⟩) 1 1)])) rfl qK) (Al (b:=br) (o:=0) (c':=#[(I6 0),(.slice (some ⟨be,0,none⟩) 1 1),(.slice (some ⟨bn,0,none⟩) 1 1)]) rfl rfl qS Ap rfl Br qL rfl ?_);intro w1 S1;replace Be:=S1.keep qO Be;replace Bm:=S1.keep qO Bm;replace hG:=S1.keep qO hG;replace Bn:=S1.keep qO Bn;replace E:=S1.step E qQ;replace Br:=S1.blk;refine AA (AS (Cp results160 (vs:=[(.int .i64 0),(.slice (some ⟨be,0,none⟩) 1 1),(.slice (some ⟨bn,0,none⟩) 1 1)]) (b:=br) rfl BC Ap rfl (Br.cells rfl) ?_));exact ⟨⟨_,_,_,_,rfl,JQ (d:=BV c) (vs:=[.slice (some ⟨g,0,none⟩) c c]) Be Bn Fe Fn rfl ⟨(by decide:1≤1000000),(by decide:1≤1000000)⟩ (fun i u l hu hi=>by
    cases i with
    | zero=>simp only[BV,List.getElem?_cons_zero,Option.some.injEq] at hu hi;subst hu;subst hi;exact ⟨g,_,by rw[List.length_replicate],hx.1,by rw[List.length_replicate];omega,hG⟩
    | succ i=>simp[BV] at hi)⟩,E⟩
end Go.Proofs
namespace Go.Proofs
open Go.Shelf
def Tryz.sortSp_ren:Go.Shelf.Ren:=⟨fun|6=>91|15=>74|14=>128|28=>118|29=>119|20=>151|21=>152|22=>153|23=>154|24=>155|25=>156|26=>157|27=>158|46=>173|47=>137|48=>138|49=>174|50=>175|57=>194|n=>n,fun|22=>37|24=>74|25=>126|3=>3|39=>107|0=>0|53=>151|55=>153|4=>4|46=>144|45=>143|50=>148|5=>5|9=>9|66=>164|70=>168|76=>191|77=>192|n=>n,fun|n=>n⟩
theorem Tryz.sortSp:Go.Proofs.SlLaysF0.n6 prog Tryz.sortSp_ren:={
 mixed:=by kernel_rfl
 f6:=⟨Tryz.f91.name,qD,func91.trans (congrArg some qK)⟩
 f14:=⟨Tryz.f128.name,qD,func128.trans (congrArg some qK)⟩
 f15:=func74.trans (congrArg some qK)
 f20:=⟨Tryz.f151.name,qD,func151.trans (congrArg some qK)⟩
 f21:=⟨Tryz.f152.name,qD,func152.trans (congrArg some qK)⟩
 f22:=⟨Tryz.f153.name,qD,func153.trans (congrArg some qK)⟩
 f23:=⟨Tryz.f154.name,qD,func154.trans (congrArg some qK)⟩
 f24:=⟨Tryz.f155.name,qD,func155.trans (congrArg some qK)⟩
 f25:=⟨Tryz.f156.name,qD,func156.trans (congrArg some qK)⟩
 f26:=⟨Tryz.f157.name,qD,func157.trans (congrArg some qK)⟩
 f27:=⟨Tryz.f158.name,qD,func158.trans (congrArg some qK)⟩
 f28:=func118.trans (congrArg some qK)
 f29:=func119.trans (congrArg some qK)
 f46:=⟨Tryz.f173.name,qD,func173.trans (congrArg some qK)⟩
 f47:=func137.trans (congrArg some qK)
 f48:=func138.trans (congrArg some qK)
 f49:=⟨Tryz.f174.name,qD,func174.trans (congrArg some qK)⟩
 f50:=⟨Tryz.f175.name,qD,func175.trans (congrArg some qK)⟩
 f57:=⟨Tryz.f194.name,qD,func194.trans (congrArg some qK)⟩
 t0:=underlying0
 a0:=Tryz.isAgg0
 z0:=Tryz.sizeOf0
 v0:=Tryz.zeroValue0
 t3:=underlying3
 a3:=Tryz.isAgg3
 z3:=Tryz.sizeOf3
 v3:=Tryz.zeroValue3
 t4:=underlying4
 a4:=Tryz.isAgg4
 z4:=Tryz.sizeOf4
 v4:=Tryz.zeroValue4
 t5:=underlying5
 a5:=Tryz.isAgg5
 z5:=Tryz.sizeOf5
 v5:=Tryz.zeroValue5
 t9:=underlying9
 a9:=Tryz.isAgg9
 z9:=Tryz.sizeOf9
 v9:=Tryz.zeroValue9
 t22:=underlying37
 a22:=Tryz.isAgg37
 z22:=Tryz.sizeOf37
 v22:=Tryz.zeroValue37
 t25:=underlying126
 a25:=Tryz.isAgg126
 z25:=Tryz.sizeOf126
 v25:=Tryz.zeroValue126
 t39:=underlying107
 a39:=Tryz.isAgg107
 z39:=Tryz.sizeOf107
 v39:=Tryz.zeroValue107
 t45:=underlying143
 a45:=Tryz.isAgg143
 z45:=Tryz.sizeOf143
 v45:=Tryz.zeroValue143
 t46:=underlying144
 a46:=Tryz.isAgg144
 z46:=Tryz.sizeOf144
 v46:=Tryz.zeroValue144
 t50:=underlying148
 a50:=Tryz.isAgg148
 z50:=Tryz.sizeOf148
 v50:=Tryz.zeroValue148
 t53:=underlying151
 a53:=Tryz.isAgg151
 z53:=Tryz.sizeOf151
 v53:=Tryz.zeroValue151
 t55:=underlying153
 a55:=Tryz.isAgg153
 z55:=Tryz.sizeOf153
 v55:=Tryz.zeroValue153
 t66:=underlying164
 a66:=Tryz.isAgg164
 z66:=Tryz.sizeOf164
 v66:=Tryz.zeroValue164
 t70:=underlying168
 a70:=Tryz.isAgg168
 z70:=Tryz.sizeOf168
 v70:=Tryz.zeroValue168
 t76:=underlying191
 a76:=Tryz.isAgg191
 z76:=Tryz.sizeOf191
 v76:=Tryz.zeroValue191
 t77:=underlying192
 a77:=Tryz.isAgg192
 z77:=Tryz.sizeOf192
 v77:=Tryz.zeroValue192}
def Tryz.sortI_ren:Go.Shelf.Ren:=⟨fun|189=>81|125=>74|257=>125|128=>118|129=>119|294=>141|295=>142|296=>143|297=>144|298=>145|299=>146|216=>147|300=>148|301=>149|328=>170|329=>137|330=>138|331=>171|332=>172|215=>120|343=>193|n=>n,fun|28=>22|3=>3|46=>107|0=>0|51=>151|53=>153|4=>4|183=>144|182=>143|131=>148|5=>5|9=>9|218=>164|222=>168|228=>191|229=>192|n=>n,fun|n=>n⟩
theorem Tryz.sortI:Go.Proofs.Lays.n189 prog Tryz.sortI_ren:={
 mixed:=by kernel_rfl
 f125:=func74.trans (congrArg some qK)
 f128:=func118.trans (congrArg some qK)
 f129:=func119.trans (congrArg some qK)
 f189:=func81.trans (congrArg some qK)
 f215:=func120.trans (congrArg some qK)
 f216:=func147.trans (congrArg some qK)
 f257:=func125.trans (congrArg some qK)
 f294:=func141.trans (congrArg some qK)
 f295:=func142.trans (congrArg some qK)
 f296:=func143.trans (congrArg some qK)
 f297:=func144.trans (congrArg some qK)
 f298:=func145.trans (congrArg some qK)
 f299:=func146.trans (congrArg some qK)
 f300:=func148.trans (congrArg some qK)
 f301:=func149.trans (congrArg some qK)
 f328:=func170.trans (congrArg some qK)
 f329:=func137.trans (congrArg some qK)
 f330:=func138.trans (congrArg some qK)
 f331:=func171.trans (congrArg some qK)
 f332:=func172.trans (congrArg some qK)
 f343:=func193.trans (congrArg some qK)
 t0:=underlying0
 a0:=Tryz.isAgg0
 z0:=Tryz.sizeOf0
 v0:=Tryz.zeroValue0
 t3:=underlying3
 a3:=Tryz.isAgg3
 z3:=Tryz.sizeOf3
 v3:=Tryz.zeroValue3
 t4:=underlying4
 a4:=Tryz.isAgg4
 z4:=Tryz.sizeOf4
 v4:=Tryz.zeroValue4
 t5:=underlying5
 a5:=Tryz.isAgg5
 z5:=Tryz.sizeOf5
 v5:=Tryz.zeroValue5
 t9:=underlying9
 a9:=Tryz.isAgg9
 z9:=Tryz.sizeOf9
 v9:=Tryz.zeroValue9
 t28:=underlying22
 a28:=Tryz.isAgg22
 z28:=Tryz.sizeOf22
 v28:=Tryz.zeroValue22
 t46:=underlying107
 a46:=Tryz.isAgg107
 z46:=Tryz.sizeOf107
 v46:=Tryz.zeroValue107
 t51:=underlying151
 a51:=Tryz.isAgg151
 z51:=Tryz.sizeOf151
 v51:=Tryz.zeroValue151
 t53:=underlying153
 a53:=Tryz.isAgg153
 z53:=Tryz.sizeOf153
 v53:=Tryz.zeroValue153
 t131:=underlying148
 a131:=Tryz.isAgg148
 z131:=Tryz.sizeOf148
 v131:=Tryz.zeroValue148
 t182:=underlying143
 a182:=Tryz.isAgg143
 z182:=Tryz.sizeOf143
 v182:=Tryz.zeroValue143
 t183:=underlying144
 a183:=Tryz.isAgg144
 z183:=Tryz.sizeOf144
 v183:=Tryz.zeroValue144
 t218:=underlying164
 a218:=Tryz.isAgg164
 z218:=Tryz.sizeOf164
 v218:=Tryz.zeroValue164
 t222:=underlying168
 a222:=Tryz.isAgg168
 z222:=Tryz.sizeOf168
 v222:=Tryz.zeroValue168
 t228:=underlying191
 a228:=Tryz.isAgg191
 z228:=Tryz.sizeOf191
 v228:=Tryz.zeroValue191
 t229:=underlying192
 a229:=Tryz.isAgg192
 z229:=Tryz.sizeOf192
 v229:=Tryz.zeroValue192}
def Tryz.compI_ren:Go.Shelf.Ren:=⟨fun|20=>82|n=>n,fun|22=>22|3=>3|4=>4|0=>0|n=>n,fun|n=>n⟩
theorem Tryz.compI:Go.Proofs.Lays2.n20 prog Tryz.compI_ren:={
 mixed:=by kernel_rfl
 f20:=func82.trans (congrArg some qK)
 t0:=underlying0
 a0:=Tryz.isAgg0
 z0:=Tryz.sizeOf0
 v0:=Tryz.zeroValue0
 t3:=underlying3
 a3:=Tryz.isAgg3
 z3:=Tryz.sizeOf3
 v3:=Tryz.zeroValue3
 t4:=underlying4
 a4:=Tryz.isAgg4
 z4:=Tryz.sizeOf4
 v4:=Tryz.zeroValue4
 t22:=underlying22
 a22:=Tryz.isAgg22
 z22:=Tryz.sizeOf22
 v22:=Tryz.zeroValue22
 i3:=by kernel_rfl}
end Go.Proofs
namespace Go.Proofs
open Go Go.Eng Go.Sort
set_option maxRecDepth 100000
structure VSp where
 s:Sp
 ok:C_ s
instance:Inhabited VSp:=⟨⟨(0,0),by unfold C_;simp⟩⟩
def Kx (s:VSp):List Value:=BP s.s
theorem Qf {α:Type} [Inhabited α] (enc:α->List Value) (k:Nat) (w:World) (g c m:Nat) (d:Array α) (e:Array Obj):Chg (λx=>x=g) w (sortWorldK enc k w g c m d e):=by
 refine ⟨O,O,O,Nat.le_add_right _ _,?_,λb hb a=>?_⟩
 .simp[sortWorldK,grow,putRowK,putRow,mapBlock,ahead]
 .simp only[sortWorldK,grow,putRowK,putRow,mapBlock,ahead];rw[Array.getElem?_append_left (by simpa using hb),Array.getElem?_modify,if_neg (λh=>a h.symm)];rfl
theorem own_holds {w:World} {base g n c:Nat} {d:List VSp} (h:w.ownsRow base JV 2 (.slice (some ⟨g,0,none⟩) n c) n ((d.map VSp.s).map BP).flatten) (t:d.length=n):HoldsK Kx 2 w g 0 d.toArray:=by
 have k:A6 w (.slice (some ⟨g,0,none⟩) n c) (d.map VSp.s):=DY h (by intro x f;simp only[List.mem_map] at f;obtain ⟨p,_,rfl⟩:=f;rfl) (by simpa using t) qD;intro j m;rw[size_flatK] at m;simp only[List.size_toArray] at m;have e:j / 2<d.length:=qO
 obtain ⟨b,o,a,l⟩:=BH k qO;simp only[Option.some.injEq,Addr.mk.injEq,and_true] at a;obtain ⟨rfl,rfl⟩:=a;have f:(d.map VSp.s)[j / 2]?=some d[j / 2].s:=by rw[List.getElem?_map,List.getElem?_eq_getElem e];rfl
 have q:=l (j / 2) _ f;rw[get_flatK _ _ _ _ (by simpa using m)];have y:d.toArray[j / 2]! = d[j / 2]:=by rw[getElem!_pos d.toArray (j / 2) (by simpa using e)];simp
 rw[y];constructor
 .rcases Nat.mod_two_eq_zero_or_one j with i|i
  .have:=q.at0;rw[i];rw[show 0+j / 2*2=0+j from qO] at this;simpa[Kx,BP] using this
  .have:=q.at1;rw[i];rw[show 0+j / 2*2+1=0+j from qO] at this;simpa[Kx,BP] using this
 .rcases h.2 with ⟨v,_⟩|⟨g',cap,cur,r,_,u,_⟩
  .simp at v
  .simp only[Value.slice.injEq,Option.some.injEq,Addr.mk.injEq,and_true] at r;obtain ⟨rfl,_⟩:=r;simp[World.frozen?,u]
theorem OU {w:World} {g n c:Nat} {d:Array VSp} (h:HoldsK Kx 2 w g 0 d) (k:d.size=n) (hc:n<=c) (hl:n<=8796093022208):A6 w (.slice (some ⟨g,0,none⟩) n c) (d.toList.map VSp.s):=by
 refine ⟨_,c,by simp[k],by simp;omega,by simp;omega,.inr ⟨g,0,O,λi r e j u a=>?_⟩⟩;simp only[List.getElem?_map,Option.map_eq_some_iff] at e;obtain ⟨s,⟨x,b,rfl⟩,rfl⟩:=e;have hi:i<d.size:=by have:=AI b;simpa using this
 have f:j<2:=by have:=AI a;simpa[BP] using this
 have l:=(HoldsK.cell h hi f).1;have m:d[i]! = x:=by
  rw[getElem!_pos d i hi];rw[Array.getElem?_toList,Array.getElem?_eq_getElem hi] at b;simpa using b
 rw[l,m]
 match j,f,a with
 | 0,_,a=>simpa[Kx,BP] using a
 | 1,_,a=>simpa[Kx,BP] using a
theorem LM {P : Program} {f : FuncId} {a : Func} (c : P.funcs[f]? = some a) (b : (a.name == "runtime.NumGoroutine") = false) (hb : a.body.isNone = false) : ∀ args w, (callFunc f args).run P w = .ok (.enter f args) w := fun args w => HY (vs := args) (w := w) c b hb
theorem RJ (a:World):CJ prog 74 #[.int .u64 0] a λv w=>v=.int .i64 (Lib.bitLen 0:Nat)∧Ao a w:=
 (Any.bits_Len (SlLaysF0.n15.bits (P:=prog) (ρ:=Tryz.sortSp_ren) {Tryz.sortSp with}) 0 a qO qO).mono λ_ _ ⟨b,c⟩=>⟨_,b,O,by rw[c];exact Ao.refl _⟩
theorem V5 (b:World) (a:Option Addr) (c:Nat) (fv:Value):CJ prog 151 #[.slice a 0 c,.int .i64 0,.int .i64 0,fv] b λv w=>v=.tuple #[]∧Ao b w:=by
 refine qR func151 O ntmps151 O (λE=>(Y (qM _ O (qV (Aq (c:=1) O O qD) (qA _ O (AA (AM (Am (λnn_ σ d=>(∃jj_,σ=BQ jj_ [(0,(.slice a 0 c)),(1,(I6 0)),(2,(I6 0)),(3,fv),(8,(I6 1))])∧Chg AZ b d∧nn_=(0:Nat)) (n:=(0:Nat)) ?_ ?_))))))))
 .exact ⟨Af.out ⟨O,O,O,O,O,trivial⟩,E,O⟩
 .clear E;rintro _ _ d ⟨⟨j1,rfl⟩,E,rfl⟩;refine AE (Y (qM _ O (qM _ O (qV (Av O O) (AA (AW O (Ak (AR (AR (Ae (Fg results151 ?_)))))))))));exact ⟨O,E⟩
theorem Vs (b:World) (a:Option Addr) (c:Nat) (n:Int) (fv:Value):CJ prog 128 #[.slice a 0 c,.int .i64 0,.int .i64 0,.int .i64 n,fv] b λv w=>v=.tuple #[]∧Ao b w:=by
 refine qR func128 O ntmps128 O (λE=>(Y (qA _ O (AA (Y (qA _ O (AA (AM (Am (λnn_ σ d=>(∃jj_,σ=BQ jj_ [(0,(.slice a 0 c)),(1,(I6 0)),(2,(I6 0)),(4,fv)])∧Chg AZ b d∧nn_=(0:Nat)) (n:=(0:Nat)) ?_ ?_)))))))))
 .exact ⟨Af.out ⟨O,O,O,O,trivial⟩,E,O⟩
 .clear E;rintro _ _ d ⟨⟨j1,rfl⟩,E,rfl⟩;refine AM (Y (qM _ O (qM _ O (qV (D3 (c:=0) O O qD) (qA _ O (AA (AE (Y (qM _ O (qV (GY O O) (AA (A4 O (Y (qM _ O (qM _ O (qM _ O (qM _ O ?_)))))))))))))))));refine qE O (AT func151 kQ kQ O) (V5 _ a c fv) ?_;rintro _ w9 ⟨rfl,e⟩;replace E:=E.ext e;refine AA (AS (AO (Ag (AO (Ag (Q9 results128 ?_))))));exact ⟨O,E⟩
theorem UJ (b:World) (a:Option Addr) (c:Nat) (fv:Value):CJ prog 91 #[.slice a 0 c,fv] b λv w=>v=.tuple #[]∧Ao b w:=by
 refine qR func91 O ntmps91 O (λE=>(Y (qM _ O (qV (AH underlying37 O) (qA _ O (AA (AG (qM _ O (qM _ O (qM _ O (qV (EI (c:=0) ⟨_,underlying3⟩ underlying107 O (Rf qO)) (qE O (AT func74 kQ kQ O) (RJ _) ?_))))))))))));rintro _ w8 ⟨rfl,d⟩;refine qM _ O (qE O (AT func128 kQ kQ O) (Vs _ a c _ fv) ?_);rintro _ w9 ⟨rfl,e⟩;replace E:=(E.ext d).ext e;refine AA (Fg results91 ?_);exact ⟨O,E⟩
theorem Px (A : VSp → VSp → Int) (hO : SWO (ltOf A)) {f : FuncId} {E : Func} (U : (prog).funcs[f]? = some E) (X : (E.name == "runtime.NumGoroutine") = false) (hb : E.body.isNone = false)
 (p:∀(W:World) (x y:VSp),CJ prog f #[.agg #[.int .i64 x.s.1,.int .i64 x.s.2],.agg #[.int .i64 y.s.1,.int .i64 y.s.2]] W λv w=>v=.int .i64 (A x y)∧Ao W w)
 (b:World) (base:Nat) (v:Value) (l:List Sp) (h:GD b base v l) (hl:l.length<=8796093022208) (C:∀s∈l,C_ s) :
 CJ prog 91 #[v,.func (.func f) #[] #[]] b λr w=>r=.tuple #[]∧(∃K:List VSp,(K.map VSp.s).Perm l∧K.Pairwise (λs t=>¬A t s<0)∧A6 w v (K.map VSp.s))∧Chg (λx=>v.ownBlock=some x) b w:=by
 have T:=LM U X hb;obtain ⟨d,rfl⟩:∃d:List VSp,d.map VSp.s=l:=⟨l.pmap VSp.mk C,by rw[List.map_pmap];simp⟩;have ht:∀w,(isAgg (Tryz.sortSp_ren.t 24)).run prog w=.ok true w:=λw=>HR.run EM w;have hs:∀w,(Go.sizeOf (Tryz.sortSp_ren.t 24)).run prog w=.ok 2 w:=λw=>BA.run w;rcases h.2.2 with ⟨rfl,h0⟩|⟨g,cap,cur,rfl,hbg,Z,J,hcm,hcs,htake⟩
 .have hd:d=[]:=List.eq_nil_of_length_eq_zero (by simpa using h0);subst hd;exact (UJ b none 0 (.func (.func f) #[] #[])).mono λv w' ⟨V,D⟩=>⟨V,⟨[],List.Perm.refl _,List.Pairwise.nil,BL.nil _ _ _ _⟩,Ao.chg D⟩
 .simp only[List.length_map] at *;have P:=own_holds (d:=d) (n:=d.length) (by have:=h.2;rwa [List.length_map] at this) O;have k:g<b.heap.size:=(Array.getElem?_eq_some_iff.1 Z).1;have S:CmpLays prog f #[] Kx 2 A g 0 d.toArray.size b:=λm G dk _ x y=>by
   refine Calls.mono (p _ x y) ?_;rintro e w' ⟨v,rfl,rfl,I⟩;obtain ⟨q,H,D⟩:=Ao.grown I;exact ⟨O,q,H,D⟩
  have z:=AnyQ.slices_SortFunc Tryz.sortSp 2 ht hs Kx (λ_=>rfl) (λx u N=>by simp[Kx,BP] at N;rcases N with rfl|rfl<;>rfl) A hO f #[] g 0 cap d.toArray b T S P k (by simp;omega);refine Calls.mono z ?_;rintro e w' ⟨rfl,c,n,G,R,M,rfl⟩;have a:c.size=d.length:=by have:=R.1;simpa using this
  have o:c.toList.Perm d:=by
   have B:=R.2.2;simp only[List.size_toArray] at B;rw[show d.length=c.size from a.symm,Array.extract_size] at B;rw[a] at B;simpa using B
  refine ⟨_,O,O,⟨c.toList,o.map _,?_,?_⟩,(Qf Kx 2 b g 0 n c G).mono λx _ I=>by subst I;rfl⟩
  .rw[List.pairwise_iff_getElem];intro i j hi F L;have Q:=M i j (Nat.zero_le _) L (by simp at F⊢;omega);simp only[Array.length_toList] at hi F;rw[getElem!_pos c i hi,getElem!_pos c j F] at Q;simpa[ltOf] using Q
  .exact OU (holdsK_sortWorldK_c Kx 2 b g 0 d.toArray c n G P k (by simpa using a)) a J hl
end Go.Proofs
namespace Go.Proofs
open Go Go.Eng Go.Sort
set_option maxRecDepth 100000
def RV:List Int->Int
  | []=>0
  | x::r=>if x≠0 then x else RV r
theorem Wr (g:World) (v:Value) (l:List Int) (h:CF g v l):CJ prog 75 #[v] g λr w=>r=.int .i64 (RV l)∧Ao g w:=by
 obtain ⟨a,c,rfl⟩:=BL.form h;have hlen:l.length<=9223372036854775807:=by simpa using BL.le h
 simp only[List.length_map] at h⊢;refine qR func75 O ntmps75 O (λE=>(Y (qA _ O (AA (Y (qA _ O (AA (AE (Y (qM _ O (qV (AH underlying22 O) (qM _ O (AA (AM (Am (λnn_ σ s=>∃(k:Nat),(∃jj_,σ=BQ jj_ [(3,(I6 0)),(6,(.slice a l.length c)),(7,(I6 (l.length:Int))),(8,(I6 (k:Int)))])∧Chg AZ g s∧(k<=l.length)∧(RV (l.drop k)=RV l)∧nn_=l.length - k) (n:=l.length - 0) ?_ ?_)))))))))))))))
 .exact ⟨0,Af.out ⟨O,O,O,O,trivial⟩,E,Nat.zero_le _,O,O⟩
 .clear E;rintro _ _ s ⟨k,⟨j1,rfl⟩,E,hk,e,rfl⟩;refine Y (qV (Av O O) (AA (AE (qC O (λm=>?_) (λm=>?_)))))
  .obtain ⟨x,q⟩:=AL (l:=l) (i:=k) qO;obtain ⟨b,o,rfl,j⟩:=BF h qO;rw[Dd q] at e;refine AK (AB (AE (AM (Y (qV (AC (b:=b) (o:=o) (len:=l.length) (cap:=c) (i:=k) (o':=o+k) O O O underlying22 Ab qO qO) (qV (AD O Aa (E.cell (λf=>f) (j k x q))) (qA _ O (AA (Y (qM _ O (qM _ O (qV (CO O O) (AA (qC O (λd=>?_) (λd=>?_)))))))))))))))
   .refine Y (qM _ O (qA _ O (AA (AS (Ag (AO (AO (Ag (AO (AV results75 (v:=(.int .i64 x)) O ?_))))))))));exact ⟨A5 (by rw[<-e,RV,if_pos d]),E⟩
   .refine AK (AP (AB (AG (qV (Aq O O (A2 qO)) (qM _ O (AA (AB ?_)))))));exact ⟨l.length - (k+1),qO,k+1,Af.out ⟨O,O,O,O,trivial⟩,E,qO,(by rw[<-e,RV,if_neg d]),O⟩
  .have p:k=l.length:=qO
   refine Ak (AR (AR (Ae (AB (Y (qM _ O (qA _ O (AA (AS (AV results75 (v:=(.int .i64 0)) O ?_))))))))));exact ⟨A5 (by rw[<-e,p,List.drop_length];rfl),E⟩
def Mk (a b:Int):El:=λv w=>∃bb,v=.slice (some ⟨bb,0,none⟩) 2 2∧CF w v [a,b]
theorem Kl (a b:Int):LF (Mk a b):=by
 rintro v w w' e ⟨d,f,c⟩;exact ⟨d,f,c.ext e⟩
theorem Pm {N:Nat} {σ:CN} {w:World} {dst:Option Tmp} {ty:TypeId} {pos:String} {af:Array Edge} {g:Option (Nat×Bool)} {x y:Operand} {a b:Int} (d:ev σ x=.int .i64 a) (e:ev σ y=.int .i64 b) :
 VD prog N ⟨dst,.buildSlice 22 2 #[(0,x),(1,y)],ty,pos,af,g⟩ (Mk a b) σ w:=by
 have c:=New.mk' w #[.int .i64 a,.int .i64 b] 3;refine A1 (FR (parts:=[(0,x),(1,y)]) (ps:=[(0,.int .i64 a),(1,.int .i64 b)]) (by simp only[List.map,d,e]) underlying22 Ab CW qD qD qK) c.ext ?_;exact ⟨_,O,HG [a,b] c.blk qP qP⟩
end Go.Proofs
namespace Go.Proofs
open Go Go.Eng Go.Sort
set_option maxRecDepth 100000
def RE (x y:VSp):Int:=RV [FK x.s.1 y.s.1,FK x.s.2 y.s.2]
theorem XN (A:World) (x y:VSp):CJ prog 122 #[.agg #[.int .i64 x.s.1,.int .i64 x.s.2],.agg #[.int .i64 y.s.1,.int .i64 y.s.2]] A λv w=>v=.int .i64 (RE x y)∧Ao A w:=by
 refine qR func122 O ntmps122 O (λE=>(Y (BM (v:=(.agg #[(I6 x.s.1),(I6 x.s.2)])) (c:=#[(I6 x.s.1),(I6 x.s.2)]) qD O O ?_)));intro d w1 z;replace E:=E.ext z.ext;have f:=z.blk;refine BM (v:=(.agg #[(I6 y.s.1),(I6 y.s.2)])) (c:=#[(I6 y.s.1),(I6 y.s.2)]) qD O O ?_;intro e w2 r;replace f:=r.keep f;replace E:=E.ext r.ext;have h:=r.blk;refine qA _ O (AA (AE ?_));obtain ⟨q,a⟩:∃I:List Fact,I=[.eq (P6 d 0),.eq (I6 x.s.1),.eq (P6 e 0),.eq (I6 y.s.1),.eq (I6 (FK x.s.1 y.s.1)),.eq (P6 d 1),.eq (I6 x.s.2),.eq (P6 e 1),.eq (I6 y.s.2),.eq (I6 (FK x.s.2 y.s.2)),.gen (Mk (FK x.s.1 y.s.1) (FK x.s.2 y.s.2)) (Kl _ _),.eq (I6 (RE x y)),.eq (I6 (RE x y))]:=⟨_,O⟩;refine LC [5,6,7,8,9,10,11,12,13,14,15,16,4] [[],[0],[],[2],[1,3],[],[5],[],[7],[4,6,8],[4,9],[9,10],[0,1,2,3,4,5,6,7,8,9,10,11]] q a mixed qK qK ?_ ?_
 .intro wd i;refine DagSteps.cons (λb w' X U H=>Or.inl ⟨?_,?_⟩) ?_
  .exact AQ O
  .exact A1 (AN (U 2 O) underlying74 O Ab O) (Ao.refl _) O
  refine DagSteps.cons (λb w' X U H=>Or.inl ⟨?_,?_⟩) ?_
  .exact AQ O
  .have B:b 5=(.pointer (some ⟨d,0,none⟩)):=H 0 O 5 (.eq (.pointer (some ⟨d,0,none⟩))) O (by rw[a];rfl);exact A1 (AD B Aa (((i.trans X).keep f).cell O)) (Ao.refl _) O
  refine DagSteps.cons (λb w' X U H=>Or.inl ⟨?_,?_⟩) ?_
  .exact AQ O
  .exact A1 (AN (U 3 O) underlying74 O Ab O) (Ao.refl _) O
  refine DagSteps.cons (λb w' X U H=>Or.inl ⟨?_,?_⟩) ?_
  .exact AQ O
  .have D:b 7=(.pointer (some ⟨e,0,none⟩)):=H 2 O 7 (.eq (.pointer (some ⟨e,0,none⟩))) O (by rw[a];rfl);exact A1 (AD D Aa (((i.trans X).keep h).cell O)) (Ao.refl _) O
  refine DagSteps.cons (λb w' X U H=>Or.inl ⟨?_,?_⟩) ?_
  .exact AQ O
  .have C:b 6=(.int .i64 x.s.1):=H 1 O 6 (.eq (.int .i64 x.s.1)) O (by rw[a];rfl);have G:b 8=(.int .i64 y.s.1):=H 3 O 8 (.eq (.int .i64 y.s.1)) O (by rw[a];rfl);exact Dt (AT func76 kQ kQ (JD C G)) (JS _ _ _)
  refine DagSteps.cons (λb w' X U H=>Or.inl ⟨?_,?_⟩) ?_
  .exact AQ O
  .exact A1 (AN (U 2 O) underlying74 O Ab O) (Ao.refl _) O
  refine DagSteps.cons (λb w' X U H=>Or.inl ⟨?_,?_⟩) ?_
  .exact AQ O
  .have p:b 10=(.pointer (some ⟨d,1,none⟩)):=H 5 O 10 (.eq (.pointer (some ⟨d,1,none⟩))) O (by rw[a];rfl);exact A1 (AD p Aa (((i.trans X).keep f).cell O)) (Ao.refl _) O
  refine DagSteps.cons (λb w' X U H=>Or.inl ⟨?_,?_⟩) ?_
  .exact AQ O
  .exact A1 (AN (U 3 O) underlying74 O Ab O) (Ao.refl _) O
  refine DagSteps.cons (λb w' X U H=>Or.inl ⟨?_,?_⟩) ?_
  .exact AQ O
  .have k:b 12=(.pointer (some ⟨e,1,none⟩)):=H 7 O 12 (.eq (.pointer (some ⟨e,1,none⟩))) O (by rw[a];rfl);exact A1 (AD k Aa (((i.trans X).keep h).cell O)) (Ao.refl _) O
  refine DagSteps.cons (λb w' X U H=>Or.inl ⟨?_,?_⟩) ?_
  .exact AQ O
  .have u:b 11=(.int .i64 x.s.2):=H 6 O 11 (.eq (.int .i64 x.s.2)) O (by rw[a];rfl);have n:b 13=(.int .i64 y.s.2):=H 8 O 13 (.eq (.int .i64 y.s.2)) O (by rw[a];rfl);exact Dt (AT func76 kQ kQ (JD u n)) (JS _ _ _)
  refine DagSteps.cons (λb w' X U H=>Or.inl ⟨?_,?_⟩) ?_
  .exact AQ O
  .have F:b 9=(.int .i64 (FK x.s.1 y.s.1)):=H 4 O 9 (.eq (.int .i64 (FK x.s.1 y.s.1))) O (by rw[a];rfl);have t:b 14=(.int .i64 (FK x.s.2 y.s.2)):=H 9 O 14 (.eq (.int .i64 (FK x.s.2 y.s.2))) O (by rw[a];rfl);exact Pm F t
  refine DagSteps.cons (λb w' X U H=>Or.inl ⟨?_,?_⟩) ?_
  .exact AQ O
  .obtain ⟨b15,g,o⟩:=H 10 O 15 (.gen (Mk (FK x.s.1 y.s.1) (FK x.s.2 y.s.2)) (Kl _ _)) O (by rw[a];rfl);exact Dt (AT func75 kQ kQ (LL g)) (Wr _ _ _ (g▸o))
  refine DagSteps.cons (λb w' X U H=>Or.inl ⟨?_,?_⟩) ?_
  .exact AQ O
  .have m:b 16=(.int .i64 (RE x y)):=H 11 O 16 (.eq (.int .i64 (RE x y))) O (by rw[a];rfl);exact A1 (FS m) (Ao.refl _) O
  exact DagSteps.nil
 .intro b w3 j U H;obtain ⟨j3,rfl⟩:=Af.out (σ:=b) (l:=[(4,(.int .i64 (RE x y)))]) ⟨(show b 4=(.int .i64 (RE x y)) from H 12 4 (.eq (.int .i64 (RE x y))) O (by rw[a];rfl)),trivial⟩;clear U H;replace f:=j.keep f;replace h:=j.keep h;replace E:=E.ext j;refine AB (AS (AV results122 (v:=(.int .i64 (RE x y))) O ?_));exact ⟨O,E⟩
theorem TY (x y:VSp):RE x y<0↔x.s.1<y.s.1∨x.s.1=y.s.1∧x.s.2<y.s.2:=by
 unfold RE RV RV RV FK
 (repeat' split)<;>omega
theorem Xc:SWO (ltOf RE):=by
 refine ⟨λx=>?_,λx y z=>?_,λx y z=>?_⟩<;>simp only[ltOf,decide_eq_true_eq,decide_eq_false_iff_not,TY]<;>omega
theorem UH (a:World) (base:Nat) (v:Value) (l:List Sp) (h:GD a base v l) (k:l.length<=8796093022208) (b:∀s∈l,C_ s) :
 CJ prog 91 #[v,.func (.func 122) #[] #[]] a λr w=>r=.tuple #[]∧(∃c:List Sp,c.Perm l∧c.Pairwise (λs t=>s.1<=t.1)∧A6 w v c)∧Chg (λx=>v.ownBlock=some x) a w:=
 (Px RE Xc func122 kQ kQ XN a base v l h k b).mono λr w ⟨j,⟨l',e,i,g⟩,f⟩=>
  ⟨j,⟨_,e,List.pairwise_map.2 (i.imp fun {s t} d=>by rw[TY] at d;omega),g⟩,f⟩
theorem Hb {w w':World} {base e size n cap g i:Nat} {xs:List Value} {b:Array Value} {v:Value} (h:w.ownsRow base e size (.slice (some ⟨g,0,none⟩) n cap) n xs) (m:Az w g b e) (hi:i<n*size) (c:Az w' g (b.setIfInBounds i v) e):w'.ownsRow base e size (.slice (some ⟨g,0,none⟩) n cap) n (xs.set i v):=by
 rcases h.2 with ⟨p,_⟩|⟨g',cap',cur',o,f,j,k,d,l,a⟩
 .simp at p
 .simp only[Value.slice.injEq,Option.some.injEq,Addr.mk.injEq,and_true] at o;obtain ⟨rfl,_,rfl⟩:=o;unfold Az at m c;rw[m] at j;simp only[Option.some.injEq,Obj.cells.injEq,and_true] at j;obtain ⟨rfl,_⟩:=j;refine ⟨by simpa using h.1,.inr ⟨g,cap,_,O,f,c,k,d,by simpa using l,?_⟩⟩;rw[<-a,Array.toList_setIfInBounds,List.take_set]
theorem IX {w:World} {base e size n cap g:Nat} {xs:List Value} (h:w.ownsRow base e size (.slice (some ⟨g,0,none⟩) n cap) n xs):∃a,Az w g a e∧n*size<=a.size:=by
 rcases h.2 with ⟨j,_⟩|⟨g',cap',b,f,hbg,i,c,hcm,d,htake⟩
 .simp at j
 .simp only[Value.slice.injEq,Option.some.injEq,Addr.mk.injEq,and_true] at f;obtain ⟨rfl,_,rfl⟩:=f;exact ⟨b,i,by rw[d];exact Nat.mul_le_mul_right _ c⟩
theorem I4 (o:List Sp) (c:Sp):((o++[c]).map BP).flatten[o.length*2+1]?=some (.int .i64 c.2):=by
 rw[EB,List.getElem?_append_right (by rw[Ef];omega),Ef];rw[show o.length*2+1 - o.length*2=1 from qO];rfl
theorem NM (o:List Sp) (c:Sp) (x:Int):((o++[c]).map BP).flatten.set (o.length*2+1) (.int .i64 x)=((o++[(c.1,x)]).map BP).flatten:=by
 rw[EB,EB,List.set_append,if_neg (by rw[Ef];omega),Ef,show o.length*2+1 - o.length*2=1 from qO];rfl
theorem PP (Q:World) (v:Value) (l:List Sp) (h:A6 Q v l) (hl:l.length<=8796093022208) (Z:∀s∈l,C_ s) :
 CJ prog 131 #[v] Q λr w=>(∃out,GS l out∧GD w Q.heap.size r out)∧Ao Q w:=by
 refine qR func131 O ntmps131 O (λE=>(Y (qA _ O (AA (Y (qM v O (qE O (AT func33 kQ kQ O) (Oh _ v l h qO) ?_)))))));rintro _ w9 ⟨⟨⟨a9,c9,rfl⟩,O9⟩,X9⟩;replace E:=E.ext X9;refine qA _ O (AA (Y (qM _ O (qE O (AT func91 kQ kQ O) (UH _ Q.heap.size (.slice a9 l.length c9) l ⟨⟨_,_,O⟩,O9⟩ qO Z) ?_))));rintro _ F ⟨rfl,⟨J,A,N,ao⟩,am⟩;replace E:=E.step am (λx hx hm=>absurd (O9.lt x hm).1 qO);have hlen:J.length=l.length:=A.length_eq;have ac:∀s∈J,C_ s:=λs hs=>Z s (A.mem_iff.1 hs);have hsz0:Q.heap.size<=F.heap.size:=E.size;obtain ⟨base,hbase⟩:∃base,base=F.heap.size:=⟨_,O⟩;have f:Chg AZ F F:=Chg.refl _ _;refine AA (Y (qA _ O (AA (AE (Y (qM _ O (qV (AH underlying37 O) (qM _ O (AA (AM (Am (λnn_ σ W1=>∃(k:Nat) (W:Option Addr) (H:Nat) (m:Nat) (I:List Sp),(∃jj_,σ=BQ jj_ [(11,(.slice a9 l.length c9)),(12,(I6 (l.length:Int))),(13,(I6 (k:Int))),(3,(.slice W m H))])∧Chg AZ Q W1∧Chg AZ F W1∧(k<=l.length)∧(m=I.length)∧(m<=k)∧(∀s∈I,0<=s.2∧s.2<=1114111)∧((J.drop k).foldl Ki I=L5 J)∧(W1.ownsRow base JV 2 (.slice W m H) m (I.map BP).flatten)∧(base<=W1.heap.size)∧nn_=l.length - k) (n:=l.length - 0) ?_ ?_)))))))))))
 .exact ⟨0,none,0,0,[],Af.out ⟨O,O,O,O,trivial⟩,E,f,Nat.zero_le _,O,Nat.le_refl _,(λs hs=>absurd hs List.not_mem_nil),O,World.ownsRow_nil _ _ _ _,qO,O⟩
 .clear E f;rintro _ _ W1 ⟨k,W,H,m,I,⟨j1,rfl⟩,E,f,hk,hm,hlo,M,C,a,e,rfl⟩;refine Y (qV (Av O O) (AA (AE (qC O (λai=>?_) (λai=>?_)))))
  .obtain ⟨s,hs⟩:=AL (l:=J) (i:=k) qO;have hv:=ac s (List.mem_of_getElem? hs);unfold C_ at hv;obtain ⟨b,o,ah,ad⟩:=BH ao qO;subst ah;rw[Dd hs,List.foldl_cons] at C;have z:=a;refine AK (AB (AE (AM (Y (qV (AC (b:=b) (o:=o) (len:=l.length) (cap:=c9) (i:=k) (o':=o+k*2) O O O underlying37 BA qO qO) (qV (AU O EM BA O ((ad k s hs).ext f)) (Au (v:=(.agg #[(I6 s.1),(I6 s.2)])) (c:=#[(I6 s.1),(I6 s.2)]) (n:=2) qD C8 O BA O O O qS ?_)))))));intro bq wq K;replace a:=Aj a K.ext;replace e:=Nat.le_trans e K.ext.size;replace E:=E.ext K.ext;have j:=K.blk;replace f:=f.ext K.ext;refine AA ?_;rcases Bool.eq_false_or_eq_true (decide ((0:Int)<((m:Nat):Int))) with d|d
   .have q:=d;replace q:=of_decide_eq_true q;obtain ⟨D,B,ak⟩:∃D B,I=D++[B]:=by rcases Gm I with rfl|U;simp at hm;omega;exact U
    subst ak;have hvc:=M B qP;have aa:m=D.length+1:=by simpa using hm
    obtain ⟨g,rfl,hgb,hgc⟩:=Bj a qO;have hgn:g≠bq:=λU=>by have:=(z.lt g O).2;have:=K.eq;omega
    refine Y (qM _ O (qV (AH underlying37 O) (qA _ O (AA (Dq 13 mixed qK ?_)))));intro w3 X _;replace j:=X.keep j;replace a:=Aj a X;replace e:=Nat.le_trans e X.size;replace E:=E.ext X;replace f:=f.ext X;refine qT (Ah O) (qT (CH O O) (qT (Ah O) (A0 (oj:=_) O O qD (Aw d) (qT (AN O underlying74 O Ab O) (A0 (oj:=_) O O qD (Aw d) (qT (AD O Aa (j.cell O)) (A0 (oj:=_) O O qD (Aw d) (qT (Ah O) (A0 (oj:=_) O O qD (Aw d) (qT (Ah O) (A0 (oj:=_) O O qD (Aw d) (qT (D3 O O (A2 qO)) (A0 (oj:=_) O O qD (Aw d) (qT (AC (b:=g) (o:=0) (len:=m) (cap:=H) (i:=m - 1) (o':=0+(m - 1)*2) O O qO underlying37 BA qO qO) ?_))))))))))))));refine A0 (oj:=_) O O qD (Aw d) (qT (AN O underlying74 O Ab O) (A0 (oj:=_) O O qD (Aw d) (qT (AD (v:=(I6 B.2)) O Aa ((by have U:=(a.cells (g:=g) O) (D.length*2+1) _ (I4 D B);rwa [Addr.add_lit,show 0+(D.length*2+1)=0+(m - 1)*2+1 from qO] at U))) (A0 (oj:=_) O O qD (Aw d) (qT (Aq O O (A2 qO)) (A0 (oj:=_) O O qD (Aw d) (qT (GY O O) (Dr (qV (Ac (v:=(.bool (decide ((s.1:Int)<=B.2+1)))) O (by rw[d];rfl)) (AA (qC O (λhj=>?_) (λhj=>?_))))))))))))
    .obtain ⟨ag,S,hcs⟩:=IX a;refine M8 14 mixed qK ?_;intro w5 V _;replace j:=V.keep j;replace S:=V.keep S;replace a:=Aj a V;replace e:=Nat.le_trans e V.size;replace E:=E.ext V;replace f:=f.ext V;refine qT (Ah O) (qT (Ah O) (qT (D3 O O (A2 qO)) (qT (Ah O) (qT (Ah O) (qT (D3 O O (A2 qO)) (qT (AC (b:=g) (o:=0) (len:=m) (cap:=H) (i:=m - 1) (o':=0+(m - 1)*2) O O qO underlying37 BA qO qO) (qT (AN O underlying74 O Ab O) (qT (AD (v:=(I6 B.2)) O Aa ((by have U:=(a.cells (g:=g) O) (D.length*2+1) _ (I4 D B);rwa [Addr.add_lit,show 0+(D.length*2+1)=0+(m - 1)*2+1 from qO] at U))) (qT (AN O underlying74 O Ab O) (qT (AD O Aa (j.cell O)) (qT (SC O O O) (qT (AC (b:=g) (o:=0) (len:=m) (cap:=H) (i:=m - 1) (o':=0+(m - 1)*2) O O qO underlying37 BA qO qO) (qT (AN O underlying74 O Ab O) (Dr ?_))))))))))))));have al:=S;refine BB (b:=g) (o:=0+(m - 1)*2+1) (c':=ag.setIfInBounds (0+(m - 1)*2+1) (I6 (max B.2 s.2))) (v:=(I6 (max B.2 s.2))) O O O Ab S qO (O) ?_;intro w6 S6;replace j:=S6.keep qO j;replace E:=S6.step E qQ;replace f:=S6.step f (Or.inl qO);replace S:=S6.blk;have y:=Hb a al (i:=0+(m - 1)*2+1) qO S;refine AA (AP (AB (AG (qV (Aq O O (A2 qO)) (qM _ O (AA (AB ?_)))))));exact ⟨l.length - (k+1),qO,k+1,some ⟨g,0,none⟩,H,m,D++[(B.1,max B.2 s.2)],Af.out ⟨O,O,O,O,trivial⟩,E,f,qO,(by simp[aa]),qO,(λu t=>by rcases List.mem_append.1 t with t|t;exact M u (by simp[t]);rw[List.mem_singleton] at t;subst t;simp only;omega),(by rw[<-C,ID,if_pos hj]),(by rw[show 0+(m - 1)*2+1=D.length*2+1 from qO,NM] at y;exact y),(by have:=y.lt g O;omega),O⟩
    .refine AG (qM _ O (qV (AU (vs:=[(I6 s.1),(I6 s.2)]) O EM BA O (j.cells O)) (Ad (ps:=[(0,(.agg #[(I6 s.1),(I6 s.2)]))]) (c:=#[(I6 s.1),(I6 s.2)]) qD O underlying37 BA C8 qD qD qK ?_)));intro br wr T;replace j:=T.keep j;replace a:=Aj a T.ext;replace e:=Nat.le_trans e T.ext.size;replace E:=E.ext T.ext;have Br:=T.blk;replace f:=f.ext T.ext;refine BT (base:=base) (n:=m) (m:=1) (xs:=((D++[B]).map BP).flatten) (news:=[(I6 s.1),(I6 s.2)]) (size:=2) (bytes:=16) (v:=(.slice (some ⟨g,0,none⟩) m H)) qD underlying37 BA HN C8 O qD O a O (O) (Br.cells O) qS (by unfold maxLen;omega) qO (e) ?_;intro v9 aj G p an;replace j:=p.keep (λh=>by have:=(z.lt _ h).2;have:=K.eq;omega) j;replace E:=E.step p (λx hx h=>absurd (a.lt x h).1 qO);replace f:=f.step p (λx hx h=>absurd (a.lt x h).1 qO);obtain ⟨P,L,rfl⟩:=A9 G;refine qA _ O (AA (AP (AB (AG (qV (Aq O O (A2 qO)) (qM _ O (AA (AB ?_))))))));exact ⟨l.length - (k+1),qO,k+1,P,L,m+1,D++[B]++[s],Af.out ⟨O,O,O,O,trivial⟩,E,f,qO,(by simp[aa]),qO,(λu t=>by rcases List.mem_append.1 t with t|t;exact M u t;rw[List.mem_singleton] at t;subst t;omega),(by rw[<-C,ID,if_neg hj]),(by rw[EB];exact G),Nat.le_trans e p.size,O⟩
   .have q:=d;replace q:=of_decide_eq_false q;have ae:m=0:=qO
    have ab:I=[]:=List.eq_nil_of_length_eq_zero qO;subst ab;refine Y (qM _ O (qV (AH underlying37 O) (qA _ O (AA (Dq 13 mixed qK ?_)))));intro w7 X7 _;replace j:=X7.keep j;replace E:=E.ext X7;replace f:=f.ext X7;refine qT (Ah O) (qT (CH O O) (qT (Ah O) (Ar (oj:=_) O O qD (v:=.bool false) (Aw d) (Or.inl O) (Ar (oj:=_) O O qD (v:=.bool false) (Aw d) (Or.inl O) (Ar (oj:=_) O O qD (v:=.bool false) (Aw d) (Or.inl O) (Ar (oj:=_) O O qD (v:=.bool false) (Aw d) (Or.inl O) (Ar (oj:=_) O O qD (v:=.bool false) (Aw d) (Or.inl O) (Ar (oj:=_) O O qD (v:=.bool false) (Aw d) (Or.inl O) (Ar (oj:=_) O O qD (v:=.bool false) (Aw d) (Or.inl O) (Ar (oj:=_) O O qD (v:=.bool false) (Aw d) (Or.inl O) (Ar (oj:=_) O O qD (v:=.bool false) (Aw d) (Or.inl O) (Ar (oj:=_) O O qD (v:=.bool false) (Aw d) (Or.inl O) (Dr (qV (Ac (v:=(.bool false)) O (by rw[d];rfl)) ?_))))))))))))));refine AA (AW O (AG (qM _ O (qV (AU (vs:=[(I6 s.1),(I6 s.2)]) O EM BA O (j.cells O)) (Ad (ps:=[(0,(.agg #[(I6 s.1),(I6 s.2)]))]) (c:=#[(I6 s.1),(I6 s.2)]) qD O underlying37 BA C8 qD qD qK ?_)))));intro b8 w8 R;replace j:=R.keep j;replace a:=Aj (Aj a X7) R.ext;replace e:=Nat.le_trans (Nat.le_trans e X7.size) R.ext.size;replace E:=E.ext R.ext;have B8:=R.blk;replace f:=f.ext R.ext;refine BT (base:=base) (n:=m) (m:=1) (xs:=[]) (news:=[(I6 s.1),(I6 s.2)]) (size:=2) (bytes:=16) (v:=(.slice W m H)) qD underlying37 BA HN C8 O qD O a O (O) (B8.cells O) qS (by unfold maxLen;omega) qO (e) ?_;intro v9 aj G p an;replace j:=p.keep (λh=>by have:=(z.lt _ h).2;have:=K.eq;omega) j;replace E:=E.step p (λx hx h=>absurd (a.lt x h).1 qO);replace f:=f.step p (λx hx h=>absurd (a.lt x h).1 qO);obtain ⟨P,L,rfl⟩:=A9 G;refine qA _ O (AA (AP (AB (AG (qV (Aq O O (A2 qO)) (qM _ O (AA (AB ?_))))))));exact ⟨l.length - (k+1),qO,k+1,P,L,m+1,[s],Af.out ⟨O,O,O,O,trivial⟩,E,f,qO,(by simp[ae]),qO,(λu t=>by rw[List.mem_singleton] at t;subst t;omega),(by rw[<-C,L4]),(by simpa[BP] using G),Nat.le_trans e p.size,O⟩
  .have af:J.drop k=[]:=List.drop_eq_nil_of_le qO;rw[af,List.foldl_nil] at C;refine Ak (AR (AR (Ae (AB (Y (qM _ O (qA _ O (AA (AS (AV results131 (v:=(.slice W m H)) O ?_))))))))));subst C;subst hm;exact ⟨⟨L5 J,⟨J,A,N,O⟩,⟨W,H,O⟩,Eo a qO⟩,E⟩
theorem MG:∀(l:List Sp) (p:Option Int),Canon l->(∀h,p=some h->∀s∈l,h+2<=s.1)->Df p l=0
 | [],_,_,_=>rfl
 | s::r,p,hc,hp=>by
  have c:=hc.head;unfold C_ at c;rw[Cm,if_neg (by unfold EA;simp;omega)];rw[if_neg,MG r (some s.2) hc.tail (λh a t b=>by cases a;exact hc.far t b)];cases p with
  | none=>simp
  | some h=>have:=hp h O s List.mem_cons_self;simp;omega
theorem Io:∀(l:List Sp) (p:Option Int),Df p l=0->Canon l∧(∀h,p=some h->∀s∈l,h+2<=s.1)
 | [],_,_=>⟨Canon.nil,λ_ _ _ h=>absurd h List.not_mem_nil⟩
 | s::r,p,h0=>by
  rw[Cm] at h0;by_cases c:EA s=false
  .rw[if_pos c] at h0;cases h0
  rw[if_neg c] at h0;have g:Df (some s.2) r=0∧∀h,p=some h->h+2<=s.1:=by
   cases p with
   | none=>exact ⟨by simpa using h0,λ_ b=>by cases b⟩
   | some q=>
    by_cases f:s.1<q+2
    .simp[f] at h0
    .simp[f] at h0;exact ⟨h0,λh b=>by cases b;omega⟩
  obtain ⟨j,i⟩:=Io r (some s.2) g.1;have a:C_ s:=by unfold C_;unfold EA at c;simp at c;omega
  have e:=i s.2 O;refine ⟨Canon.cons a e j,λh b t d=>?_⟩;have h4:=g.2 h b;rcases List.mem_cons.1 d with rfl|d
  .omega
  .have:=e t d;unfold C_ at a;omega
theorem RD {l:List Sp} (h:Canon l) (hl:l.length<=16):A7 l=0:=by
 unfold A7;rw[if_neg qO];exact MG l none h λ_ a=>by cases a
theorem CE {l:List Sp} (h:A7 l=0):Canon l∧l.length<=16:=by
 unfold A7 at h;split at h
 .cases h
 .exact ⟨(Io l none h).1,qO⟩
def Cc (out:List Sp) (f:Int->Bool):Prop:=Canon out∧∀r,0<=r->r<=1114111->BY out r=f r
theorem Cc.eq {a b:List Sp} {f g:Int->Bool} (e:Cc a f) (hb:Cc b g) (h:∀r,0<=r->r<=1114111->f r=g r):a=b:=
 Hn e.1 hb.1 λr c d=>by rw[e.2 r c d,hb.2 r c d,h r c d]
def VW (w:World) (v:Value) (out:List Sp):Prop:=(∃a c,v=.slice a out.length c)∧A6 w v out
theorem GD.set {w:World} {base:Nat} {r:Value} {l:List Sp} (h:GD w base r l):VW w r l:=⟨h.1,h.at⟩
theorem Rr {w:World} {b:Nat} {x y:Value} {l m:List Sp} {T:Nat} (e:Az w b #[x,y] T) (f:A6 w x l) (g:A6 w y m):Bg w (.slice (some ⟨b,0,none⟩) 2 2) [l,m]:=by
 refine ⟨[x,y],⟨_,2,O,qP,qP,.inr ⟨b,0,O,λi r c j u a=>?_⟩⟩,O,λi u l' a d=>?_⟩
 .match i,c with
  | 0,c=>simp at c;subst c;match j,a with|0,a=>simp at a;subst a;exact e.cell O
  | 1,c=>simp at c;subst c;match j,a with|0,a=>simp at a;subst a;exact e.cell O
 .match i,a with
  | 0,a=>simp at a d;subst a;subst d;exact f
  | 1,a=>simp at a d;subst a;subst d;exact g
theorem Cc.join {l out:List Sp} (h:GS l out) (a:∀s∈l,C_ s):Cc out (BY l)∧out.length<=l.length:=
 let ⟨h1,h2,h3⟩:=h.all a
 ⟨⟨h1,λr _ _=>h2 r⟩,h3⟩
theorem Cc.rest {l:List Sp} {f:Int->Bool} (h:Cc l f):Cc (DZ l) (λr=>!f r):=⟨Gq h.1,λr b a=>by rw[Ib h.1 b a,h.2 r b a]⟩
theorem Cc.self {l:List Sp} (h:Canon l):Cc l (BY l):=⟨h,λ_ _ _=>rfl⟩
theorem TP (e:World) (u v:Value) (a b:List Sp) (I:A6 e u a) (hb:A6 e v b) (l:Canon a) (t:Canon b) (la:a.length<=1000) (lb:b.length<=1000) :
 CJ prog 100 #[u,v] e λr w=>(∃out,Cc out (λr=>BY a r && BY b r)∧out.length<=a.length+b.length+3∧VW w r out)∧Ao e w:=by
 refine qR func100 O ntmps100 O (λE=>(Y (qA _ O (AA (Y (qM u O (qE O (AT func130 kQ kQ O) (O7 _ u a I qO l.ok) ?_)))))));rintro _ y ⟨⟨⟨m,i,rfl⟩,W⟩,J⟩;replace E:=E.ext J;have N:GD y e.heap.size (.slice m (DZ a).length i) (DZ a):=⟨⟨_,_,O⟩,W⟩;refine qM v O (qE O (AT func130 kQ kQ O) (O7 _ v b (hb.ext E) qO t.ok) ?_);rintro _ R ⟨⟨⟨n,q,rfl⟩,V⟩,A⟩;replace E:=E.ext A;have p:GD R y.heap.size (.slice n (DZ b).length q) (DZ b):=⟨⟨_,_,O⟩,V⟩;have n1:=KQ a;have n2:=KQ b;refine Ad (ps:=[(0,(.slice m ((DZ a).length) i)),(1,(.slice n ((DZ b).length) q))]) (c:=#[(.slice m ((DZ a).length) i),(.slice n ((DZ b).length) q)]) qD O underlying49 BW G4 qD qD qK ?_;intro bq Z f;have k:=f.blk;refine qE O (AT func132 kQ kQ O) (TO _ _ [DZ a,DZ b] (Rr k ((N.at.ext A).ext f.ext) (p.at.ext f.ext)) (by simp;omega)) ?_;rintro _ B ⟨⟨⟨X,H,rfl⟩,M⟩,C⟩;have S:GD B Z.heap.size (.slice X [DZ a,DZ b].flatten.length H) [DZ a,DZ b].flatten:=⟨⟨_,_,O⟩,M⟩;have z:∀s∈[DZ a,DZ b].flatten,C_ s:=λs hs=>by simp at hs;rcases hs with hs|hs;exact (Gq l).ok s hs;exact (Gq t).ok s hs
 refine qE O (AT func131 kQ kQ O) (PP _ _ _ S.at (by simp;omega) z) ?_;rintro _ T ⟨⟨j,L,⟨⟨F,K,rfl⟩,P⟩⟩,D⟩;have Q:GD T B.heap.size (.slice F j.length K) j:=⟨⟨_,_,O⟩,P⟩;obtain ⟨d,o⟩:=Cc.join L z;have hj3:j.length<=(DZ a).length+(DZ b).length:=by simpa using o
 have n3:=KQ j;refine qE O (AT func130 kQ kQ O) (O7 _ _ j Q.at qO d.1.ok) ?_;rintro G w5 ⟨U,x⟩;replace k:=x.keep (D.keep (C.keep k));replace E:=(((E.ext f.ext).ext C).ext D).ext x;refine qA _ O (AA (AS (AV results100 (v:=G) O ?_)));exact ⟨⟨DZ j,⟨Gq d.1,λr h g=>by rw[Ib d.1 h g,d.2 r h g];simp[DD,Ib l h g,Ib t h g]⟩,qO,U.set⟩,E⟩
end Go.Proofs
namespace Go.Proofs
open Go Go.Eng Go.Sort
set_option maxRecDepth 100000
abbrev RP:Nat:=3
def WU (w:World) (base:Nat) (r:Value) (l:List Int):Prop:=(∃a c,r=.slice a l.length c)∧w.ownsRow base RP 1 r l.length (l.map (Value.int .i64))
theorem ownI_holds {w:World} {base g n c:Nat} {l:List Int} (h:w.ownsRow base RP 1 (.slice (some ⟨g,0,none⟩) n c) n (l.map (Value.int .i64))):Sort.Holds (Value.int .i64) w g 0 l.toArray:=by
 intro j b;simp only[List.size_toArray] at b;have f:l[j]?=some l[j]:=List.getElem?_eq_getElem b;have a:=h.cells (g:=g) O j (.int .i64 l[j]) (by simp[f]);rw[Addr.add_lit] at a;have i:l.toArray[j]! = l[j]:=by rw[getElem!_pos l.toArray j (by simpa using b)];simp
 rw[i];refine ⟨a,?_⟩;rcases h.2 with ⟨a,_⟩|⟨g',cap,cur,d,_,e,_⟩
 .simp at a
 .simp only[Value.slice.injEq,Option.some.injEq,Addr.mk.injEq,and_true] at d;obtain ⟨rfl,_⟩:=d;simp[World.frozen?,e]
theorem Km {w:World} {g n c:Nat} {l:List Int} (h:Sort.Holds (Value.int .i64) w g 0 l.toArray) (f:l.length=n) (hc:n<=c) (hl:n<=9223372036854775807):CF w (.slice (some ⟨g,0,none⟩) n c) l:=by
 refine ⟨_,c,by simp[f],by simp;omega,by simp;omega,.inr ⟨g,0,O,λi r d j u b=>?_⟩⟩;simp only[List.getElem?_map,Option.map_eq_some_iff] at d;obtain ⟨x,a,rfl⟩:=d;have hi:=AI a;have hj:j<1:=by have:=AI b;simpa[Jp] using this
 obtain rfl:j=0:=qO
 have e:=(h i (by simpa using hi)).1;have k:l.toArray[i]! = x:=by
  rw[getElem!_pos l.toArray i (by simpa using hi)];rw[List.getElem?_eq_getElem hi] at a;simpa using a
 rw[k] at e;simp[Jp] at b;subst b;simpa using e
theorem HD {α:Type} [Inhabited α] (enc:α->Value) (w:World) (g c m:Nat) (d:Array α) (e:Array Obj):Chg (λx=>x=g) w (grow (putRow enc (Sort.ahead w m) g c d) e):=by
 refine ⟨O,O,O,Nat.le_add_right _ _,?_,λb hb a=>?_⟩
 .simp[grow,putRow,mapBlock,Sort.ahead]
 .simp only[grow,putRow,mapBlock,Sort.ahead];rw[Array.getElem?_append_left (by simpa using hb),Array.getElem?_modify,if_neg (λh=>a h.symm)]
def KY (x y:Int):Bool:=decide (x<=y)
theorem UG (d:World) (base:Nat) (v:Value) (l:List Int) (h:WU d base v l) (f:l≠[]) (hl:l.length<=17592186044416) :
 CJ prog 81 #[v] d λr w=>r=.tuple #[]∧CF w v (l.mergeSort KY)∧Chg (λx=>v.ownBlock=some x) d w:=by
 obtain ⟨⟨a,c,rfl⟩,h⟩:=h;rcases h.2 with ⟨h1,q⟩|⟨g,cap,cur,m,hbg,o,i,hcm,hcs,htake⟩
 .exact absurd (List.eq_nil_of_length_eq_zero q) f
 .simp only[Value.slice.injEq] at m;obtain ⟨rfl,_,rfl⟩:=m;have k:=ownI_holds h;have b:g<d.heap.size:=(Array.getElem?_eq_some_iff.1 o).1;refine Calls.mono (Any.slices_Sort_int Tryz.sortI g 0 c l d k b qO) ?_;rintro e w' ⟨rfl,n,j,rfl⟩;refine ⟨_,O,O,?_,(HD _ d g 0 n _ j).mono λx _ p=>by subst p;rfl⟩;have s:Sort.Holds (Value.int .i64) (grow (putRow (Value.int .i64) (Sort.ahead d n) g 0 (l.mergeSort λx y=>decide (x<=y)).toArray) j) g 0 (l.mergeSort λx y=>decide (x<=y)).toArray:=
   holds_grow _ _ j g 0 _ (by simpa[putRow,mapBlock,Sort.ahead] using b) (holds_putRow _ (Sort.ahead d n) g 0 l.toArray _ k qP)
  exact Km (l:=l.mergeSort KY) s qP i qO
theorem O3 (a:World) (base:Nat) (v:Value) (l:List Int) (h:WU a base v l) (b:l≠[]) (f:l.length<=17592186044416) :
 CJ prog 46 #[v] a λr w=>r=.tuple #[]∧CF w v (l.mergeSort KY)∧Chg (λx=>v.ownBlock=some x) a w:=by
 refine F9 func46 O ntmps46 (Jo O) ?_;have E:Chg (λx=>v.ownBlock=some x) a a:=Chg.refl _ _;refine AG (qM v O (qE O (AT func81 kQ kQ O) (UG _ base v l h b f) ?_));rintro _ w9 ⟨rfl,e,d⟩;replace E:=E.step d (λx hx c=>c);refine AA (Fg results46 ?_);exact ⟨O,e,E⟩
theorem Mi {l:List Int} (hd:l.Nodup):(l.mergeSort KY).Pairwise (· < ·):=by
 have e:(l.mergeSort KY).Pairwise (λa b=>KY a b=true):=List.pairwise_mergeSort (λa b c e d=>by simp[KY] at *;omega) (λa b=>by simp[KY];omega) l;have d:(l.mergeSort KY).Nodup:=(List.mergeSort_perm l KY).nodup_iff.2 hd;have f:=e.and d;exact f.imp fun {a b} ⟨g,h5⟩=>by simp[KY] at g;omega
def G2 (l:List Sp) (k:Int):Prop:=k=0∨∃s∈l,k=s.1∨(s.2<1114111∧k=s.2+1)
def KP (es:List (Int×Bool)) (l:List Sp):Prop:=G3 es∧∀k,k∈es.map (·.1)↔G2 l k
theorem KT {κ ν:Type} [DecidableEq κ] {es:List (κ×ν)} {k q:κ} {v:ν}:q∈(DA es k v).map (·.1)↔q=k∨q∈es.map (·.1):=by
 rw[<-DN,St];by_cases h:k=q
 .simp[h]
 .rw[if_neg h,DN];simp[Ne.symm h]
theorem Ng {κ ν:Type} [DecidableEq κ] (es:List (κ×ν)) (k:κ) (v:ν):(DA es k v).length<=es.length+1∧es.length<=(DA es k v).length:=by
 induction es with
 | nil=>simp[DA]
 | cons p r ih=>unfold DA;split<;>simp<;>omega
theorem KP.start:KP (DA [] 0 true) []:=by
 refine ⟨G3.nil.put _ _,λk=>?_⟩;simp[DA,G2]
theorem KP.lo {es:List (Int×Bool)} {l:List Sp} (h:KP es l) (s:Sp) (hs:¬s.2<1114111):KP (DA es s.1 true) (l++[s]):=by
 refine ⟨h.1.put _ _,λk=>?_⟩;rw[KT,h.2 k];unfold G2;constructor
 .rintro (a|a|⟨t,b,a⟩)
  .exact .inr ⟨s,qP,.inl a⟩
  .exact .inl a
  .exact .inr ⟨t,by simp[b],a⟩
 .rintro (a|⟨t,b,a⟩)
  .exact .inr (.inl a)
  .rcases List.mem_append.1 b with b|b
   .exact .inr (.inr ⟨t,b,a⟩)
   .rw[List.mem_singleton] at b;subst b;rcases a with a|⟨a,_⟩
    .exact .inl a
    .exact absurd a hs
theorem KP.both {es:List (Int×Bool)} {l:List Sp} (h:KP es l) (s:Sp) (hs:s.2<1114111):KP (DA (DA es s.1 true) (s.2+1) true) (l++[s]):=by
 refine ⟨(h.1.put _ _).put _ _,λk=>?_⟩;rw[KT,KT,h.2 k];unfold G2;constructor
 .rintro (a|a|a|⟨t,b,a⟩)
  .exact .inr ⟨s,qP,.inr ⟨hs,a⟩⟩
  .exact .inr ⟨s,qP,.inl a⟩
  .exact .inl a
  .exact .inr ⟨t,by simp[b],a⟩
 .rintro (a|⟨t,b,a⟩)
  .exact .inr (.inr (.inl a))
  .rcases List.mem_append.1 b with b|b
   .exact .inr (.inr (.inr ⟨t,b,a⟩))
   .rw[List.mem_singleton] at b;subst b;rcases a with a|⟨_,a⟩
    .exact .inr (.inl a)
    .exact .inl a
theorem CP {α:Type} {l:List α} {k:Nat} {x:α} (h:l[k]?=some x):l.take (k+1)=l.take k++[x]:=by rw[List.take_add_one,h];rfl
def RY (es:List (Int×Bool)) (i:Nat):Int:=((es[i]?).map (·.1)).getD 0
theorem Q0 {es:List (Int×Bool)} {seen:List Nat} (hd:seen.Nodup) (d:∀i∈seen,i<es.length) (c:∀i,i<es.length->i∈seen):(seen.map (RY es)).Perm (es.map (·.1)):=by
 have a:=(Qm hd d c).map (RY es);have b:(List.range es.length).map (RY es)=es.map (·.1):=by
  apply List.ext_getElem?;intro i;rw[List.getElem?_map,List.getElem?_map];by_cases hi:i<es.length
  .rw[List.getElem?_range hi,List.getElem?_eq_getElem hi];simp[RY,List.getElem?_eq_getElem hi]
  .rw[List.getElem?_eq_none (by simpa using hi),List.getElem?_eq_none qO];rfl
 rw[b] at a;exact a
def Ds (l:List Sp) (p:List Int):Prop:=p.Pairwise (· < ·)∧∀k,k∈p↔G2 l k
theorem KK (w0:World) (v:Value) (ll:List (List Sp)) (h:Bg w0 v ll) (hl:ll.flatten.length≤8796093022200) (hok:∀s∈ll.flatten,C_ s) :
  CJ prog 63 #[v] w0 fun r w=>(∃p,Ds ll.flatten p∧(∃a c,r=.slice a p.length c)∧CF w r p)∧Ao w0 w:=by
 obtain ⟨a,c,rfl,_,hle⟩:=h.form;obtain ⟨base,av⟩:∃base,base=w0.heap.size:=⟨_,rfl⟩;refine qR func63 rfl ntmps63 rfl (fun E=>(Y (qA _ rfl (AA (Y (Eg DJ QC qD ?_))))));intro bm wm Nm;have Fm:=Nm.ge E;replace E:=E.ext Nm.ext;intro Mm;refine HB (k:=0) (v:=true) underlying84 (JK underlying3) Mm rfl rfl rfl ?_;intro w1 S1 H1;replace E:=S1.step E qQ;replace Mm:=H1;refine qM _ rfl (qA _ rfl (AA (AE (Y (qM _ rfl (qV (AH underlying49 rfl) (qM _ rfl (AA (AM (Am (fun nn_ σ W2=>∃(k:Nat) (es:List (Int×Bool)),(∃jj_,σ=BQ jj_ [(3,(.map (some bm))),(12,(.slice a ll.length c)),(13,(I6 (ll.length:Int))),(14,(I6 (k:Int)))])∧Chg AZ w0 W2∧BZ W2 bm DJ QC es∧(k≤ll.length)∧(KP es (ll.take k).flatten)∧(es.length≤1+2*(ll.take k).flatten.length)∧nn_=ll.length - k) (n:=ll.length - 0) ?_ ?_))))))))))
 ·exact ⟨0,DA [] 0 true,Af.out ⟨rfl,rfl,rfl,rfl,trivial⟩,E,Mm,Nat.zero_le _,KP.start,(by simp[DA]),rfl⟩
 ·clear E Mm;rintro _ _ W2 ⟨k,es,⟨j2,rfl⟩,E,Mm,hk,aj,a0,rfl⟩;refine Y (qV (Av rfl rfl) (AA (AE (qC rfl (fun bb=>?_) (fun bb=>?_)))))
  ·obtain ⟨l,hx⟩:=AL (l:=ll) (i:=k) qO;obtain ⟨b,o,a8,a2⟩:=CD h qO;subst a8;obtain ⟨ra,rc,ah,ay⟩:=a2 k l hx;have al:=Cx hx;have hll:l.length≤9223372036854775807:=by simpa using BL.le ay
   refine AK (AB (AE (AM (Y (qV (AC (b:=b) (o:=o) (len:=ll.length) (cap:=c) (i:=k) (o':=o+k) rfl rfl rfl underlying49 BW qO qO) (qV (AD rfl CC (E.cell (fun f=>f) ah)) (qA _ rfl (AA (Y (qM _ rfl (qV (AH underlying37 rfl) (qM _ rfl (AA (AM (Am (fun nn_ σ W4=>∃(i:Nat) (ae:List (Int×Bool)),(∃jj_,σ=BQ jj_ [(3,(.map (some bm))),(12,(.slice (some ⟨b,o,none⟩) ll.length c)),(13,(I6 (ll.length:Int))),(14,(I6 (k:Int))),(18,(.slice ra l.length rc)),(19,(I6 (l.length:Int))),(20,(I6 (i:Int)))])∧Chg AZ w0 W4∧BZ W4 bm DJ QC ae∧(i≤l.length)∧(KP ae ((ll.take k).flatten++l.take i))∧(ae.length≤1+2*(ll.take k).flatten.length+2*i)∧nn_=l.length - i) (n:=l.length - 0) ?_ ?_)))))))))))))))
   ·exact ⟨0,es,Af.out ⟨rfl,rfl,rfl,rfl,rfl,rfl,rfl,trivial⟩,E,Mm,Nat.zero_le _,(by simpa using aj),qO,rfl⟩
   ·clear E Mm;rintro _ _ W4 ⟨i,ae,⟨j4,rfl⟩,E,Mm,hi,ad,bf,rfl⟩;refine Y (qV (Av rfl rfl) (AA (AE (qC rfl (fun au=>?_) (fun au=>?_)))))
    ·obtain ⟨s,hs⟩:=AL (l:=l) (i:=i) qO;obtain ⟨rb,ro,ap,a4⟩:=BH ay qO;subst ap;have ax:=CP hs;have hq1:=Ng ae s.1 true;have hv:C_ s:=hok s (List.mem_flatten.2 ⟨l,List.mem_of_getElem? hx,List.mem_of_getElem? hs⟩);unfold C_ at hv;refine AK (AB (AE (AM (Y (qV (AC (b:=rb) (o:=ro) (len:=l.length) (cap:=rc) (i:=i) (o':=ro+i*2) rfl rfl rfl underlying37 BA qO qO) (qV (AU rfl EM BA rfl ((a4 i s hs).ext E)) (Au (v:=(.agg #[(I6 s.1),(I6 s.2)])) (c:=#[(I6 s.1),(I6 s.2)]) (n:=2) qD C8 rfl BA rfl rfl rfl qS ?_)))))));intro b6 w6 N6;have F6:=N6.ge E;have O6_bm:=N6.ltM Mm;replace Mm:=N6.keepM Mm;replace E:=E.ext N6.ext;have B6:=N6.blk;refine AA (Y (qM _ rfl (qF b6 0 0 rfl underlying74 rfl Ab rfl (qV (AD rfl Aa (B6.cell rfl)) (DM (k:=s.1) (v:=true) underlying84 (JK underlying3) Mm rfl rfl rfl ?_)))));intro w7 S7 H7;replace B6:=S7.keep qO B6;replace E:=S7.step E qQ;replace Mm:=H7;refine AA (Y (qF b6 0 1 rfl underlying74 rfl Ab rfl (qV (AD rfl Aa (B6.cell rfl)) (qV (Av rfl rfl) (AA (qC rfl (fun hM=>?_) (fun hM=>?_)))))))
     ·have hq2:=Ng (DA ae s.1 true) (s.2+1) true;refine AG (qM _ rfl (qF b6 0 1 rfl underlying74 rfl Ab rfl (qV (AD rfl Aa (B6.cell rfl)) (qV (Aq rfl rfl (A2 qO)) (DM (k:=(s.2+1)) (v:=true) underlying84 (JK underlying3) Mm rfl rfl rfl ?_)))));intro w9 S9 H9;replace B6:=S9.keep qO B6;replace E:=S9.step E qQ;replace Mm:=H9;refine AA (AP (AB (AG (qV (Aq rfl rfl (A2 qO)) (qM _ rfl (AA (AB ?_)))))));exact ⟨l.length - (i+1),qO,i+1,DA (DA ae s.1 true) (s.2+1) true,Af.out ⟨rfl,rfl,rfl,rfl,rfl,rfl,rfl,trivial⟩,E,Mm,qO,(by rw[ax,←List.append_assoc];exact ad.both s hM),qO,rfl⟩
     ·refine AK (AP (AB (AG (qV (Aq rfl rfl (A2 qO)) (qM _ rfl (AA (AB ?_)))))));exact ⟨l.length - (i+1),qO,i+1,DA ae s.1 true,Af.out ⟨rfl,rfl,rfl,rfl,rfl,rfl,rfl,trivial⟩,E,Mm,qO,(by rw[ax,←List.append_assoc];exact ad.lo s hM),qO,rfl⟩
    ·have a1:i=l.length:=qO
     rw[a1,List.take_length,←al] at ad;refine Ak (AR (AR (Ae (AP (AB (AG (qV (Aq rfl rfl (A2 qO)) (qM _ rfl (AA (AB ?_))))))))));exact ⟨ll.length - (k+1),qO,k+1,ae,Af.out ⟨rfl,rfl,rfl,rfl,trivial⟩,E,Mm,qO,ad,(by rw[al,List.length_append];omega),rfl⟩
  ·have a5:k=ll.length:=qO
   rw[a5,List.take_length] at aj a0;have ba:=E.size;refine Ak (AR (AR (Ae (AB (Y (qA _ rfl (AA (AE (Y (qM _ rfl (UM qD underlying84 Mm rfl ?_)))))))))));intro br wr Nr;have Fr:=Nr.ge E;have Or_bm:=Nr.ltM Mm;replace Mm:=Nr.keepM Mm;replace E:=E.ext Nr.ext;have Ir:Dg wr br bm es.length []:=Nr.at';refine AA (AM ?_);have hwr:=Nr.size;have hbr:br<wr.heap.size:=Ir.lt;refine Am (fun nn_ σ af=>∃(aa:List Nat) (la:Option Addr) (lc:Nat) (n:Nat),(∃jj_,σ=BQ jj_ [(37,(P6 br 0)),(8,(.slice la n lc))])∧Chg AZ w0 af∧BZ af bm DJ QC es∧Dg af br bm es.length aa∧(aa.Nodup)∧(∀j∈aa,j<es.length)∧(n=aa.length)∧(af.ownsRow wr.heap.size RP 1 (.slice la n lc) n ((aa.map (RY es)).map (Value.int .i64)))∧(wr.heap.size≤af.heap.size)∧nn_=es.length - aa.length) (n:=es.length - ([]:List Nat).length) ?_ ?_
   ·exact ⟨([]:List Nat),none,0,0,Af.out ⟨rfl,rfl,trivial⟩,E,Mm,Ir,List.nodup_nil,(fun j hj=>absurd hj List.not_mem_nil),rfl,World.ownsRow_nil _ _ _ _,Nat.le_refl _,rfl⟩
   ·clear E Mm Ir;rintro _ _ af ⟨aa,la,lc,n,⟨j10,rfl⟩,E,Mm,Ir,aq,ar,hn,ab,ag,rfl⟩;refine Y (Vm qD Mm Ir rfl (fun ao=>?_) ?_)
    ·skip
     have ac:=Q0 (es:=es) aq ar ao;have bc:(aa.map (RY es)).Nodup:=ac.nodup_iff.2 aj.1;have hO:WU af wr.heap.size (.slice la n lc) (aa.map (RY es)):=⟨⟨la,lc,by simp[hn]⟩,by simpa[hn] using ab⟩;have az:(0:Int)∈aa.map (RY es):=ac.mem_iff.2 ((aj.2 0).2 (.inl rfl));have hsn:=NP aq ar;refine qV (Ai rfl rfl) (AA (AE (AW rfl (Ak (AR (AR (Ae (AB (Y (qM _ rfl (qE rfl (AT func46 kQ kQ rfl) (O3 _ wr.heap.size (.slice la n lc) _ hO (fun h9=>by rw[h9] at az;cases az) (by simp;omega)) ?_)))))))))));rintro _ w19 ⟨rfl,bg,a6⟩;replace E:=E.step a6 (fun x hx hy=>absurd (ab.lt x hy).1 qO);refine AA (Y (qM _ rfl (qA _ rfl (AA (AS (AV results63 (v:=(.slice la n lc)) rfl (⟨⟨(aa.map (RY es)).mergeSort KY,⟨Mi bc,fun q=>?_⟩,⟨la,lc,by simp[hn]⟩,bg⟩,E⟩)))))));rw[List.mem_mergeSort,ac.mem_iff];exact aj.2 q
    ·intro i p a7 hp a9 am;replace ab:=Ax ab am.chg (fun x hx h9=>by have:=(ab.lt x hx).1;omega);replace ag:=Nat.le_trans ag (Nat.le_of_eq am.size.symm);replace Mm:=am.keepM qO Mm;replace E:=am.step E (by first|exact Or.inl qO|exact Or.inr rfl|exact Or.inr qO);replace Ir:Dg a7 br bm es.length (aa++[i]):=am.at';have ak:(aa++[i]).Nodup:=List.nodup_append.2 ⟨aq,qP,fun x hx z hz=>by simp at hz;subst hz;exact fun h9=>a9 (h9▸hx)⟩;have ai:∀j∈aa++[i],j<es.length:=fun j hj=>by rcases List.mem_append.1 hj with h9|h9;exact ar j h9;rw[List.mem_singleton] at h9;subst h9;exact AI hp
     have hl2:=NP ak ai;have be:(aa++[i]).length=aa.length+1:=qP
     have bh:RY es i=p.1:=by unfold RY;rw[hp];rfl
     refine qV (Ai rfl rfl) (AA (AE (A4 rfl (AK (AB (AM (Y (B_ (v:=(.tuple #[(I6 p.1),(.bool p.2)])) rfl rfl qD (UP Mm Ir hp rfl) (qV (Ai rfl rfl) (qA _ rfl (AA (AG (qM _ rfl (qM _ rfl (Ad (ps:=[(0,(I6 p.1))]) (c:=#[(I6 p.1)]) qD rfl underlying22 Ab CW qD qD qK ?_)))))))))))))));intro bq wq Nq;have Fq:=Nq.ge E;have Oq_bm:=Nq.ltM Mm;have Oq_br:=New.ltI Ir Nq;replace Mm:=Nq.keepM Mm;replace Ir:=New.keepI Ir Nq;replace ab:=Aj ab Nq.ext;replace ag:=Nat.le_trans ag Nq.ext.size;replace E:=E.ext Nq.ext;have Bq:=Nq.blk;refine BT (base:=wr.heap.size) (n:=n) (m:=1) (xs:=(aa.map (RY es)).map (Value.int .i64)) (news:=[(I6 p.1)]) (size:=1) (bytes:=8) (v:=(.slice la n lc)) qD underlying22 Ab GO CW rfl qD rfl ab rfl (rfl) (Bq.cells rfl) qS (by unfold maxLen;omega) qO (ag) ?_;intro v9 w29 aw an Dv9;replace Mm:=an.keepM (fun h=>by have:=(ab.lt _ h).1;omega) Mm;replace Ir:=Chg.keepI Ir an (fun h=>by have:=(ab.lt _ h).1;omega);replace E:=E.step an (fun x hx h=>absurd (ab.lt x h).1 qO);obtain ⟨bd,a3,rfl⟩:=A9 aw;refine qA _ rfl (AA (AP (AB ?_)));exact ⟨es.length - (aa++[i]).length,qO,aa++[i],bd,a3,n+1,Af.out ⟨rfl,rfl,trivial⟩,E,Mm,Ir,ak,ai,(by rw[be,hn]),(by rw[List.map_append,List.map_append,List.map_singleton,List.map_singleton,bh];exact aw),Nat.le_trans ag an.size,rfl⟩
end Go.Proofs
namespace Go.Proofs
open Go Go.Eng
set_option maxRecDepth 100000
theorem Uj (s:Int×Int) (n:World) :
 CJ prog 67 #[.agg #[.int .i64 s.1,.int .i64 s.2]] n λv w=>v=.bool (EA s)∧Ao n w:=by
 refine qR func67 O ntmps67 O (λE=>(Y (BM (v:=(.agg #[(I6 s.1),(I6 s.2)])) (c:=#[(I6 s.1),(I6 s.2)]) qD O O ?_)));intro j w1 m;replace E:=E.ext m.ext;have k:=m.blk;refine qA _ O (AA (Y (qF j 0 0 O underlying74 O Ab O (qV (AD O Aa (k.cell O)) ?_))));obtain ⟨a,f⟩:∃e,(decide ((0:Int)<=s.1))=e:=⟨_,O⟩;refine qV ((GY O O).trans (by rw[f];try rfl)) (qM _ O (qG (.bool a) (yU a (P6 j 0)) (by cases a<;>first|exact gA|exact gB|exact .inl ⟨O,AN O underlying74 O Ab O⟩) (qG (.bool a) (yU a (I6 s.1)) (by cases a<;>first|exact gA|exact gB|exact .inl ⟨O,AD O Aa (k.cell O)⟩) (qG (.bool a) (yU a (P6 j 1)) (by cases a<;>first|exact gA|exact gB|exact .inl ⟨O,AN O underlying74 O Ab O⟩) (qG (.bool a) (yU a (I6 s.2)) (by cases a<;>first|exact gA|exact gB|exact .inl ⟨O,AD O Aa (k.cell O)⟩) ?_)))));obtain ⟨o,h⟩:∃e,(decide ((s.1:Int)<=s.2))=e:=⟨_,O⟩;refine qG (.bool a) (yU a (.bool o)) (by cases a<;>first|exact gA|exact gB|exact .inl ⟨O,(GY O O).trans (by rw[h];try rfl)⟩) ?_;obtain ⟨b,g⟩:∃e,(a && o)=e:=⟨_,O⟩;refine qV (Ac (v:=.bool b) O (by rw[<-g];cases a<;>rfl)) (qM _ O (qG (.bool b) (yU b (P6 j 1)) (by cases b<;>first|exact gA|exact gB|exact .inl ⟨O,AN O underlying74 O Ab O⟩) (qG (.bool b) (yU b (I6 s.2)) (by cases b<;>first|exact gA|exact gB|exact .inl ⟨O,AD O Aa (k.cell O)⟩) ?_)));obtain ⟨l,d⟩:∃e,(decide ((s.2:Int)<=1114111))=e:=⟨_,O⟩;refine qG (.bool b) (yU b (.bool l)) (by cases b<;>first|exact gA|exact gB|exact .inl ⟨O,(GY O O).trans (by rw[d];try rfl)⟩) ?_;obtain ⟨p,i⟩:∃e,(b && l)=e:=⟨_,O⟩;refine qV (Ac (v:=.bool p) O (by rw[<-i];cases b<;>rfl)) (qA _ O (AA ?_));subst i;subst d;subst g;subst h;subst f;refine AS (AV results67 (v:=(.bool (((decide ((0:Int)<=s.1)) && (decide ((s.1:Int)<=s.2))) && (decide ((s.2:Int)<=1114111))))) O ?_);exact ⟨CG (by unfold EA;rfl),E⟩
theorem Ul:∀(l:List (Int×Int)),Df none l=Df (some (-2)) (l.drop 0)
 | []=>rfl
 | s::r=>by
  simp only[List.drop];rw[Cm,Cm];by_cases a:EA s=false
  .rw[if_pos a,if_pos a]
  .rw[if_neg a,if_neg a];have:¬s.1<0:=by simp[EA] at a;omega
   simp[this]
theorem My (h:World) (v:Value) (l:List (Int×Int)) (hs:A6 h v l) :
 CJ prog 24 #[v] h λv w=>v=.int .i64 (A7 l)∧Ao h w:=by
 obtain ⟨a,c,rfl⟩:=BL.form hs;simp only[List.length_map] at hs⊢;refine qR func24 O ntmps24 O (λE=>(Y (qA _ O (AA (AE (Y (qM _ O (qV (AH underlying37 O) (qV (CH O O) (AA (qC O (λu=>?_) (λu=>?_))))))))))))
 .refine Y (qA _ O (AA (AS (AO (AV results24 (v:=(.int .i64 2)) O ?_)))));exact ⟨A5 (by unfold A7;rw[if_pos qO]),E⟩
 .have f:A7 l=Df none l:=by unfold A7;rw[if_neg qO]
  rw[f];refine AK (AB (Y (qA _ O (AA (AE (Y (qM _ O (qV (AH underlying37 O) (qM _ O (AA (AM (Am (λnn_ σ A=>∃(k:Nat) (p:Int),(∃jj_,σ=BQ jj_ [(9,(.slice a l.length c)),(10,(I6 (l.length:Int))),(11,(I6 (k:Int))),(3,(I6 p))])∧Chg AZ h A∧(k<=l.length)∧(-2<=p∧p<=1114111∧(Df none l=Df (some p) (l.drop k)))∧nn_=l.length - k) (n:=l.length - 0) ?_ ?_))))))))))))
  .exact ⟨0,-2,Af.out ⟨O,O,O,O,trivial⟩,E,Nat.zero_le _,⟨qO,qO,Ul l⟩,O⟩
  .clear E;rintro _ _ A ⟨k,p,⟨j2,rfl⟩,E,hk,g,rfl⟩;refine Y (qV (Av O O) (AA (AE (qC O (λq=>?_) (λq=>?_)))))
   .obtain ⟨s,x⟩:=AL (l:=l) (i:=k) qO;obtain ⟨b,o,rfl,j⟩:=BH hs qO;have hd:=Dd x;refine AK (AB (AE (AM (Y (qV (AC (b:=b) (o:=o) (len:=l.length) (cap:=c) (i:=k) (o':=o+k*2) O O O underlying37 BA qO qO) (qV (AU O EM BA O ((j k s x).ext E)) (Au (v:=(.agg #[(I6 s.1),(I6 s.2)])) (c:=#[(I6 s.1),(I6 s.2)]) (n:=2) qD C8 O BA O O O qS ?_)))))));intro y w4 B;have e:=B.blk;refine AA (AE (Y (qV (AU (vs:=[(I6 s.1),(I6 s.2)]) O EM BA O (e.cells O)) (qE O (AT func67 kQ kQ O) (Uj s _) ?_))));rintro _ w9 ⟨rfl,z⟩;replace e:=z.keep e;replace E:=(E.ext B.ext).ext z;refine qV (Cj O) (AA (A3 O (λd=>?_) (λd=>?_)))
    .have m:=d;replace d:=by simpa using d
     refine Y (qA _ O (AA (AS (AO (Ag (AO (AO (Ag (AO (AV results24 (v:=(.int .i64 1)) O ?_))))))))));exact ⟨A5 (by rw[g.2.2,hd,Cm,if_pos d]),E⟩
    .have m:=d;replace d:=by simpa using d
     have hv2:0<=s.1∧s.1<=s.2∧s.2<=1114111:=by simp[EA] at d;omega
     refine AK (AB (AE (Y (qF y 0 0 O underlying74 O Ab O (qV (AD O Aa (e.cell O)) (qM _ O (qV (Aq O O (A2 qO)) (qV (Av O O) (AA (qC O (λt=>?_) (λt=>?_)))))))))))
     .refine Y (qA _ O (AA (AS (AO (Ag (AO (AO (Ag (AO (AV results24 (v:=(.int .i64 3)) O ?_))))))))));exact ⟨A5 (by rw[g.2.2,hd,Cm,if_neg (by simp[d]),if_pos (by simpa using t)]),E⟩
     .refine AK (AB (AG (qF y 0 1 O underlying74 O Ab O (qV (AD O Aa (e.cell O)) (qA _ O (AA (AP (AB (AG (qV (Aq O O (A2 qO)) (qM _ O (AA (AB ?_)))))))))))));exact ⟨l.length - (k+1),qO,k+1,s.2,Af.out ⟨O,O,O,O,trivial⟩,E,qO,⟨qO,qO,by rw[g.2.2,hd,Cm,if_neg (by simp[d]),if_neg (by simpa using t)]⟩,O⟩
   .have r:l.drop k=[]:=List.drop_eq_nil_of_le qO;refine Ak (AR (AR (Ae (AB (Y (qA _ O (AA (AS (AV results24 (v:=(.int .i64 0)) O ?_)))))))));exact ⟨A5 (by rw[g.2.2,r];rfl),E⟩
theorem Ml (m:World) (v:Value) (l:List (Int×Int)) (r:Int) (hs:A6 m v l) :
 CJ prog 49 #[v,.int .i64 r] m λv w=>v=.bool (BY l r)∧Ao m w:=by
 obtain ⟨a,c,rfl⟩:=BL.form hs;have hle:l.length<=9223372036854775807:=by simpa using BL.le hs
 simp only[List.length_map] at hs⊢;refine qR func49 O ntmps49 O (λE=>(Y (qA _ O (AA (AE (Y (qM _ O (qV (AH underlying37 O) (qM _ O (AA (AM (Am (λnn_ σ D=>∃(k:Nat),(∃jj_,σ=BQ jj_ [(1,(I6 r)),(7,(.slice a l.length c)),(8,(I6 (l.length:Int))),(9,(I6 (k:Int)))])∧Chg AZ m D∧(k<=l.length)∧(BY l r=BY (l.drop k) r)∧nn_=l.length - k) (n:=l.length - 0) ?_ ?_))))))))))))
 .exact ⟨0,Af.out ⟨O,O,O,O,trivial⟩,E,Nat.zero_le _,O,O⟩
 .clear E;rintro _ _ D ⟨k,⟨j1,rfl⟩,E,hk,t,rfl⟩;refine Y (qV (Av O O) (AA (AE (qC O (λu=>?_) (λu=>?_)))))
  .obtain ⟨s,z⟩:=AL (l:=l) (i:=k) qO;obtain ⟨b,o,rfl,p⟩:=BH hs qO;have hd:=Dd z;refine AK (AB (AE (AM (Y (qV (AC (b:=b) (o:=o) (len:=l.length) (cap:=c) (i:=k) (o':=o+k*2) O O O underlying37 BA qO qO) (qV (AU O EM BA O ((p k s z).ext E)) (Au (v:=(.agg #[(I6 s.1),(I6 s.2)])) (c:=#[(I6 s.1),(I6 s.2)]) (n:=2) qD C8 O BA O O O qS ?_)))))));intro C w3 B;replace E:=E.ext B.ext;have A:=B.blk;refine AA (Y (qF C 0 0 O underlying74 O Ab O (qV (AD O Aa (A.cell O)) (qM _ O ?_))));obtain ⟨d,h⟩:∃e,(decide ((s.1:Int)<=r))=e:=⟨_,O⟩;refine qV ((GY O O).trans (by rw[h];try rfl)) (qM _ O (qG (.bool d) (yU d (I6 r)) (by cases d<;>first|exact gA|exact gB|exact .inl ⟨O,Ah O⟩) (qG (.bool d) (yU d (P6 C 1)) (by cases d<;>first|exact gA|exact gB|exact .inl ⟨O,AN O underlying74 O Ab O⟩) (qG (.bool d) (yU d (I6 s.2)) (by cases d<;>first|exact gA|exact gB|exact .inl ⟨O,AD O Aa (A.cell O)⟩) ?_))));obtain ⟨y,f⟩:∃e,(decide ((r:Int)<=s.2))=e:=⟨_,O⟩;refine qG (.bool d) (yU d (.bool y)) (by cases d<;>first|exact gA|exact gB|exact .inl ⟨O,(GY O O).trans (by rw[f];try rfl)⟩) ?_;obtain ⟨F,j⟩:∃e,(d && y)=e:=⟨_,O⟩;refine qV (Ac (v:=.bool F) O (by rw[<-j];cases d<;>rfl)) (AA ?_);subst j;subst f;subst h;refine A3 O (λg=>?_) (λg=>?_)
   .have q:=g;refine Y (qA _ O (AA (AS (Ag (AO (AO (Ag (AO (AV results49 (v:=(.bool true)) O ?_)))))))));exact ⟨CG (by rw[t,hd];unfold BY;rw[List.any_cons,g];rfl),E⟩
   .have q:=g;refine AK (AP (AB (AG (qV (Aq O O (A2 qO)) (qM _ O (AA (AB ?_)))))));exact ⟨l.length - (k+1),qO,k+1,Af.out ⟨O,O,O,O,trivial⟩,E,qO,(by rw[t,hd];unfold BY;rw[List.any_cons,g];rfl),O⟩
  .have x:l.drop k=[]:=List.drop_eq_nil_of_le qO;refine Ak (AR (AR (Ae (AB (Y (qA _ O (AA (AS (AV results49 (v:=(.bool false)) O ?_)))))))));exact ⟨CG (by rw[t,x];rfl),E⟩
theorem UN (g:World) (F D:Value) (c d:List (Int×Int)) (r:A6 g F c) (x:A6 g D d) :
 CJ prog 45 #[F,D] g λv w=>v=.bool (decide (c=d))∧Ao g w:=by
 obtain ⟨G,c1,rfl⟩:=BL.form r;obtain ⟨I,c2,rfl⟩:=BL.form x;have hb1:c.length<=9223372036854775807:=by simpa using BL.le r
 simp only[List.length_map] at r x⊢;refine qR func45 O ntmps45 O (λE=>(Y (qA _ O (AA (AE (Y (qM _ O (qV (AH underlying37 O) (qM _ O (qV (AH underlying37 O) (qV (CO O O) (AA (qC O (λz=>?_) (λz=>?_))))))))))))))
 .refine Y (qA _ O (AA (AS (AO (AV results45 (v:=(.bool false)) O ?_)))));exact ⟨CG (by symm;rw[decide_eq_false_iff_not];intro h;rw[h] at z;exact z O),E⟩
 .refine AK (AB (AE (Y (qM _ O (qV (AH underlying37 O) (qM _ O (AA (AM (Am (λnn_ σ A=>∃(k:Nat),(∃jj_,σ=BQ jj_ [(0,(.slice G c.length c1)),(1,(.slice I d.length c2)),(12,(I6 (c.length:Int))),(13,(I6 (k:Int)))])∧Chg AZ g A∧(k<=c.length)∧(∀(i:Nat),i<k->c[i]?=d[i]?)∧nn_=c.length - k) (n:=c.length - 0) ?_ ?_)))))))))
  .exact ⟨0,Af.out ⟨O,O,O,O,trivial⟩,E,Nat.zero_le _,(λi h=>absurd h (Nat.not_lt_zero _)),O⟩
  .clear E;rintro _ _ A ⟨k,⟨j2,rfl⟩,E,hk,j,rfl⟩;refine Y (qV (Av O O) (AA (AE (qC O (λs=>?_) (λs=>?_)))))
   .obtain ⟨p,y⟩:=AL (l:=c) (i:=k) qO;obtain ⟨q,m⟩:=AL (l:=d) (i:=k) qO;obtain ⟨H,C,rfl,t⟩:=BH r qO;obtain ⟨K,B,rfl,u⟩:=BH x qO;refine AK (AB (AE (AM (Y (qM _ O (qA _ O (AA (Dq 8 mixed qK ?_))))))));intro w4 J _;replace E:=E.ext J;refine qT (Ah O) (qT (Ah O) (qT (AC (b:=H) (o:=C) (len:=c.length) (cap:=c1) (i:=k) (o':=C+k*2) O O O underlying37 BA qO qO) (qT (AU O EM BA O ((t k p y).ext E)) (qT (Ah O) (qT (Ah O) (qT (AC (b:=K) (o:=B) (len:=d.length) (cap:=c2) (i:=k) (o':=B+k*2) O O O underlying37 BA qO qO) (qT (AU O EM BA O ((u k q m).ext E)) (Dr (B_ (v:=(.bool (!(decide (p.1=q.1) && decide (p.2=q.2))))) O O qD (Ll LY underlying74 qD qD O O O O underlying3 Aa QL O O) (AA (A3 O (λa=>?_) (λa=>?_))))))))))))
    .have f:=a;replace a:=by simpa using a
     refine Y (qA _ O (AA (AS (Ag (AO (AO (Ag (AO (AV results45 (v:=(.bool false)) O ?_)))))))));exact ⟨CG (by symm;rw[decide_eq_false_iff_not];intro h;subst h;rw[y] at m;cases m;simp at a),E⟩
    .have f:=a;replace a:=by simpa using a
     have e:p=q:=by obtain ⟨p1,p2⟩:=p;obtain ⟨q1,q2⟩:=q;simp at a;simp;exact a
     refine AK (AP (AB (AG (qV (Aq O O (A2 qO)) (qM _ O (AA (AB ?_)))))));exact ⟨c.length - (k+1),qO,k+1,Af.out ⟨O,O,O,O,trivial⟩,E,qO,(λi hi=>by rcases Nat.lt_or_ge i k with h|h;exact j i h;obtain rfl:i=k:=qO;rw[y,m,e]),O⟩
   .have hkk:k=c.length:=qO
    refine Ak (AR (AR (Ae (AB (Y (qA _ O (AA (AS (AV results45 (v:=(.bool true)) O ?_)))))))));exact ⟨CG (by symm;rw[decide_eq_true_eq];exact QF qO (λi hi=>j i qO)),E⟩
end Go.Proofs
namespace Go.Proofs
open Go Go.Eng Go.Sort
set_option maxRecDepth 100000
def nx (p:List Int) (k:Nat):Int:=(p[k]?).getD 1114112
def Jk (f:Int->Bool) (p:List Int):Prop:=∀a r,a∈p->a<=r->r<=1114111->(∀k∈p,k<=a∨r<k)->f r=f a
structure CInv (p:List Int) (f:Int->Bool) (ou:List Sp) (k:Nat):Prop where
 can:Canon ou
 low:∀s∈ou,s.2<nx p k
 mem:∀r,0<=r->r<nx p k->BY ou r=f r
theorem Cg {l:List Sp} {p:List Int} (h:Ds l p) (a:∀s∈l,C_ s) {k:Int} (b:k∈p):0<=k∧k<=1114111:=by
 rcases (h.2 k).1 b with c|⟨s,hs,c⟩
 .omega
 .have:=a s hs;unfold C_ at this;omega
theorem Mf {p:List Int} (h:p.Pairwise (· < ·)) {k:Nat} {x:Int} (a:p[k]?=some x) (hb:∀q∈p,q<=1114111):x<nx p (k+1):=by
 unfold nx;cases hy:p[k+1]? with
 | none=>have:=hb x (List.mem_of_getElem? a);simp;omega
 | some y=>
  have b:=AI hy;have h2:=List.pairwise_iff_getElem.1 h k (k+1) qO b qO;rw[List.getElem?_eq_getElem qO] at a hy;simp at a hy;simp;omega
theorem PG {p:List Int} (h:p.Pairwise (· < ·)) {k:Nat} {x r:Int} (g:p[k]?=some x) (f:r<nx p (k+1)):∀q∈p,q<=x∨r<q:=by
 intro q i;obtain ⟨j,e⟩:=List.mem_iff_getElem?.1 i;have a:=AI e;have b:=AI g;rw[List.getElem?_eq_getElem a] at e;rw[List.getElem?_eq_getElem b] at g;simp at e g;rcases Nat.lt_trichotomy j k with c|c|c
 .have:=List.pairwise_iff_getElem.1 h j k a b c;omega
 .subst c;omega
 .right;unfold nx at f;rw[List.getElem?_eq_getElem (show k+1<p.length by omega)] at f;simp at f;rcases Nat.eq_or_lt_of_le (show k+1<=j by omega) with d|d
  .subst d;omega
  .have:=List.pairwise_iff_getElem.1 h (k+1) j qO a d;omega
theorem I' {l:List Sp} {p:List Int} (h:Ds l p) (a:∀s∈l,C_ s):nx p 0=0:=by
 have b:(0:Int)∈p:=(h.2 0).2 (.inl O);cases p with
 | nil=>cases b
 | cons x r=>
  unfold nx;simp;rcases List.mem_cons.1 b with c|c
  .omega
  .have h2:=(List.pairwise_cons.1 h.1).1 0 c;have h3:=Cg h a (k:=x) List.mem_cons_self;omega
theorem CInv.start {l:List Sp} {p:List Int} {f:Int->Bool} (h:Ds l p) (a:∀s∈l,C_ s):CInv p f [] 0:=
 ⟨Canon.nil,λ_ h=>absurd h List.not_mem_nil,λr h0 b=>by rw[I' h a] at b;omega⟩
theorem CInv.same {l:List Sp} {p:List Int} {f:Int->Bool} (h:Ds l p) (b:∀s∈l,C_ s) (e:Jk f p) {k:Nat} {lo r:Int} (a:p[k]?=some lo) (c:lo<=r) (d:r<nx p (k+1)):f r=f lo:=by
 have hb:nx p (k+1)<=1114112:=by
  unfold nx;cases hy:p[k+1]? with
  | none=>simp
  | some y=>have:=Cg h b (List.mem_of_getElem? hy);simp;omega
 exact e lo r (List.mem_of_getElem? a) c qO (PG h.1 a d)
theorem OG {p:List Int} {k:Nat} {x:Int} (h:p[k]?=some x):nx p k=x:=by unfold nx;rw[h];rfl
theorem CInv.high {p:List Int} {f:Int->Bool} {a:List Sp} {k:Nat} (h:CInv p f a k) {r:Int} (hr:nx p k<=r):BY a r=false:=by
 cases e:BY a r with
 | false=>rfl
 | true=>obtain ⟨s,hs,_,h2⟩:=FJ.1 e;have:=h.low s hs;omega
theorem CInv.skip {l:List Sp} {p:List Int} {f:Int->Bool} {e:List Sp} {k:Nat} {lo:Int} (h:CInv p f e k) (c:Ds l p) (b:∀s∈l,C_ s) (n:Jk f p) (a:p[k]?=some lo) (m:f lo=false):CInv p f e (k+1):=by
 have hm:=Mf c.1 a λq g=>(Cg c b g).2;have he:=OG a;refine ⟨h.can,λs hs=>by have:=h.low s hs;omega,λr i j=>?_⟩;rcases IA r lo with d|d
 .exact h.mem r i qO
 .rw[h.high qO,CInv.same c b n a d j,m]
def QR (ou:List Sp) (lo hi:Int):List Sp:=match ou.getLast? with
  | some c=>if c.2=lo - 1 then ou.dropLast++[(c.1,hi)] else ou++[(lo,hi)]
  | none=>[(lo,hi)]
theorem K0 (o:List Sp) (c:Sp) (lo hi:Int):QR (o++[c]) lo hi=if c.2=lo - 1 then o++[(c.1,hi)] else o++[c]++[(lo,hi)]:=by unfold QR;simp
theorem CInv.take {l:List Sp} {p:List Int} {f:Int->Bool} {u:List Sp} {k:Nat} {lo:Int} (h:CInv p f u k) (i:Ds l p) (b:∀s∈l,C_ s) (D:Jk f p) (d:p[k]?=some lo) (C:f lo=true):CInv p f (QR u lo (nx p (k+1) - 1)) (k+1):=by
 have hm:=Mf i.1 d λq z=>(Cg i b z).2;have he:=OG d;have j:=Cg i b (List.mem_of_getElem? d);have hb:nx p (k+1)<=1114112:=by
  unfold nx;cases hy:p[k+1]? with
  | none=>simp
  | some y=>have:=Cg i b (List.mem_of_getElem? hy);simp;omega
 obtain ⟨hi,v⟩:∃hi,hi=nx p (k+1) - 1:=⟨_,O⟩;rw[<-v];have a:∀{n:List Sp},(∀r,0<=r->BY n r=(BY u r || (decide (lo<=r) && decide (r<=hi))))->∀r,0<=r->r<nx p (k+1)->BY n r=f r:=λB r m w=>by
  rw[B r m];rcases IA r lo with e|e
  .rw[h.mem r m qO,decide_eq_false (p:=lo<=r) qO];simp
  .rw[CInv.same i b D d e w,C,decide_eq_true e,decide_eq_true qO];simp
 rcases Gm u with rfl|⟨o,c,rfl⟩
 .refine ⟨Canon.one ⟨j.1,by simp only;omega,by simp only;omega⟩,λs hs=>?_,a λr m=>?_⟩
  .simp[QR] at hs;subst hs;simp only;omega
  .show BY [(lo,hi)] r=_;rw[CQ,ER,Bool.or_false,Bool.false_or]
 .obtain ⟨w,e,x⟩:=Ei.1 h.can;have hcl:=h.low c qP;unfold C_ at e;rw[K0];split
  .rename_i A
   refine ⟨Ei.2 ⟨w,⟨e.1,by simp only;omega,by simp only;omega⟩,x⟩,λs hs=>?_,a λr m=>?_⟩
   .rcases List.mem_append.1 hs with hs|hs
    .have:=h.low s (by simp[hs]);omega
    .rw[List.mem_singleton] at hs;subst hs;simp only;omega
   .rw[DD,DD,Bool.or_assoc];congr 1;rw[Bool.eq_iff_iff];simp only[CQ,ER,Bool.or_false,Bool.or_eq_true,Bool.and_eq_true,decide_eq_true_eq];omega
  .rename_i A
   refine ⟨Ei.2 ⟨h.can,⟨j.1,by simp only;omega,by simp only;omega⟩,λt g=>?_⟩,λs hs=>?_,a λr m=>?_⟩
   .rcases List.mem_append.1 g with g|g
    .have:=x t g;simp only;omega
    .rw[List.mem_singleton] at g;subst g;simp only;omega
   .rcases List.mem_append.1 hs with hs|hs
    .have:=h.low s hs;omega
    .rw[List.mem_singleton] at hs;subst hs;simp only;omega
   .rw[DD _ [(lo,hi)]];congr 1;rw[CQ,ER,Bool.or_false]
theorem CInv.done {p:List Int} {f:Int->Bool} {a:List Sp} (h:CInv p f a p.length):Cc a f:=
 ⟨h.can,λr b h1=>h.mem r b (by unfold nx;rw[List.getElem?_eq_none (Nat.le_refl _)];simp;omega)⟩
theorem Q5 {l:List Sp} {p:List Int} (f:∀s∈l,s.1∈p) (e:∀s∈l,s.2<1114111->s.2+1∈p):Jk (BY l) p:=by
 intro a r ha har hr c;rw[Bool.eq_iff_iff,FJ,FJ];have b:∀s∈l,(s.1<=r∧r<=s.2)↔(s.1<=a∧a<=s.2):=λs hs=>by
  have q1:=c s.1 (f s hs);by_cases d:s.2<1114111
  .have q2:=c (s.2+1) (e s hs d);omega
  .omega
 constructor
 .rintro ⟨s,hs,h⟩;exact ⟨s,hs,(b s hs).1 h⟩
 .rintro ⟨s,hs,h⟩;exact ⟨s,hs,(b s hs).2 h⟩
theorem Ln {ll:List (List Sp)} {p:List Int} (h:Ds ll.flatten p) {l:List Sp} (a:l∈ll):Jk (BY l) p:=
 Q5 (λs hs=>(h.2 _).2 (.inr ⟨s,List.mem_flatten.2 ⟨l,a,hs⟩,.inl O⟩)) (λs hs b=>(h.2 _).2 (.inr ⟨s,List.mem_flatten.2 ⟨l,a,hs⟩,.inr ⟨b,O⟩⟩))
theorem Sh:∀{p:List Int} {lo hi:Int},p.Pairwise (· < ·)->(∀q∈p,lo<=q∧q<=hi)->lo<=hi+1->((p.length:Nat):Int)<=hi - lo+1
 | [],_,_,_,_,h=>by simp;omega
 | x::r,lo,hi,hp,hb,h=>by
  have h1:=hb x List.mem_cons_self;have h2:=Sh (lo:=x+1) (hi:=hi) (List.pairwise_cons.1 hp).2 (λq a=>⟨by have:=(List.pairwise_cons.1 hp).1 q a;omega,(hb q (List.mem_cons_of_mem _ a)).2⟩) qO;simp only[List.length_cons];omega
theorem Jw {p:List Int} (a:p.Pairwise (· < ·)) (hb:∀q∈p,0<=q∧q<=1114111):p.length<=1114112:=by
 have:=Sh (lo:=0) (hi:=1114111) a hb qO;omega
theorem TV (P:World) (fv v:Value) (f:Int->Bool) (ll:List (List Sp)) (h:Bg P v ll) (hl:ll.flatten.length<=8796093022200) (C:∀s∈ll.flatten,C_ s) (hc:∀p,Ds ll.flatten p->Jk f p)
 (hf:∀(w:World) (x:Int),Ao P w->CV prog fv #[.int .i64 x] w λr w'=>r=.bool (f x)∧Ao w w') :
 CJ prog 65 #[fv,v] P λr w=>(∃out,Cc out f∧GD w P.heap.size r out)∧Ao P w:=by
 refine qR func65 O ntmps65 O (λE=>(Y (qA _ O (AA (Y (qA _ O (AA (Y (qM v O (qE O (AT func63 kQ kQ O) (KK _ v ll h qO C) ?_))))))))));rintro _ X ⟨⟨p,R,⟨pa,Q,rfl⟩,hp⟩,X9⟩;replace E:=E.ext X9;have N:∀q∈p,0<=q∧q<=1114111:=λq hq=>Cg R C hq;have aa:=hc p R;have hs0:=E.size;have hpl:p.length<=1114112:=Jw R.1 N;obtain ⟨base,hbase⟩:∃base,base=X.heap.size:=⟨_,O⟩;have j:Chg AZ X X:=Chg.refl _ _;refine qA _ O (AA (AE (Y (qM _ O (qV (AH underlying22 O) (qM _ O (AA (AM (Am (λnn_ σ W1=>∃(k:Nat) (I:Option Addr) (B:Nat) (m:Nat) (F:List Sp),(∃jj_,σ=BQ jj_ [(0,fv),(6,(.slice pa p.length Q)),(13,(.slice pa p.length Q)),(14,(I6 (p.length:Int))),(15,(I6 (k:Int))),(5,(.slice I m B))])∧Chg AZ P W1∧Chg AZ X W1∧(k<=p.length)∧(m=F.length)∧(m<=k)∧(CInv p f F k)∧(W1.ownsRow base JV 2 (.slice I m B) m (F.map BP).flatten)∧(base<=W1.heap.size)∧nn_=p.length - k) (n:=p.length - 0) ?_ ?_)))))))))
 .exact ⟨0,none,0,0,[],Af.out ⟨O,O,O,O,O,O,trivial⟩,E,j,Nat.zero_le _,O,Nat.le_refl _,CInv.start R C,World.ownsRow_nil _ _ _ _,qO,O⟩
 .clear E j;rintro _ _ W1 ⟨k,I,B,m,F,⟨j1,rfl⟩,E,j,hk,hm,hmk,hI,a,e,rfl⟩;refine Y (qV (Av O O) (AA (AE (qC O (λag=>?_) (λag=>?_)))))
  .obtain ⟨lo,H⟩:=AL (l:=p) (i:=k) qO;have hlb:=N lo (List.mem_of_getElem? H);obtain ⟨b,o,af,S⟩:=BF hp qO;subst af;refine AK (AB (AE (AM (Y (qM _ O (qV (AC (b:=b) (o:=o) (len:=p.length) (cap:=Q) (i:=k) (o':=o+k) O O O underlying22 Ab qO qO) (qV (AD O Aa (j.cell (λf=>f) (S k lo H))) (qA _ O (qA _ O (AA (Y (qA _ O (AA (GR (λσ V=>∃(hi:Int),(∃jj_,σ=BQ jj_ [(0,fv),(5,(.slice I m B)),(6,(.slice (some ⟨b,o,none⟩) p.length Q)),(8,(I6 lo)),(13,(.slice (some ⟨b,o,none⟩) p.length Q)),(14,(I6 (p.length:Int))),(15,(I6 (k:Int))),(9,(I6 hi))])∧Chg AZ P V∧Chg AZ X V∧(hi=nx p (k+1) - 1)∧(V.ownsRow base JV 2 (.slice I m B) m (F.map BP).flatten)∧(base<=V.heap.size)) ?_ ?_))))))))))))))
   .skip
    refine Y (qM _ O (qM _ O (qV (AH underlying22 O) (qV (D3 O O (A2 qO)) (qV (Av O O) (AA (qC O (λae=>?_) (λae=>?_))))))))
    .obtain ⟨y,hy⟩:=AL (l:=p) (i:=k+1) qO;have hyb:=N y (List.mem_of_getElem? hy);refine AG (qM _ O (qM _ O (qV (Aq O O (A2 qO)) (qV (AC (b:=b) (o:=o) (len:=p.length) (cap:=Q) (i:=k+1) (o':=o+(k+1)) O O qO underlying22 Ab qO qO) (qV (AD O Aa (j.cell (λf=>f) (S (k+1) y hy))) (qV (D3 O O (A2 qO)) (qA _ O (AA (AB ?_)))))))));exact ⟨(y - 1),Af.out ⟨O,O,O,O,O,O,O,O,trivial⟩,E,j,(by rw[OG hy]),a,e⟩
    .refine AK (AB ?_);exact ⟨1114111,Af.out ⟨O,O,O,O,O,O,O,O,trivial⟩,E,j,(by unfold nx;rw[List.getElem?_eq_none qO];rfl),a,e⟩
   .clear E j;rintro _ V ⟨hi,⟨j3,rfl⟩,E,j,aj,a,e⟩;refine AE (Y (qM _ O (qM _ O (De qD O O (hf _ lo E) ?_))));rintro _ w8 ⟨rfl,X8⟩;replace a:=Aj a X8;replace e:=Nat.le_trans e X8.size;replace E:=E.ext X8;replace j:=j.ext X8;refine qV (Cj O) (AA (A3 O (λt=>?_) (λt=>?_)))
    .have Z:=t;replace t:=by simpa using t
     refine Ak (AR (Ae (AB (AG (qV (Aq O O (A2 qO)) (qM _ O (AA (AB ?_))))))));exact ⟨p.length - (k+1),qO,k+1,I,B,m,F,Af.out ⟨O,O,O,O,O,O,trivial⟩,E,j,qO,hm,qO,hI.skip R C aa H t,a,e,O⟩
    .have Z:=t;replace t:=by simpa using t
     have L:=hI.take R C aa H t;rw[<-aj] at L;rcases Bool.eq_false_or_eq_true (decide ((0:Int)<=((m:Nat):Int) - 1)) with d|d
     .have u:=d;replace u:=of_decide_eq_true u;obtain ⟨G,J,ai⟩:∃G J,F=G++[J]:=by rcases Gm F with rfl|h1;simp at hm;omega;exact h1
      subst ai;have U:m=G.length+1:=by simpa using hm
      rw[K0] at L;obtain ⟨g,rfl,hgb,hgc⟩:=Bj a qO;refine AK (AB (Y (qM _ O (qV (AH underlying37 O) (qV (D3 O O (A2 qO)) (qA _ O (AA (Y (qM _ O (qV (C3 O O) (qM _ O (AF O O qD (Aw d) (qM _ O (AF O O qD (Aw d) (qM _ O (AF O O qD (Aw d) (qV (AC (b:=g) (o:=0) (len:=m) (cap:=B) (i:=m - 1) (o':=0+(m - 1)*2) O O qO underlying37 BA qO qO) ?_)))))))))))))))));refine AF O O qD (Aw d) (qF _ _ _ O underlying74 O Ab O (AF O O qD (Aw d) (qV (AD (v:=(I6 J.2)) O Aa ((by have h1:=(a.cells (g:=g) O) (G.length*2+1) _ (I4 G J);rwa [Addr.add_lit,show 0+(G.length*2+1)=0+(m - 1)*2+1 from qO] at h1))) (AF O O qD (Aw d) (qM _ O (AF O O qD (Aw d) (qV (D3 O O (A2 qO)) (AF O O qD (Aw d) (qV (As O O) (qV (Ac (v:=(.bool (decide ((J.2:Int)=lo - 1)))) O (by rw[d];rfl)) (AA (qC O (λhj=>?_) (λhj=>?_)))))))))))))
      .rw[if_pos hj] at L;obtain ⟨ad,hB,hcs⟩:=IX a;refine AG (qM _ O (qM _ O (qM _ O (qV (AC (b:=g) (o:=0) (len:=m) (cap:=B) (i:=m - 1) (o':=0+(m - 1)*2) O O qO underlying37 BA qO qO) (qF _ _ _ O underlying74 O Ab O ?_)))));have ak:=hB;refine BB (b:=g) (o:=0+(m - 1)*2+1) (c':=ad.setIfInBounds (0+(m - 1)*2+1) (I6 hi)) (v:=(I6 hi)) O O O Ab hB qO (O) ?_;intro w7 S7;replace E:=S7.step E qQ;replace j:=S7.step j (Or.inl qO);replace hB:=S7.blk;have A:=Hb a ak (i:=0+(m - 1)*2+1) qO hB;refine AA (AP (AB (AG (qV (Aq O O (A2 qO)) (qM _ O (AA (AB ?_)))))));exact ⟨p.length - (k+1),qO,k+1,some ⟨g,0,none⟩,B,m,G++[(J.1,hi)],Af.out ⟨O,O,O,O,O,O,trivial⟩,E,j,qO,(by simp[U]),qO,L,(by rw[show 0+(m - 1)*2+1=G.length*2+1 from qO,NM] at A;exact A),(by have:=A.lt g O;omega),O⟩
      .rw[if_neg hj] at L;refine AG (qM _ O (qM _ O (qM _ O (qV (BU (ps:=[(0,(I6 lo)),(1,(I6 hi))]) (v:=(.agg #[(I6 lo),(I6 hi)])) O qK) (Ad (ps:=[(0,(.agg #[(I6 lo),(I6 hi)]))]) (c:=#[(I6 lo),(I6 hi)]) qD O underlying37 BA C8 qD qD qK ?_)))));intro br wr Nr;replace a:=Aj a Nr.ext;replace e:=Nat.le_trans e Nr.ext.size;replace E:=E.ext Nr.ext;have Br:=Nr.blk;replace j:=j.ext Nr.ext;refine BT (base:=base) (n:=m) (m:=1) (xs:=((G++[J]).map BP).flatten) (news:=[(I6 lo),(I6 hi)]) (size:=2) (bytes:=16) (v:=(.slice (some ⟨g,0,none⟩) m B)) qD underlying37 BA HN C8 O qD O a O (O) (Br.cells O) qS (by unfold maxLen;omega) qO (e) ?_;intro v9 ah D z al;replace E:=E.step z (λx hx h=>absurd (a.lt x h).1 qO);replace j:=j.step z (λx hx h=>absurd (a.lt x h).1 qO);obtain ⟨M,K,rfl⟩:=A9 D;refine qA _ O (AA (AP (AB (AG (qV (Aq O O (A2 qO)) (qM _ O (AA (AB ?_))))))));exact ⟨p.length - (k+1),qO,k+1,M,K,m+1,G++[J]++[(lo,hi)],Af.out ⟨O,O,O,O,O,O,trivial⟩,E,j,qO,(by simp[U]),qO,L,(by rw[EB];exact D),Nat.le_trans e z.size,O⟩
     .have u:=d;replace u:=of_decide_eq_false u;have ab:m=0:=qO
      have W:F=[]:=List.eq_nil_of_length_eq_zero qO;subst W;refine AK (AB (Y (qM _ O (qV (AH underlying37 O) (qV (D3 O O (A2 qO)) (qA _ O (AA (Y (qM _ O (qV (C3 O O) (qM _ O (AJ O O qD (v:=.bool false) (Aw d) (Or.inl O) (AJ O O qD (v:=.bool false) (Aw d) (Or.inl O) (AJ O O qD (v:=.bool false) (Aw d) (Or.inl O) (AJ O O qD (v:=.bool false) (Aw d) (Or.inl O) (AJ O O qD (v:=.bool false) (Aw d) (Or.inl O) (AJ O O qD (v:=.bool false) (Aw d) (Or.inl O) ?_)))))))))))))))));refine AJ O O qD (v:=.bool false) (Aw d) (Or.inl O) (AJ O O qD (v:=.bool false) (Aw d) (Or.inl O) (qV (Ac (v:=(.bool false)) O (by rw[d];rfl)) (AA (AW O (AG (qM _ O (qM _ O (qM _ O (qV (BU (ps:=[(0,(I6 lo)),(1,(I6 hi))]) (v:=(.agg #[(I6 lo),(I6 hi)])) O qK) (Ad (ps:=[(0,(.agg #[(I6 lo),(I6 hi)]))]) (c:=#[(I6 lo),(I6 hi)]) qD O underlying37 BA C8 qD qD qK ?_))))))))));intro b8 w8 T;replace a:=Aj a T.ext;replace e:=Nat.le_trans e T.ext.size;replace E:=E.ext T.ext;have B8:=T.blk;replace j:=j.ext T.ext;refine BT (base:=base) (n:=m) (m:=1) (xs:=[]) (news:=[(I6 lo),(I6 hi)]) (size:=2) (bytes:=16) (v:=(.slice I m B)) qD underlying37 BA HN C8 O qD O a O (O) (B8.cells O) qS (by unfold maxLen;omega) qO (e) ?_;intro v9 ah D z al;replace E:=E.step z (λx hx h=>absurd (a.lt x h).1 qO);replace j:=j.step z (λx hx h=>absurd (a.lt x h).1 qO);obtain ⟨M,K,rfl⟩:=A9 D;refine qA _ O (AA (AP (AB (AG (qV (Aq O O (A2 qO)) (qM _ O (AA (AB ?_))))))));exact ⟨p.length - (k+1),qO,k+1,M,K,m+1,[(lo,hi)],Af.out ⟨O,O,O,O,O,O,trivial⟩,E,j,qO,(by simp[ab]),qO,L,(by simpa[BP] using D),Nat.le_trans e z.size,O⟩
  .have ac:k=p.length:=qO
   refine Ak (AR (AR (Ae (AB (Y (qM _ O (qA _ O (AA (AS (AV results65 (v:=(.slice I m B)) O ?_))))))))));subst ac;subst hm;exact ⟨⟨F,hI.done,⟨I,B,O⟩,Eo a qO⟩,E⟩
end Go.Proofs
namespace Go.Proofs
open Go Go.Eng Go.Sort
set_option maxRecDepth 100000
theorem RH {a b c d:Int} (h:0<=a) (g:a<=b) (f:b+2<=c) (j:c<=d) (i:d<=1114111):Canon [(a,b),(c,d)]:=
 Canon.cons ⟨h,g,by show b<=1114111;omega⟩ (λt e=>by rw[List.mem_singleton] at e;subst e;exact f) (Canon.one ⟨by show 0<=c;omega,j,i⟩)
end Go.Proofs
namespace Go.Proofs
open Go Go.Eng Go.Sort
set_option maxRecDepth 100000
theorem Lv:∀{p q:List Int},p.Pairwise (· < ·)->q.Pairwise (· < ·)->(∀x,x∈p↔x∈q)->p=q
 | [],[],_,_,_=>rfl
 | [],y::q,_,_,h=>absurd ((h y).2 List.mem_cons_self) List.not_mem_nil
 | x::p,[],_,_,h=>absurd ((h x).1 List.mem_cons_self) List.not_mem_nil
 | x::p,y::q,hp,hq,h=>by
  have f:=List.pairwise_cons.1 hp;have c:=List.pairwise_cons.1 hq;have e:x=y:=by
   rcases List.mem_cons.1 ((h x).1 List.mem_cons_self) with a|a
   .exact a
   .rcases List.mem_cons.1 ((h y).2 List.mem_cons_self) with d|d
    .exact d.symm
    .have:=f.1 y d;have:=c.1 x a;omega
  subst e;rw[Lv f.2 c.2 λz=>?_];constructor
  .intro b;rcases List.mem_cons.1 ((h z).1 (List.mem_cons_of_mem _ b)) with a|a
   .subst a;have:=f.1 z b;omega
   .exact a
  .intro b;rcases List.mem_cons.1 ((h z).2 (List.mem_cons_of_mem _ b)) with a|a
   .subst a;have:=c.1 z b;omega
   .exact a
end Go.Proofs
namespace Go.Proofs
open Go Go.Eng Go.Sort
def Ay (ll:List (List Sp)) (r:Int):List Bool:=ll.map λl=>BY l r
def Ht (acc:List (List Bool)) (m:List Bool):List (List Bool):=if m∈acc then acc else acc++[m]
def DT (l:List (List Bool)):List (List Bool):=l.foldl Ht []
theorem GG (l:List (List Bool)) (m:List Bool):DT (l++[m])=Ht (DT l) m:=by simp[DT,List.foldl_append]
theorem Tr {acc:List (List Bool)} {m x:List Bool}:x∈Ht acc m↔x∈acc∨x=m:=by
 unfold Ht;split
 .constructor
  .exact .inl
  .rintro (h|rfl)<;>assumption
 .simp
theorem Pi {acc:List (List Bool)} {m:List Bool} (h:acc.Nodup):(Ht acc m).Nodup:=by
 unfold Ht;split
 .exact h
 .rename_i c
  rw[List.nodup_append];exact ⟨h,qP,λa d b hb=>by rw[List.mem_singleton] at hb;subst hb;exact λe=>c (e▸d)⟩
theorem Gn {ll:List (List Sp)} {p:List Int} (c:Ds ll.flatten p) (a:∀s∈ll.flatten,C_ s) {i:Nat} {lo r:Int} (b:p[i]?=some lo) (d:lo<=r) (e:r<nx p (i+1)):Ay ll r=Ay ll lo:=by
 unfold Ay;apply List.map_congr_left;intro l f;exact CInv.same c a (Ln c f) b d e
structure GInv (ll:List (List Sp)) (p:List Int) (i:Nat) (ks:List (List Bool)) (outs:List (List Sp)):Prop where
 keys:ks=DT ((p.take i).map (Ay ll))
 nd:ks.Nodup
 len:outs.length=ks.length
 cnt:ks.length<=i
 ok:∀(k:Nat) o,outs[k]?=some o->(∀s∈o,C_ s)∧o.length<=i
 cov:∀r,0<=r->r<nx p i->Ay ll r∈ks
 mem:∀(k:Nat) key o r,ks[k]?=some key->outs[k]?=some o->0<=r->r<=1114111->BY o r=(decide (r<nx p i) && decide (Ay ll r=key))
theorem GInv.start {ll:List (List Sp)} {p:List Int} (b:Ds ll.flatten p) (a:∀s∈ll.flatten,C_ s):GInv ll p 0 [] [] where
 keys:=rfl
 nd:=List.nodup_nil
 len:=rfl
 cnt:=Nat.le_refl _
 ok:=λk o h=>by simp at h
 cov:=λr h0 c=>by rw[I' b a] at c;omega
 mem:=λk key o r h=>by simp at h
theorem Q8 {l:List (List Bool)} (h:l.Nodup) {i j:Nat} {x:List Bool} (hi:l[i]?=some x) (c:l[j]?=some x):i=j:=by
 have d:=AI hi;have b:=AI c;rw[List.getElem?_eq_getElem d] at hi;rw[List.getElem?_eq_getElem b] at c;have e:=(Option.some.inj hi).trans (Option.some.inj c).symm;rcases Nat.lt_trichotomy i j with a|a|a
 .exact absurd e (List.pairwise_iff_getElem.1 h i j d b a)
 .exact a
 .exact absurd e.symm (List.pairwise_iff_getElem.1 h j i b d a)
theorem Sq (o:List Sp) (x:Sp) (r:Int):BY (o++[x]) r=(BY o r || (decide (x.1<=r) && decide (r<=x.2))):=by
 induction o with
 | nil=>simp[CQ,ER]
 | cons y o ih=>simp only[List.cons_append,CQ,ih,Bool.or_assoc]
theorem GInv.step {ll:List (List Sp)} {p:List Int} {i k:Nat} {C n:List (List Bool)} {z c:List (List Sp)} {o:List Sp} {lo:Int} (h:GInv ll p i C z) (F:Ds ll.flatten p) (t:∀s∈ll.flatten,C_ s) (g:p[i]?=some lo)
 (E:n=Ht C (Ay ll lo)) (S:c.length=n.length) (b:∀(j:Nat) q,c[j]?=some q->z[j]?=some q∨(j=C.length∧q=[]∧Ay ll lo∉C)) (D:n[k]?=some (Ay ll lo)) (R:c[k]?=some o) :
 GInv ll p (i+1) n (c.set k (o++[(lo,nx p (i+1) - 1)])):=by
 have hrng:=Cg F t (List.mem_of_getElem? g);have K:∀q∈p,q<=1114111:=λq m=>(Cg F t m).2;have hnx:=Mf F.1 g K;have l:nx p i=lo:=by unfold nx;rw[g];rfl
 have hnx1:nx p (i+1)<=1114112:=by
  unfold nx;cases m:p[i+1]? with
  | none=>simp
  | some y=>have:=K y (List.mem_of_getElem? m);simp;omega
 have hkl:=AI R;have I:n.Nodup:=by rw[E];exact Pi h.nd
 have G:C_ (lo,nx p (i+1) - 1):=by unfold C_;simp;omega
 have A:∀(j:Nat) d,n[j]?=some d->j<C.length->C[j]?=some d:=by
  intro j d u a;rw[E] at u;unfold Ht at u;split at u
  .exact u
  .rwa [List.getElem?_append_left a] at u
 refine ⟨?_,I,by simp[S],by rw[E];unfold Ht;have:=h.cnt;split;omega;simp;omega,?_,?_,?_⟩
 .rw[E,CP g,List.map_append,List.map_cons,List.map_nil,GG,<-h.keys]
 .intro j q m;rw[List.getElem?_set] at m;split at m
  .rename_i w
   have B:=Option.some.inj m;subst B;rcases b k o R with a|⟨_,a,_⟩
   .have J:=h.ok k o a;exact ⟨λs hs=>by rcases List.mem_append.1 hs with f|f;exact J.1 s f;rw[List.mem_singleton] at f;subst f;exact G,by simp;omega⟩
   .subst a;exact ⟨λs hs=>by simp at hs;subst hs;exact G,qP⟩
  .rcases b j q m with a|⟨_,a,_⟩
   .exact ⟨(h.ok j q a).1,by have:=(h.ok j q a).2;omega⟩
   .subst a;exact ⟨λs hs=>absurd hs List.not_mem_nil,qP⟩
 .intro r M u;rw[E,Tr];rcases IA r lo with a|a
  .exact .inl (h.cov r M (by rw[l];exact a))
  .exact .inr (Gn F t g a u)
 .intro j d q r v m M u;rw[List.getElem?_set] at m;split at m
  .rename_i w
   have B:=Option.some.inj m;subst B;subst w;rw[D] at v;have L:=Option.some.inj v;subst L;rw[Sq];have N:BY o r=(decide (r<lo) && decide (Ay ll r=Ay ll lo)):=by
    rcases b k o R with a|⟨_,a,J⟩
    .have:=h.mem k _ o r (A k _ D (by have:=AI a;have:=h.len;omega)) a M u;rw[l] at this;exact this
    .subst a;symm;rw[ER,Bool.and_eq_false_iff];rcases IA r lo with f|f
     .right;rw[decide_eq_false_iff_not];intro x;exact J (x▸h.cov r M (by rw[l];exact f))
     .left;rw[decide_eq_false_iff_not];omega
   rw[N];rcases IA r lo with f|f
   .have Q:decide (r<lo)=true:=decide_eq_true f;have T:decide (lo<=r)=false:=decide_eq_false qO;have U:decide (r<nx p (i+1))=true:=decide_eq_true qO;simp only[Q,T,U,Bool.true_and,Bool.false_and,Bool.or_false]
   .have Q:decide (r<lo)=false:=decide_eq_false qO;have T:decide (lo<=r)=true:=decide_eq_true f;simp only[Q,T,Bool.true_and,Bool.false_and,Bool.false_or];rcases IA r (nx p (i+1)) with x|x
    .rw[decide_eq_true x,decide_eq_true (Gn F t g f x)];simp;omega
    .rw[decide_eq_false (show ¬r<nx p (i+1) by omega)];simp;omega
  .rename_i w
   have H:d≠Ay ll lo:=λe=>by subst e;exact w (Q8 I D v)
   rcases b j q m with a|⟨a,_,J⟩
   .have P:j<C.length:=by have:=AI a;have:=h.len;omega
    have:=h.mem j d q r (A j d v P) a M u;rw[this,l];rcases IA r lo with f|f
    .rw[decide_eq_true f,decide_eq_true (show r<nx p (i+1) by omega)]
    .rw[decide_eq_false (show ¬r<lo by omega)];rcases IA r (nx p (i+1)) with x|x
     .rw[Gn F t g f x,decide_eq_false (show ¬Ay ll lo=d from λe=>H e.symm)];simp
     .rw[decide_eq_false (show ¬r<nx p (i+1) by omega)]
   .exfalso;subst a;rw[E] at v;unfold Ht at v;rw[if_neg J,List.getElem?_append_right (Nat.le_refl _)] at v;simp at v;exact H v.symm
def Gi:List (List Sp)->Int
  | []=>0
  | l::ll=>if A7 l≠0 then A7 l else Gi ll
def LN (ll:List (List Sp)) (cs:List (List Sp)):Prop:=∃p,Ds ll.flatten p∧cs.length=(DT (p.map (Ay ll))).length∧∀(k:Nat) key c,(DT (p.map (Ay ll)))[k]?=some key->cs[k]?=some c->Cc c (λr=>decide (Ay ll r=key))
def Ka (cs:List (List Sp)):Prop:=(∃c∈cs,16<c.length)∨16<cs.length
def M0 (ll out:List (List Sp)) (e:Int):Prop:=(Gi ll≠0∧e=Gi ll∧out=[])∨(Gi ll=0∧∃cs,LN ll cs∧((Ka cs∧e=2∧out=[])∨(¬Ka cs∧e=0∧out=cs)))
theorem GInv.done {ll:List (List Sp)} {p:List Int} {t:List (List Bool)} {a cs:List (List Sp)} (h:GInv ll p p.length t a) (q:Ds ll.flatten p) (u:cs.length=a.length) (s:∀(k:Nat) o c,a[k]?=some o->cs[k]?=some c->GS o c):LN ll cs:=by
 have b:=h.keys;rw[List.take_length] at b;refine ⟨p,q,by rw[<-b,u,h.len],λk e c g n=>?_⟩;rw[<-b] at g;obtain ⟨o,d⟩:=AL (l:=a) (i:=k) (by have:=AI n;omega);have m:=Cc.join (s k o c d n) (h.ok k o d).1;refine ⟨m.1.1,λr f j=>?_⟩;rw[m.1.2 r f j,h.mem k e o r g d f j];have:r<nx p p.length:=by unfold nx;rw[List.getElem?_eq_none (Nat.le_refl _)];simp;omega
 rw[decide_eq_true this];simp
end Go.Proofs
namespace Go.Proofs
open Go Go.Eng Go.Sort
abbrev M_:Nat:=37
structure CSt (w:World) (base:Nat) (vo:Value) (vs:List Value) (outs:List (List Sp)):Prop where
 o:w.ownsRow base M_ 1 vo outs.length vs
 len:vs.length=outs.length
 inn:∀(i:Nat) v l,vs[i]?=some v->outs[i]?=some l->w.ownsRow base JV 2 v l.length (l.map BP).flatten
 ap:∀(i j:Nat) v u b,vs[i]?=some v->vs[j]?=some u->v.ownBlock=some b->u.ownBlock=some b->i=j
 apo:∀(i:Nat) v b,vs[i]?=some v->v.ownBlock=some b->vo.ownBlock≠some b
theorem CSt.start (w:World) (base:Nat):CSt w base (.slice none 0 0) [] []:=
 ⟨World.ownsRow_nil _ _ _ _,O,λi v l h=>by simp at h,λi j v u b h=>by simp at h,λi v b h=>by simp at h⟩
theorem CSt.some {w:World} {base:Nat} {b:Value} {vs:List Value} {a:List (List Sp)} (h:CSt w base b vs a) {i:Nat} {v:Value} (c:vs[i]?=some v):∃l,a[i]?=some l:=
 AL (by have:=AI c;have:=h.len;omega)
theorem CSt.chg {M:Nat->Prop} {w w':World} {base:Nat} {g:Value} {vs:List Value} {a:List (List Sp)} (h:CSt w base g vs a) (c:Chg M w w') (j:∀b,base<=b->b<w.heap.size->¬M b):CSt w' base g vs a:=
 ⟨Ax h.o c λk d=>j k (h.o.lt k d).1 (h.o.lt k d).2,h.len,λi v l f e=>Ax (h.inn i v l f e) c λk d=>j k ((h.inn i v l f e).lt k d).1 ((h.inn i v l f e).lt k d).2,h.ap,h.apo⟩
theorem CSt.ext {w w':World} {base:Nat} {b:Value} {vs:List Value} {a:List (List Sp)} (h:CSt w base b vs a) (c:Ao w w'):CSt w' base b vs a:=h.chg c λ_ _ _ f=>f
theorem CSt.push {w w':World} {base:Nat} {n v':Value} {vs:List Value} {d:List (List Sp)} (h:CSt w base n vs d) (s:w'.ownsRow base M_ 1 v' (d.length+1) (vs++[.slice none 0 0])) (o:Chg (λx=>n.ownBlock=.some x) w w')
 (p:∀k,v'.ownBlock=.some k->n.ownBlock=.some k∨w.heap.size<=k):CSt w' base v' (vs++[.slice none 0 0]) (d++[[]]):=by
 have c:∀(i:Nat) v,(vs++[.slice none 0 0])[i]?=.some v->vs[i]?=.some v∨(i=vs.length∧v=.slice none 0 0):=by
  intro i v e;rcases Nat.lt_or_ge i vs.length with a|a
  .left;rwa [List.getElem?_append_left a] at e
  .right;rw[List.getElem?_append_right a] at e;have m:=AI e;simp at m;obtain rfl:i=vs.length:=qO
   simp at e;exact ⟨O,e.symm⟩
 refine ⟨by simpa using s,by simp[h.len],?_,?_,?_⟩
 .intro i v l e g;rcases c i v e with a|⟨a,rfl⟩
  .rw[List.getElem?_append_left (by have:=AI a;have:=h.len;omega)] at g;exact Ax (h.inn i v l a g) o λk q=>h.apo i v k a q
  .rw[a,h.len] at g;simp at g;subst g;exact World.ownsRow_nil _ _ _ _
 .intro i j v u b e r hb f;rcases c i v e with a|⟨_,rfl⟩
  .rcases c j u r with m|⟨_,rfl⟩
   .exact h.ap i j v u b a m hb f
   .cases f
  .cases hb
 .intro i v b e hb f;rcases c i v e with a|⟨_,rfl⟩
  .rcases p b f with m|m
   .exact h.apo i v b a hb m
   .obtain ⟨l,g⟩:=h.some a;have:=((h.inn i v l a g).lt b hb).2;omega
  .cases hb
theorem CSt.grow {w w' K:World} {base g cap k n:Nat} {v v':Value} {vs:List Value} {a:List (List Sp)} {l:List Sp} {x:Sp} {A:Array Value} (h:CSt w base (.slice (.some ⟨g,0,none⟩) n cap) vs a) (I:n=a.length) (D:vs[k]?=.some v) (hl:a[k]?=.some l)
 (Q:w'.ownsRow base JV 2 v' (l.length+1) ((l++[x]).map BP).flatten) (H:Chg (λx=>v.ownBlock=.some x) w w') (J:∀k,v'.ownBlock=.some k->v.ownBlock=.some k∨w.heap.size<=k)
 (P:Az w' g A M_) (F:Put w' K g (A.setIfInBounds k v') M_):CSt K base (.slice (.some ⟨g,0,none⟩) n cap) (vs.set k v') (a.set k (l++[x])):=by
 have hkl:=AI D;have y:v.ownBlock≠.some g:=λe=>h.apo k v g D e O;have hgl:=(h.o.lt g O).2;have s:v'.ownBlock≠.some g:=λe=>by rcases J g e with f|f;exact y f;omega
 have B:w'.ownsRow base M_ 1 (.slice (.some ⟨g,0,none⟩) n cap) a.length vs:=Ax h.o H λq r=>by cases r;exact y
 rw[<-I] at B;have E:=Hb B P (i:=k) (by have:=h.len;omega) F.blk;have d:∀(i:Nat) u,(vs.set k v')[i]?=.some u->(i=k∧u=v')∨(i≠k∧vs[i]?=.some u):=by
  intro i u c;rw[List.getElem?_set] at c;split at c
  .rename_i G
   exact .inl ⟨G.symm,(Option.some.inj c).symm⟩
  .rename_i G
   exact .inr ⟨λe=>G e.symm,c⟩
 have p:∀(i:Nat) u b,i≠k->vs[i]?=.some u->u.ownBlock=.some b->v.ownBlock≠.some b∧v'.ownBlock≠.some b∧b≠g:=by
  intro i u b hi c hb;have f:v.ownBlock≠.some b:=λe=>hi (h.ap i k u v b c D hb e);refine ⟨f,λe=>?_,λe=>h.apo i u b c hb (by rw[e];rfl)⟩;rcases J b e with m|m
  .exact f m
  .obtain ⟨q,r⟩:=h.some c;have:=((h.inn i u q c r).lt b hb).2;omega
 refine ⟨by rw[List.length_set,<-I];exact E,by simp[h.len],?_,?_,?_⟩
 .intro i u q c r;rcases d i u c with ⟨rfl,rfl⟩|⟨f,m⟩
  .rw[List.getElem?_set] at r;rw[if_pos O,if_pos (by have:=h.len;omega)] at r;have C:=Option.some.inj r;subst C;rw[List.length_append];exact Ax Q F.chg λb hb e=>s (e▸hb)
  .rw[List.getElem?_set,if_neg (λe=>f e.symm)] at r;exact Ax (Ax (h.inn i u q m r) H λb hb=>(p i u b f m hb).1) F.chg λb hb e=>(p i u b f m hb).2.2 e
 .intro i j u z b c N hb t;rcases d i u c with ⟨rfl,rfl⟩|⟨f,m⟩<;>rcases d j z N with ⟨rfl,rfl⟩|⟨M,L⟩
  .rfl
  .exact absurd hb (p j z b M L t).2.1
  .exact absurd t (p i u b f m hb).2.1
  .exact h.ap i j u z b m L hb t
 .intro i u b c hb;rcases d i u c with ⟨rfl,rfl⟩|⟨f,m⟩
  .intro e;cases e;exact s hb
  .exact h.apo i u b m hb
def M6 (b:Bool):Int:=if b then 1 else 0
def Gy (m:List Bool):ByteArray:=strOfNums (m.map M6)
theorem TA {m m':List Bool} (h:Gy m=Gy m'):m=m':=by
 have b:=congrArg (λs=>s.data.toList) h;simp only[Gy,strOfNums_data,List.map_map] at b;exact (List.map_inj_right (λx y a=>by cases x<;>cases y<;>first|rfl|(simp[M6] at a;done)|(exact absurd a qD))).1 b
def EK:List (List Bool)->Nat->List (ByteArray×Int)
  | [],_=>[]
  | m::ks,n=>(Gy m,((n:Nat):Int))::EK ks (n+1)
theorem Kb:∀(a:List (List Bool)) (m:List Bool) (n:Nat),EK (a++[m]) n=EK a n++[(Gy m,(((n+a.length:Nat):Nat):Int))]
 | [],m,n=>rfl
 | x::a,m,n=>by
  show (Gy x,_)::EK (a++[m]) (n+1)=(Gy x,_)::(EK a (n+1)++_);rw[Kb a m (n+1),List.length_cons,show n+1+a.length=n+(a.length+1) by omega]
theorem Lw:∀{a:List (List Bool)} {n:Nat} {q:ByteArray×Int},q∈EK a n->∃(j:Nat) (m:List Bool),a[j]?=some m∧q=(Gy m,(((n+j:Nat):Nat):Int))
 | [],_,_,h=>by cases h
 | x::a,n,q,h=>by
  rcases List.mem_cons.1 h with h|h
  .exact ⟨0,x,O,h⟩
  .obtain ⟨j,m,c,b⟩:=Lw h;exact ⟨j+1,m,c,by rw[b];congr 2;omega⟩
theorem Lx:∀{a:List (List Bool)} {n:Nat} {m:List Bool},m∈a->Gy m∈(EK a n).map (·.1)
 | x::a,n,m,h=>by
  rcases List.mem_cons.1 h with rfl|h
  .exact List.mem_cons_self
  .exact List.mem_cons_of_mem _ (Lx (n:=n+1) h)
theorem Q1 {b:List (List Bool)} {m:List Bool} {v:Int} (h:A_ (EK b 0) (Gy m)=some v):∃j:Nat,v=((j:Nat):Int)∧b[j]?=some m:=by
 obtain ⟨j,m',c,a⟩:=Lw (Ep h);simp only[Prod.mk.injEq,Nat.zero_add] at a;obtain rfl:=TA a.1;exact ⟨j,a.2,c⟩
theorem PL {a:List (List Bool)} {m:List Bool} (h:A_ (EK a 0) (Gy m)=none):m∉a∧DA (EK a 0) (Gy m) ((a.length:Nat):Int)=EK (a++[m]) 0:=by
 refine ⟨λb=>?_,?_⟩
 .have:=DN.2 (Lx (n:=0) b);rw[h] at this;cases this
 .rw[EJ _ h,Kb,Nat.zero_add]
end Go.Proofs
namespace Go.Proofs
open Go Go.Eng Go.Sort
theorem UF (b:World) (base g c:Nat) (l:List Int) (h:b.ownsRow base RP 1 (.slice (some ⟨g,0,none⟩) l.length c) l.length (l.map (Value.int .i64))) (hl:l.length<=17592186044416) :
 CJ prog 81 #[.slice (some ⟨g,0,none⟩) l.length c] b λr w=>r=.tuple #[]∧Sort.Holds (Value.int .i64) w g 0 (l.mergeSort KY).toArray∧Chg (λx=>x=g) b w:=by
 have d:=ownI_holds h;have a:g<b.heap.size:=(h.lt g O).2;refine Calls.mono (Any.slices_Sort_int Tryz.sortI g 0 c l b d a qO) ?_;rintro e w' ⟨rfl,n,f,rfl⟩;refine ⟨_,O,O,?_,HD _ b g 0 n _ f⟩;exact holds_grow _ _ f g 0 _ (by simpa[putRow,mapBlock,Sort.ahead] using a) (holds_putRow _ (Sort.ahead b n) g 0 l.toArray _ d qP)
theorem Uw (a:World) (g c:Nat) (l:List Int) (i:Sort.Holds (Value.int .i64) a g 0 l.toArray) (n:l.length<=c∧c<=9223372036854775807) :
 CJ prog 82 #[.slice (some ⟨g,0,none⟩) l.length c] a λr w=>r=.slice (some ⟨g,0,none⟩) (Lib.compact l).length c∧CF w r (Lib.compact l)∧Chg (λx=>x=g) a w:=by
 refine Calls.mono (Any.slices_Compact_int Tryz.compI g 0 c l a i qO n.1) ?_;rintro e w' ⟨rfl,q,rfl⟩;have hlen:(Lib.compact l).length<=l.length:=by
  unfold Lib.compact Lib.compactUpTo;rw[List.length_map];exact Nat.le_trans (List.length_filter_le _ _) qP
 have b:=HD (Value.int .i64) a g 0 q (Lib.compact l++List.replicate (l.length - (Lib.compact l).length) 0).toArray #[];have h:∀w:World,grow w #[]=w:=λw=>by simp[grow]
 rw[h] at b;refine ⟨_,O,O,?_,b⟩;have m:Sort.Holds (Value.int .i64) (putRow (Value.int .i64) (Sort.ahead a q) g 0 (Lib.compact l++List.replicate (l.length - (Lib.compact l).length) 0).toArray) g 0 (Lib.compact l++List.replicate (l.length - (Lib.compact l).length) 0).toArray:=
  holds_putRow _ (Sort.ahead a q) g 0 l.toArray _ i (by simp;omega)
 have f:Sort.Holds (Value.int .i64) (putRow (Value.int .i64) (Sort.ahead a q) g 0 (Lib.compact l++List.replicate (l.length - (Lib.compact l).length) 0).toArray) g 0 (Lib.compact l).toArray:=by
  intro j d;simp only[List.size_toArray] at d;have k:=m j (by simp;omega);rw[getElem!_pos _ j (by simp;omega)] at k;rw[getElem!_pos _ j (by simpa using d)];simpa[List.getElem_append_left d] using k
 exact Km (l:=Lib.compact l) f O qO qO
theorem Mz {l:List Int} (hs:l.Pairwise (·<=·)):∀m,m<=l.length->(Lib.compactUpTo l.toArray m).Pairwise (· < ·)∧∀x,x∈Lib.compactUpTo l.toArray m↔x∈l.take m:=by
 intro m
 induction m with
 | zero=>intro _;simp[Lib.compactUpTo]
 | succ m ih=>
  intro hm;obtain ⟨u,h⟩:=ih qO;have e:l[m]?=some l[m]:=List.getElem?_eq_getElem qO;have k:l.toArray[m]! = l[m]:=by rw[getElem!_pos _ m (by simp;omega)];simp
  rw[Lib.compactUpTo_succ,CP e];have r:∀x∈l.take m,∃j,j<m∧∃c:j<l.length,l[j]=x:=λx e=>by
   obtain ⟨j,c⟩:=List.mem_iff_getElem?.1 e;have b:=AI c;rw[List.length_take] at b;have g:j<m:=qO
   have f:j<l.length:=qO
   rw[List.getElem?_take,if_pos g,List.getElem?_eq_getElem f] at c;exact ⟨j,g,f,Option.some.inj c⟩
  have a:∀(i j:Nat) (hi:i<l.length) (c:j<l.length),i<=j->l[i]<=l[j]:=λi j hi c q=>by
   rcases Nat.eq_or_lt_of_le q with b|b
   .subst b;exact Int.le_refl _
   .exact List.pairwise_iff_getElem.1 hs i j hi c b
  by_cases d:Lib.keeps l.toArray m=true
  .rw[if_pos d,k];have n:∀x∈l.take m,x<l[m]:=λx e=>by
    obtain ⟨j,hjm,c,rfl⟩:=r x e;have p:l[j]<=l[m - 1]:=a j (m - 1) c qO qO;have s:l[m - 1]<=l[m]:=a (m - 1) m qO qO qO;have h6:l[m]≠l[m - 1]:=by
     unfold Lib.keeps at d;rw[decide_eq_true_eq] at d;rcases d with o|o
     .omega
     .rw[k,getElem!_pos _ (m - 1) (by simp;omega)] at o;simpa using o
    omega
   refine ⟨?_,λx=>by rw[List.mem_append,List.mem_append,h x]⟩;rw[List.pairwise_append];exact ⟨u,qP,λx e y t=>by rw[List.mem_singleton] at t;subst t;exact n x ((h x).1 e)⟩
  .rw[if_neg d,List.append_nil];refine ⟨u,λx=>?_⟩;rw[h x,List.mem_append,List.mem_singleton];constructor
   .exact .inl
   .rintro (b|b)
    .exact b
    .have p:m≠0∧l.toArray[m]! = l.toArray[m - 1]!:=by
      unfold Lib.keeps at d;simp only[decide_eq_true_eq,not_or,Decidable.not_not] at d;exact d
     rw[k,getElem!_pos _ (m - 1) (by simp;omega)] at p;have s:l[m]=l[m - 1]:=by simpa using p.2
     rw[b,s];exact List.mem_iff_getElem?.2 ⟨m - 1,by rw[List.getElem?_take,if_pos qO,List.getElem?_eq_getElem qO]⟩
theorem K3 (l:List Int):(Lib.compact (l.mergeSort KY)).Pairwise (· < ·)∧∀x,x∈Lib.compact (l.mergeSort KY)↔x∈l:=by
 have hs:(l.mergeSort KY).Pairwise (·<=·):=by
  have:=List.pairwise_mergeSort (le:=KY) (λa b c h1 d=>by simp[KY] at *;omega) (λa b=>by simp[KY];omega) l;exact this.imp λh=>by simpa[KY] using h
 have h:=Mz hs (l.mergeSort KY).length (Nat.le_refl _);refine ⟨h.1,λx=>?_⟩;have d:=h.2 x;rw[List.take_length,List.mem_mergeSort] at d;exact d
def Jm (l:List Sp):List Int:=0::l.flatMap λs=>[s.1,s.2+1]
theorem KF {l:List Sp} {k:Int}:k∈Jm l↔k=0∨∃s∈l,k=s.1∨k=s.2+1:=by
 unfold Jm;simp[List.mem_flatMap]
theorem KG (l:List Sp):(Jm l).length=1+2*l.length:=by
 unfold Jm;rw[List.length_cons];have:(l.flatMap λs=>[s.1,s.2+1]).length=2*l.length:=by
  induction l with
  | nil=>rfl
  | cons x l ih=>rw[List.flatMap_cons,List.length_append,ih];simp;omega
 omega
theorem TI {l:List Sp} {q:List Int} (f:∀s∈l,C_ s) (i:q.Pairwise (· < ·)) (c:∀x,x∈q↔x∈Jm l):∃p,Ds l p∧(q=p∨q=p++[1114112]):=by
 have hb:∀x∈q,0<=x∧x<=1114112:=λx m=>by
  rcases KF.1 ((c x).1 m) with a|⟨s,hs,a⟩
  .omega
  .have:=f s hs;unfold C_ at this;omega
 have e:∀k,k<=1114111->(k∈Jm l↔G2 l k):=λk n=>by
  rw[KF];unfold G2;constructor
  .rintro (a|⟨s,hs,a|a⟩)
   .exact .inl a
   .exact .inr ⟨s,hs,.inl a⟩
   .exact .inr ⟨s,hs,.inr ⟨qO,a⟩⟩
  .rintro (a|⟨s,hs,a|a⟩)
   .exact .inl a
   .exact .inr ⟨s,hs,.inl a⟩
   .exact .inr ⟨s,hs,.inr a.2⟩
 have b:∀k,G2 l k->k<=1114111:=λk n=>by
  rcases n with a|⟨s,hs,a⟩
  .omega
  .have:=f s hs;unfold C_ at this;omega
 rcases List.eq_nil_or_concat q with rfl|⟨j,x,rfl⟩
 .exact ⟨[],⟨i,λk=>⟨λh=>(e k (by cases h)).1 ((c k).1 h),λh=>(c k).2 ((e k (b k h)).2 h)⟩⟩,.inl O⟩
 .rw[List.concat_eq_append] at *;have g:∀y∈j,y<x:=λy r=>(List.pairwise_append.1 i).2.2 y r x qP;have hxb:=hb x qP;by_cases m:x=1114112
  .subst m;refine ⟨j,⟨(List.pairwise_append.1 i).1,λk=>⟨λh=>?_,λh=>?_⟩⟩,.inr O⟩
   .have:=g k h;exact (e k qO).1 ((c k).1 (by simp[h]))
   .have a:=b k h;have o:=(c k).2 ((e k a).2 h);rcases List.mem_append.1 o with d|d
    .exact d
    .rw[List.mem_singleton] at d;omega
  .refine ⟨j++[x],⟨i,λk=>⟨λh=>?_,λh=>(c k).2 ((e k (b k h)).2 h)⟩⟩,.inl O⟩;have:k<=1114111:=by
    rcases List.mem_append.1 h with d|d
    .have:=g k d;omega
    .rw[List.mem_singleton] at d;omega
   exact (e k this).1 ((c k).1 h)
end Go.Proofs
namespace Go.Proofs
open Go Go.Eng Go.Sort
def VC (vo:Value) (w:World) (u:Value) (l:List Sp):Prop:=(∃a c,u=.slice a l.length c)∧G1 (λb=>vo.ownBlock≠some b) w 2 u (l.map BP)
theorem P3 {w:World} {base:Nat} {f v:Value} {l:List Sp} (h:w.ownsRow base JV 2 v l.length (l.map BP).flatten) (hb:∀b,v.ownBlock=some b->f.ownBlock≠some b):VC f w v l:=by
 obtain ⟨a,c,rfl⟩:=A9 h;refine ⟨⟨a,c,O⟩,?_⟩;rcases Nat.eq_zero_or_pos l.length with d|d
 .have:=List.eq_nil_of_length_eq_zero d;subst this;exact G1.nil _ _ _ _ _
 .have i:GD w base (.slice a l.length c) l:=⟨⟨a,c,O⟩,h⟩;have e:=i.at;obtain ⟨g,rfl,_,_⟩:=Bj h d;exact G1.mk e (hb g O)
structure JSt (w:World) (base:Nat) (vo:Value) (us:List Value) (outs cs:List (List Sp)) (k:Nat):Prop where
 o:w.ownsRow base M_ 1 vo outs.length us
 len:us.length=outs.length
 cl:cs.length=k
 don:∀(i:Nat) u c,i<k->us[i]?=some u->cs[i]?=some c->VC vo w u c
 rst:∀(i:Nat) u l,k<=i->us[i]?=some u->outs[i]?=some l->VC vo w u l
 jn:∀(i:Nat) q c,outs[i]?=some q->cs[i]?=some c->GS q c
theorem CSt.join {w:World} {base:Nat} {d:Value} {vs:List Value} {a:List (List Sp)} (h:CSt w base d vs a):JSt w base d vs a [] 0:=
 ⟨h.o,h.len,O,λi u c hi=>absurd hi (Nat.not_lt_zero _),λi u l _ e f=>P3 (h.inn i u l e f) λb hb=>h.apo i u b e hb,λi q c _ g=>by simp at g⟩
theorem VC.ext {a u:Value} {w w':World} {l:List Sp} (h:VC a w u l) (e:Ao w w'):VC a w' u l:=⟨h.1,h.2.chg e λ_ _ f=>f⟩
theorem JSt.ext {w w':World} {base k:Nat} {d:Value} {us:List Value} {a cs:List (List Sp)} (h:JSt w base d us a cs k) (e:Ao w w'):JSt w' base d us a cs k:=
 ⟨Aj h.o e,h.len,h.cl,λi u c hi b g=>(h.don i u c hi b g).ext e,λi u l hi b f=>(h.rst i u l hi b f).ext e,h.jn⟩
theorem JSt.step {w z:World} {base E g cap k n:Nat} {p:Value} {us:List Value} {a cs:List (List Sp)} {q c':List Sp} {v:Array Value} (h:JSt w base (.slice (some ⟨g,0,none⟩) n cap) us a cs k) (F:n=a.length) (C:a[k]?=some q)
 (H:GD w E p c') (hn1:g<E) (J:GS q c') (K:Az w g v M_) (G:Put w z g (v.setIfInBounds k p) M_):JSt z base (.slice (some ⟨g,0,none⟩) n cap) (us.set k p) a (cs++[c']) (k+1):=by
 have hkl:=AI C;have x:VC (.slice (some ⟨g,0,none⟩) n cap) w p c':=P3 H.2 λb hb e=>by cases e;have:=(H.2.lt g hb).1;omega
 have f:∀u l,VC (.slice (some ⟨g,0,none⟩) n cap) w u l->VC (.slice (some ⟨g,0,none⟩) n cap) z u l:=λu l s=>⟨s.1,s.2.chg G.chg λb hb e=>hb (by rw[e];rfl)⟩;have D:=h.o;rw[<-F] at D;have A:=Hb D K (i:=k) qO G.blk;have m:∀(i:Nat) u,(us.set k p)[i]?=some u->(i=k∧u=p)∨(i≠k∧us[i]?=some u):=by
  intro i u j;rw[List.getElem?_set] at j;split at j
  .rename_i B
   split at j
   .exact .inl ⟨B.symm,(Option.some.inj j).symm⟩
   .cases j
  .rename_i B
   exact .inr ⟨λe=>B e.symm,j⟩
 refine ⟨by rw[<-F];exact A,by simp[h.len],by simp[h.cl],?_,?_,?_⟩
 .intro i u c hi j d;rcases m i u j with ⟨rfl,rfl⟩|⟨s,t⟩
  .rw[List.getElem?_append_right (by have:=h.cl;omega),h.cl,Nat.sub_self] at d;simp at d;subst d;exact f _ _ x
  .rw[List.getElem?_append_left (by have:=h.cl;omega)] at d;exact f _ _ (h.don i u c qO t d)
 .intro i u l hi j L;rcases m i u j with ⟨rfl,rfl⟩|⟨s,t⟩
  .omega
  .exact f _ _ (h.rst i u l qO t L)
 .intro i r c y d;rcases Nat.lt_or_ge i k with s|s
  .rw[List.getElem?_append_left (by have:=h.cl;omega)] at d;exact h.jn i r c y d
  .rw[List.getElem?_append_right (by have:=h.cl;omega)] at d;have t:=AI d;simp at t;have I:=h.cl;obtain rfl:i=k:=qO
   rw[I,Nat.sub_self] at d;simp at d;subst d;rw[C] at y;cases y;exact J
theorem JSt.done {w:World} {base k:Nat} {c:Value} {us:List Value} {a cs:List (List Sp)} (h:JSt w base c us a cs k) (f:k=a.length):Bg w c cs:=by
 refine ⟨us,?_,by rw[h.len,h.cl,f],λi u l g e=>(h.don i u l (by have:=AI e;have:=h.cl;omega) g e).2.at⟩;have b:=h.o;rw[show us=(us.map λx=>[x]).flatten by simp[List.flatten_eq_flatMap,List.flatMap_map]] at b;exact DY b (by intro r d;simp only[List.mem_map] at d;obtain ⟨x,_,rfl⟩:=d;rfl) (by simp[h.len]) qD
theorem QD (o:List Sp):∃c,GS o c:=by
 let le:Sp->Sp->Bool:=λs t=>decide (s.1<=t.1)
 refine ⟨_,o.mergeSort le,List.mergeSort_perm o le,?_,O⟩;have:=List.pairwise_mergeSort (le:=le) (λa b c h1 h2=>by simp[le] at *;omega) (λa b=>by simp[le];omega) o;exact this.imp λh=>by simpa[le] using h
theorem OR:∀a:List (List Sp),∃cs:List (List Sp),cs.length=a.length∧∀(k:Nat) o c,a[k]?=some o->cs[k]?=some c->GS o c
 | []=>⟨[],O,λk o c h=>by simp at h⟩
 | o::a=>by
  obtain ⟨c,g⟩:=QD o;obtain ⟨cs,f,e⟩:=OR a;refine ⟨c::cs,by simp[f],λk q r b d=>?_⟩;cases k with
  | zero=>simp at b d;subst b;subst d;exact g
  | succ k=>exact e k q r (by simpa using b) (by simpa using d)
theorem MF {ll:List (List Sp)} {p:List Int} {m:List (List Bool)} {a:List (List Sp)} {o c:List Sp} {k:Nat} (h:GInv ll p p.length m a) (j:Ds ll.flatten p) (b:a[k]?=some o) (g:GS o c) (q:16<c.length):∃cs,LN ll cs∧Ka cs:=by
 obtain ⟨cs,n,f⟩:=OR a;refine ⟨cs,h.done j n f,.inl ?_⟩;obtain ⟨d,hd⟩:=AL (l:=cs) (i:=k) (by have:=AI b;omega);refine ⟨d,List.mem_of_getElem? hd,?_⟩;have e:=(h.ok k o b).1;rw[Cc.eq (Cc.join (f k o d b hd) e).1 (Cc.join g e).1 λ_ _ _=>rfl];exact q
end Go.Proofs
namespace Go.Proofs
open Go Go.Eng Go.Sort
def Gw (s:Sp) (r:Int):Bool:=decide (s.1<=r) && decide (r<=s.2)
def Gu (ll:List (List Sp)):Prop:=∀r,0<=r->r<=1114111->ll.countP (λl=>BY l r)=1
def BK:List Sp->Int
  | []=>-1
  | s::_=>s.1
def KZ (ll:List (List Sp)):Nat->Int
  | 0=>-1
  | k+1=>BK (ll.getD k [])
def PU (ll:List (List Sp)) (k:Nat):Prop:=ll.getD k []≠[]∧KZ ll k<BK (ll.getD k [])
def HH (ll:List (List Sp)):Prop:=∀k,k<ll.length->PU ll k
open Classical in
noncomputable def partE (ll:List (List Sp)):Int:=if 16<ll.length then 2 else if Gi ll≠0 then Gi ll else if HH ll∧Gu ll then 0 else 3
theorem Jb {ll:List (List Sp)} (h:16<ll.length):partE ll=2:=by unfold partE;rw[if_pos h]
theorem Lo {ll:List (List Sp)} (h:¬16<ll.length) (hb:Gi ll≠0):partE ll=Gi ll:=by unfold partE;rw[if_neg h,if_pos hb]
theorem ED {ll:List (List Sp)} (h:¬16<ll.length) (hb:Gi ll=0) (a:¬(HH ll∧Gu ll)):partE ll=3:=by unfold partE;rw[if_neg h,if_neg (by simp[hb]),if_neg a]
theorem N9 {ll:List (List Sp)} (h:¬16<ll.length) (hb:Gi ll=0) (a:HH ll∧Gu ll):partE ll=0:=by unfold partE;rw[if_neg h,if_neg (by simp[hb]),if_pos a]
theorem H' {ll:List (List Sp)} (h:partE ll=0):¬16<ll.length∧Gi ll=0∧HH ll∧Gu ll:=by
 unfold partE at h;split at h
 .cases h
 .split at h
  .rename_i a h2;exact absurd h h2
  .split at h
   .rename_i a h2 h3;exact ⟨a,by simpa using h2,h3.1,h3.2⟩
   .cases h
theorem Iq:∀{ll:List (List Sp)},Gi ll=0->∀l∈ll,A7 l=0
 | x::ll,h,l,hl=>by
  unfold Gi at h;split at h
  .rename_i a;exact absurd h a
  .rename_i a
   rcases List.mem_cons.1 hl with rfl|b
   .simpa using a
   .exact Iq h l b
theorem Jh:∀{l:List Sp} {r:Int},Canon l->l.countP (λs=>Gw s r)=if BY l r then 1 else 0
 | [],r,_=>rfl
 | s::l,r,h=>by
  rw[List.countP_cons,Jh h.tail,CQ];have e:(decide (s.1<=r) && decide (r<=s.2))=Gw s r:=rfl;rw[e];cases hs:Gw s r with
  | false=>simp
  | true=>
   have:BY l r=false:=FO h (by unfold Gw at hs;simp at hs;omega);simp[this]
theorem IH:∀{ll:List (List Sp)} {r:Int},(∀l∈ll,Canon l)->ll.flatten.countP (λs=>Gw s r)=ll.countP λl=>BY l r
 | [],r,_=>rfl
 | l::ll,r,h=>by
  rw[List.flatten_cons,List.countP_append,List.countP_cons,Jh (h l List.mem_cons_self),IH λx a=>h x (List.mem_cons_of_mem _ a)];omega
def Eb:Int->List Sp->Bool
  | n,[]=>decide (n=1114112)
  | n,s::l=>decide (s.1=n) && Eb (s.2+1) l
theorem MH:∀{l:List Sp} {n:Int},(∀s∈l,C_ s)->Eb n l=true->∀s∈l,n<=s.1
 | x::l,n,hv,h,s,hs=>by
  simp only[Eb,Bool.and_eq_true,decide_eq_true_eq] at h;rcases List.mem_cons.1 hs with rfl|c
  .omega
  .have h2:=MH (λy b=>hv y (List.mem_cons_of_mem _ b)) h.2 s c;have a:=hv x List.mem_cons_self;unfold C_ at a;omega
theorem K1 {l:List Sp} {r:Int} (h:∀s∈l,r<s.1):l.countP (λs=>Gw s r)=0:=by
 rw[List.countP_eq_zero];intro s hs;have:=h s hs;unfold Gw;simp only[Bool.and_eq_true,decide_eq_true_eq];omega
theorem Jf:∀{l:List Sp} {n:Int},(∀s∈l,C_ s)->Eb n l=true->∀r,n<=r->r<=1114111->l.countP (λs=>Gw s r)=1
 | [],n,_,h,r,h1,h2=>by simp[Eb] at h;omega
 | s::l,n,hv,h,r,h1,h2=>by
  have a:∀t∈l,C_ t:=λy c=>hv y (List.mem_cons_of_mem _ c);simp only[Eb,Bool.and_eq_true,decide_eq_true_eq] at h;rw[List.countP_cons];rcases IA s.2 r with b|b
  .rw[Jf a h.2 r qO h2];have:Gw s r=false:=by unfold Gw;rw[decide_eq_false (show ¬r<=s.2 by omega),Bool.and_false]
   simp[this]
  .rw[K1 λt d=>by have:=MH a h.2 t d;omega];have:Gw s r=true:=by unfold Gw;rw[decide_eq_true b,decide_eq_true qO];rfl
   simp[this]
theorem Oj:∀{l:List Sp} {n:Int},(∀s∈l,C_ s)->l.Pairwise (λs t=>s.1<=t.1)->n<=1114112->(∀s∈l,n<=s.1)->(∀r,n<=r->r<=1114111->l.countP (λs=>Gw s r)=1)->Eb n l=true
 | [],n,_,_,hn,_,hc=>by
  rcases Int.lt_or_le n 1114112 with h|h
  .have:=hc n (Int.le_refl _) qO;simp at this
  .simp[Eb];omega
 | s::l,n,hv,hp,hn,hl,hc=>by
  have c:∀t∈l,C_ t:=λy m=>hv y (List.mem_cons_of_mem _ m);have k:=hv s List.mem_cons_self;unfold C_ at k;have hls:=hl s List.mem_cons_self;have a:=List.pairwise_cons.1 hp;have j:s.1=n:=by
   rcases Int.lt_or_le n s.1 with h|h
   .have e:=hc n (Int.le_refl _) qO;rw[K1 λt f=>by
     rcases List.mem_cons.1 f with rfl|b
     .exact h
     .have:=a.1 t b;omega] at e
    cases e
   .omega
  have g:∀t∈l,s.2+1<=t.1:=by
   intro t f;rcases Int.lt_or_le s.2 t.1 with h|h
   .omega
   .exfalso;have e:=a.1 t f;have d:=c t f;unfold C_ at d;have b:=hc t.1 qO qO;rw[List.countP_cons] at b;have i:Gw s t.1=true:=by unfold Gw;rw[decide_eq_true e,decide_eq_true h];rfl
    have h4:0<l.countP (λs=>Gw s t.1):=List.countP_pos_iff.2 ⟨t,f,by unfold Gw;rw[decide_eq_true (Int.le_refl _),decide_eq_true d.2.1];rfl⟩;rw[i,if_pos rfl] at b;omega
  simp only[Eb,Bool.and_eq_true,decide_eq_true_eq];refine ⟨j,Oj c a.2 qO g λr e b=>?_⟩;have i:=hc r qO b;rw[List.countP_cons] at i;have:Gw s r=false:=by unfold Gw;rw[decide_eq_false (show ¬r<=s.2 by omega),Bool.and_false]
  simpa[this] using i
theorem O_ {ll:List (List Sp)} {b:List Sp} (e:∀l∈ll,Canon l) (c:b.Perm ll.flatten) (hs:b.Pairwise λs t=>s.1<=t.1):Eb 0 b=true↔Gu ll:=by
 have f:∀s∈b,C_ s:=λs h=>by
  obtain ⟨l,g,a⟩:=List.mem_flatten.1 (c.mem_iff.1 h);exact (e l g).ok s a
 constructor
 .intro h r d a;rw[<-IH e,<-c.countP_eq];exact Jf f h r d a
 .intro h;refine Oj f hs qO (λs a=>(f s a).1) λr d a=>?_;rw[c.countP_eq,IH e];exact h r d a
theorem I_ {ll:List (List Sp)} {p:List Int} (d:Ds ll.flatten p) (a:∀s∈ll.flatten,C_ s):∀i,i<=p.length->∀r,0<=r->r<nx p i->∃k lo,p[k]?=some lo∧lo<=r∧r<nx p (k+1)∧Ay ll r=Ay ll lo
 | 0,_,r,h0,h1=>by rw[I' d a] at h1;omega
 | i+1,hi,r,h0,h1=>by
  obtain ⟨lo,b⟩:=AL (l:=p) (i:=i) qO;rcases IA r lo with c|c
  .exact I_ d a i qO r h0 (by rw[OG b];exact c)
  .exact ⟨i,lo,b,c,h1,Gn d a b c h1⟩
theorem N0 {ll:List (List Sp)} {p:List Int} (d:Ds ll.flatten p) (a:∀s∈ll.flatten,C_ s) {r:Int} (e:0<=r) (h1:r<=1114111):∃lo∈p,Ay ll r=Ay ll lo:=by
 obtain ⟨k,lo,c,_,_,b⟩:=I_ d a p.length (Nat.le_refl _) r e (by unfold nx;rw[List.getElem?_eq_none (Nat.le_refl _)];simp;omega);exact ⟨lo,List.mem_of_getElem? c,b⟩
theorem K2 (ll:List (List Sp)) (r:Int):ll.countP (λl=>BY l r)=(Ay ll r).countP id:=by
 unfold Ay;rw[List.countP_map];rfl
theorem SG {ll:List (List Sp)} {p:List Int} (b:Ds ll.flatten p) (a:∀s∈ll.flatten,C_ s):Gu ll↔∀r∈p,ll.countP (λl=>BY l r)=1:=by
 constructor
 .intro h r f;have:=Cg b a f;exact h r this.1 this.2
 .intro h r e g;obtain ⟨lo,d,c⟩:=N0 b a e g;rw[K2,c,<-K2];exact h lo d
def V2 (ll:List (List Sp)):List Int:=ll.map BK
end Go.Proofs
namespace Go.Proofs
open Go Go.Eng Go.Sort
set_option maxRecDepth 100000
open Classical in
noncomputable def canC (c:Nat) (f:List Nat->Int):Dfa:=if h:∃C,Db c f C then Classical.choose h else BV c
theorem U5 {c:Nat} {f:List Nat->Int} {C:Dfa} (h:Db c f C):canC c f=C:=by
 have a:∃C,Db c f C:=⟨C,h⟩;unfold canC;rw[dif_pos a];exact Db.uniq (Classical.choose_spec a) h λ_ _=>rfl
open Classical in
noncomputable def canO (c:Nat) (f:List Nat->Int):Option Dfa:=if ∃C,Db c f C then some (canC c f) else none
theorem Ho {c:Nat} {f:List Nat->Int} {C:Dfa} (h:Db c f C):canO c f=some C:=by
 unfold canO;rw[if_pos ⟨C,h⟩,U5 h]
structure GoodD (c:Nat) (d:Dfa):Prop where
 ok:OkD d.next.length c d
 most:d.next.length<=20000
 acc:∀x∈d.accept,x<2147483648
theorem Hg {c:Nat} {f:List Nat->Int} {C:Dfa} (h:Db c f C) (b:C.next.length<=20000) (a:∀x∈C.accept,x<2147483648):GoodD c C:=⟨h.ok.1,b,a⟩
open Classical in
noncomputable def catO (c:Nat) (a b:Dfa):Option Dfa:=if GA c (Ee a b b.next.length) (FU a b b.next.length) 20000 then canO c (catB a b) else none
open Classical in
noncomputable def prsO (c:Nat) (both:Bool) (a b:Dfa):Option Dfa:=if GA c (Et both a b) (a.start,b.start) 20000 then canO c (λw=>T1 both (beh a a.start w) (beh b b.start w)) else none
open Classical in
noncomputable def stO (c:Nat) (a:Dfa):Option Dfa:=if GA c (EZ a a.next.length (Cf a a.next.length)) (Cf a a.next.length) 20000 then canO c (starB a) else none
def RW (c:Nat) (S:Nat->Prop) (o:Option Dfa) (r:Value) (w:World):Prop:=∃(d:Dfa) (ea na:Option Addr) (ec nc:Nat),r=.tuple #[.agg #[.int .i64 d.start,.slice ea d.accept.length ec,.slice na d.next.length nc],.bool o.isSome]∧∀D,o=some D->D=d∧GoodD c d∧By S w d [.int .i64 d.start,.slice ea d.accept.length ec,.slice na d.next.length nc]
theorem RW.mono {c:Nat} {S f:Nat->Prop} {o:Option Dfa} {r:Value} {w:World} (h:RW c S o r w) (hs:∀b,S b->f b):RW c f o r w:=by
 obtain ⟨d,j,g,l,i,k,a⟩:=h;exact ⟨d,j,g,l,i,k,λD e=>⟨(a D e).1,(a D e).2.1,(a D e).2.2.mono hs⟩⟩
open Classical in
theorem PF {c:Nat} {f:List Nat->Int} {p:Prop} {g w:World} {r:Value} (h:(p∧Ot c f g.heap.size r w)∨(¬p∧Tx r)):RW c (λb=>g.heap.size<=b∧b<w.heap.size) (if p then canO c f else none) r w:=by
 rcases h with ⟨d,C,j,i,q,n,e,o,k,rfl,l⟩|⟨d,m⟩
 .rw[if_pos d];rw[Ho e];exact ⟨C,j,q,i,n,O,λD a=>⟨by rw[<-Option.some.inj a],Hg e o k,By.of_new l⟩⟩
 .rw[if_neg d];exact ⟨⟨0,[],[]⟩,none,none,0,0,m,λD a=>by cases a⟩
def T0 (c m:Nat) (o:Option Dfa):El:=λr w=>∃(d:Dfa) (ea na:Option Addr) (ec nc:Nat),r=.tuple #[.agg #[.int .i64 d.start,.slice ea d.accept.length ec,.slice na d.next.length nc],.bool o.isSome]∧∀D,o=some D->D=d∧GoodD c d∧DV m w d [.int .i64 d.start,.slice ea d.accept.length ec,.slice na d.next.length nc]
open Classical in
theorem Vv {c m:Nat} {f:List Nat->Int} {p:Prop} {e w:World} {r:Value} (n:m<=e.heap.size) (h:(p∧Ot c f e.heap.size r w)∨(¬p∧Tx r)):T0 c m (if p then canO c f else none) r w:=by
 rcases h with ⟨b,C,i,g,s,o,d,q,j,rfl,k⟩|⟨b,l⟩
 .rw[if_pos b];rw[Ho d];exact ⟨C,i,s,g,o,O,λD a=>⟨by rw[<-Option.some.inj a],Hg d q j,k.low n⟩⟩
 .rw[if_neg b];exact ⟨⟨0,[],[]⟩,none,none,0,0,l,λD a=>by cases a⟩
theorem Pa (d:World) (c:Nat) (a b:Dfa) (f e:List Value) (i:GoodD c a) (g:GoodD c b) (j:B' d a f) (hb:B' d b e) (k:1<=c∧c<=16) :
 CJ prog 165 #[.agg f.toArray,.agg e.toArray] d λr w=>RW c (λb=>d.heap.size<=b∧b<w.heap.size) (catO c a b) r w∧Ao d w:=
 (WK d _ _ c a b f e i.ok g.ok j hb k i.most g.most).mono λ_ _ h=>⟨PF h.1,h.2⟩
theorem Vp (e:World) (c:Nat) (a b:Dfa) (j g:List Value) (d:Bool) (i:GoodD c a) (f:GoodD c b) (k:B' e a j) (hb:B' e b g) (l:1<=c∧c<=16) :
 CJ prog 166 #[.agg j.toArray,.agg g.toArray,.bool d] e λr w=>RW c (λb=>e.heap.size<=b∧b<w.heap.size) (prsO c d a b) r w∧Ao e w:=
 (N_ e _ _ c a b j g d i.ok f.ok k hb l ⟨i.most,f.most⟩ i.acc f.acc).mono λ_ _ h=>⟨PF h.1,h.2⟩
theorem Vq (e:World) (m c:Nat) (a b:Dfa) (j g:List Value) (d:Bool) (k:m<=e.heap.size) (i:GoodD c a) (f:GoodD c b) (l:B' e a j) (hb:B' e b g) (n:1<=c∧c<=16) :
 CJ prog 166 #[.agg j.toArray,.agg g.toArray,.bool d] e λr w=>T0 c m (prsO c d a b) r w∧Ao e w:=
 (N_ e _ _ c a b j g d i.ok f.ok l hb n ⟨i.most,f.most⟩ i.acc f.acc).mono λ_ _ h=>⟨Vv k h.1,h.2⟩
theorem Wm (d:World) (c:Nat) (a:Dfa) (e:List Value) (f:GoodD c a) (g:B' d a e) (i:1<=c∧c<=16) :
 CJ prog 167 #[.agg e.toArray] d λr w=>RW c (λb=>d.heap.size<=b∧b<w.heap.size) (stO c a) r w∧Ao d w:=
 (UC d _ c a e f.ok g i f.most).mono λ_ _ h=>⟨PF h.1,h.2⟩
theorem MZ {α:Type} {n:Nat} {x a:α} (h:a∈List.replicate n x):a=x:=(List.mem_replicate.1 h).2
theorem IF (c:Nat):GoodD c (BV c):=by
 refine ⟨⟨O,O,by simp[BV],by simp[BV],?_⟩,by simp[BV],by simp[BV]⟩;intro r a;simp only[BV,List.mem_singleton] at a;subst a;exact ⟨List.length_replicate ..,λx b=>by rw[MZ b];simp[BV]⟩
theorem Q7 (c:Nat):GoodD c (Gb c):=by
 refine ⟨⟨O,O,by simp[Gb],by simp[Gb],?_⟩,by simp[Gb],by simp[Gb]⟩;intro r a;simp only[Gb,List.mem_singleton] at a;subst a;exact ⟨List.length_replicate ..,λx b=>by rw[MZ b];simp[Gb]⟩
def setRow (cs:List (List Sp)) (s:List Sp):List Int:=cs.map λl=>if BY s (BK l)=true then 1 else -1
def Gp (cs:List (List Sp)) (s:List Sp):Dfa:=⟨0,[-1,0],[setRow cs s,List.replicate cs.length (-1)]⟩
theorem OY (cs:List (List Sp)) (s:List Sp):GoodD cs.length (Gp cs s):=by
 refine ⟨⟨O,O,by simp[Gp],by simp[Gp],?_⟩,by simp[Gp],by simp[Gp]⟩;intro r b;simp only[Gp,List.mem_cons,List.not_mem_nil,or_false] at b;rcases b with rfl|rfl
 .refine ⟨by simp[setRow],λx a=>?_⟩;obtain ⟨l,_,rfl⟩:=List.mem_map.1 a;simp only[Gp,List.length_cons,List.length_nil];split<;>omega
 .exact ⟨List.length_replicate ..,λx a=>by rw[MZ a];simp[Gp]⟩
noncomputable def opK (c:Nat) (k:Int) (a b:Dfa):Option Dfa:=if k=3 then catO c a b else prsO c (decide (k=7)) a b
noncomputable def foldK (c:Nat) (k:Int):Dfa->List Dfa->Option Dfa
  | d,[]=>some d
  | d,e::es=>(opK c k d e).bind λd'=>foldK c k d' es
noncomputable def repK (c:Nat) (mn:Int) (a may:Dfa):Nat->Option Dfa
  | 0=>some (BV c)
  | k+1=>(repK c mn a may k).bind λo=>catO c o (if ((k:Nat):Int)<mn then a else may)
noncomputable def nodeO (c:Nat) (cs:List (List Sp)) (k:Int) (s:List Sp) (mn mx:Int) (L:Option (List Dfa)):Option Dfa:=
 if k=1 then some (BV c)
 else if k=2 then canO c (beh (Gp cs s) 0)
 else if k=3∨k=4∨k=7 then L.bind λl=>match l with|d::ds=>foldK c k d ds|[]=>none
 else if k=5 then L.bind λl=>match l with|d::_=>stO c d|[]=>none
 else if k=6 then L.bind λl=>match l with|d::_=>(prsO c false d (BV c)).bind λm=>repK c mn d m mx.toNat|[]=>none
 else if k=8 then L.bind λl=>match l with|d::_=>canO c λw=>fl (beh d d.start w)|[]=>none
 else if k=9 then L.bind λl=>match l with|d::_=>some d|[]=>none
 else some (Gb c)
def Ug (o:Option Dfa):Option Dfa:=o.bind λd=>if 200<d.next.length then none else some d
mutual
noncomputable def trN (c:Nat) (cs:List (List Sp)):Re->Option Dfa
  | .mk k s a mn mx _=>nodeO c cs k s mn mx (trL c cs a)
noncomputable def trL (c:Nat) (cs:List (List Sp)):List Re->Option (List Dfa)
  | []=>some []
  | t::ts=>(Ug (trN c cs t)).bind λd=>(trL c cs ts).map λl=>d::l
end
noncomputable def trO (c:Nat) (cs:List (List Sp)) (t:Re):Option Dfa:=Ug (trN c cs t)
theorem Gl (c:Nat) (cs:List (List Sp)) (t:Re):trN c cs t=nodeO c cs t.kind t.set t.mn t.mx (trL c cs t.args):=by cases t;simp only[trN];rfl
theorem GU (c:Nat) (cs:List (List Sp)) (t:Re) (ts:List Re):trL c cs (t::ts)=(trO c cs t).bind λd=>(trL c cs ts).map λl=>d::l:=by simp only[trL];rfl
theorem J6 {c:Nat} {cs:List (List Sp)}:∀{ts:List Re} {i:Nat} {x:Re},ts[i]?=some x->trO c cs x=none->trL c cs ts=none
 | [],i,x,h,_=>by simp at h
 | t::ts,0,x,h,h0=>by simp at h;subst h;rw[GU,h0];rfl
 | t::ts,i+1,x,h,h0=>by rw[GU,J6 (ts:=ts) (i:=i) (by simpa using h) h0];cases trO c cs t<;>rfl
theorem J5 {c:Nat} {cs:List (List Sp)} {x:Re} {d:Dfa} (a:trO c cs x=some d):∀{ts:List Re} {ds:List Dfa},trL c cs ts=some ds->trL c cs (ts++[x])=some (ds++[d])
 | [],ds,h=>by simp only[trL,Option.some.injEq] at h;subst h;rw[List.nil_append,GU,a];simp[trL]
 | t::ts,ds,h=>by
  rw[GU] at h;cases e:trO c cs t with
  | none=>rw[e] at h;cases h
  | some e1=>
   rw[e] at h;cases e2:trL c cs ts with
   | none=>rw[e2] at h;cases h
   | some l=>
    rw[e2] at h;simp only[Option.bind_some,Option.map_some,Option.some.injEq] at h;subst h;rw[List.cons_append,GU,e,J5 a e2];rfl
theorem Kq {c:Nat} {k:Int} {e:Dfa}:∀{ds:List Dfa} {d:Dfa},foldK c k d (ds++[e])=(foldK c k d ds).bind λa=>opK c k a e
 | [],d=>by simp[foldK]
 | x::ds,d=>by
  simp only[List.cons_append,foldK];cases opK c k d x with
  | none=>rfl
  | some y=>simp only[Option.bind_some];exact Kq
theorem Kr {c:Nat} {k:Int}:∀{ds es:List Dfa} {d:Dfa},foldK c k d ds=none->foldK c k d (ds++es)=none
 | [],es,d,h=>by simp[foldK] at h
 | x::ds,es,d,h=>by
  simp only[List.cons_append,foldK] at h⊢;cases e:opK c k d x with
  | none=>rfl
  | some y=>rw[e] at h;simp only[Option.bind_some] at h⊢;exact Kr h
theorem I7 {c:Nat} {mn:Int} {a m:Dfa} {k:Nat} (h:repK c mn a m k=none):∀j,k<=j->repK c mn a m j=none
 | 0,hj=>by rw[show k=0 by omega] at h;cases h
 | j+1,hj=>by
  by_cases e:k=j+1
  .rw[<-e];exact h
  .rw[repK,I7 h j qO];rfl
end Go.Proofs
namespace Go.Proofs
open Go Go.Eng Go.Sort
set_option maxRecDepth 100000
theorem By.put {S M:Nat->Prop} {w w':World} {d:Dfa} {vs:List Value} (h:By S w d vs) (c:Chg M w w') (a:∀b,S b->¬M b):By S w' d vs:=(h.chg c λb hb _=>a b hb).mono λ_ hb=>hb.1
theorem Hu.mono {S a:Nat->Prop} {w:World} {d:Dfa} {r:Value} (hs:∀b,S b->a b) (h:Hu S d r w):Hu a d r w:=by
 obtain ⟨g,j,e,f,i,c⟩:=h;exact ⟨g,j,e,f,i,c.mono hs⟩
def I0 (c:Nat) (cs:List (List Sp)) (x:Re):Prop:=∀(w:World) (bt:Nat) (ca:Option Addr) (cc:Nat) (vs:List Value),Az w bt #[.slice ca cs.length cc] 135->Bg w (.slice ca cs.length cc) cs->BR w x vs->
 LS prog WX 133 #[.pointer (some ⟨bt,0,none⟩),.agg vs.toArray] w (λr w'=>(∃d,trN c cs x=some d∧GoodD c d∧Hu (λb=>w.heap.size<=b∧b<w'.heap.size) d r w')∧Ao w w') λw'=>trN c cs x=none∧Ao w w'
def Jj (c:Nat) (cs:List (List Sp)) (x:Re):Prop:=∀(w:World) (bt:Nat) (ca:Option Addr) (cc:Nat) (vs:List Value),Az w bt #[.slice ca cs.length cc] 135->Bg w (.slice ca cs.length cc) cs->BR w x vs->
 LS prog WX 102 #[.pointer (some ⟨bt,0,none⟩),.agg vs.toArray] w (λr w'=>(∃d,trO c cs x=some d∧GoodD c d∧d.next.length<=200∧Hu (λb=>w.heap.size<=b∧b<w'.heap.size) d r w')∧Ao w w') λw'=>trO c cs x=none∧Ao w w'
theorem IQ {c:Nat} {cs:List (List Sp)} {x:Re} {d:Dfa} (h:trN c cs x=some d):(¬200<d.next.length->trO c cs x=some d)∧(200<d.next.length->trO c cs x=none):=by
 unfold trO Ug;rw[h];exact ⟨λa=>by rw[Option.bind_some,if_neg a],λa=>by rw[Option.bind_some,if_pos a]⟩
theorem Vg {c:Nat} {cs:List (List Sp)} {x:Re} (h:trN c cs x=none):trO c cs x=none:=by
 unfold trO Ug;rw[h];rfl
theorem Vw (c:Nat) (cs:List (List Sp)) (x:Re) (hx:I0 c cs x):Jj c cs x:=by
 intro w0 bt ca cc vs hT hC ht;have ad:=ht;obtain ⟨sa,sc,aa,ac,rfl,_,_,_⟩:=ht.form;refine Er func102 rfl ntmps102 (Jo rfl) ?_;have E:Chg AZ w0 w0:=Chg.refl _ _;refine Y (BM (v:=(.agg (R6 x sa sc aa ac))) (c:=(R6 x sa sc aa ac)) qD rfl rfl ?_);intro bb wb Nb;have Fb:=Nb.ge E;have Ob_bt:=Nb.lt hT;replace hT:=Nb.keep hT;replace E:=E.ext Nb.ext;have Bb:=Nb.blk;refine BO (c:=#[(I6 0),(.slice none 0 0),(.slice none 0 0)]) qD CU rfl ?_;intro br wr Nr;have Fr:=Nr.ge E;have Or_bt:=Nr.lt hT;have Or_bb:=Nr.lt Bb;replace hT:=Nr.keep hT;replace Bb:=Nr.keep Bb;replace E:=E.ext Nr.ext;have Br:=Nr.blk;refine AA (Y (qM _ rfl (qV (AU (vs:=[(I6 x.kind),(.slice sa x.set.length sc),(.slice aa x.args.length ac),(I6 x.mn),(I6 x.mx),(.bool x.neg)]) rfl CI BE rfl (Bb.cells rfl)) ?_)));obtain ⟨n9,ab⟩:∃n9,n9=(wr).heap.size:=⟨_,rfl⟩;have hlt:br<n9∧w0.heap.size≤n9:=⟨by rw[ab];exact Br.lt,by rw[ab];exact E.size⟩;refine Ch rfl rfl qD (AT func133 kQ kQ rfl) (((hx _ bt ca cc _ hT (hC.ext E) (BR.ext E x ad)).mono (R':=fun r w'=>(∃d,trN c cs x=some d∧GoodD c d∧Hu (fun b=>n9≤b) d r w')∧Ao _ w') (fun r w' h=>⟨by obtain ⟨d,h1,h2,h3⟩:=h.1;exact ⟨d,h1,h2,h3.mono fun b hb=>by rw[ab];exact hb.1⟩,h.2⟩) (fun _ h=>h))) (fun w' h=>And.intro rfl ⟨Vg h.1,E.ext h.2⟩) ?_;rintro _ w9 ⟨⟨d,hd,gd,ea,ec,na,nc,rfl,hD⟩,X9⟩;replace hT:=X9.keep hT;replace Bb:=X9.keep Bb;replace Br:=X9.keep Br;replace E:=E.ext X9;refine Au (v:=(.agg #[(I6 d.start),(.slice ea d.accept.length ec),(.slice na d.next.length nc)])) (c:=#[(I6 d.start),(.slice ea d.accept.length ec),(.slice na d.next.length nc)]) (n:=3) qD CU rfl Ap rfl rfl rfl qS ?_;intro bd wd Nd;have Fd:=Nd.ge E;have Od_bt:=Nd.lt hT;have Od_bb:=Nd.lt Bb;have Od_br:=Nd.lt Br;replace hT:=Nd.keep hT;replace Bb:=Nd.keep Bb;replace Br:=Nd.keep Br;replace hD:=hD.ext Nd.ext;replace E:=E.ext Nd.ext;have Bd:=Nd.blk;refine AA (AE (Y (qF bd 0 2 rfl underlying52 rfl CB rfl (qV (AD rfl B0 (Bd.cell rfl)) (qV (AH underlying50 rfl) (qV (CH rfl rfl) (AA (qC rfl (fun h0=>?_) (fun h0=>?_)))))))))
 ·refine AG (qV (BU (ps:=[]) (v:=(.agg #[])) rfl qK) (qV (Ja (t:=131) (v:=(.agg #[])) underlying131 rfl) (MN rfl (P1 (u:=131) (v:=(.agg #[])) rfl) (And.intro rfl ⟨(IQ hd).2 qO,E⟩))))
 ·refine AK (AB (Y (qV (AU (vs:=[(I6 d.start),(.slice ea d.accept.length ec),(.slice na d.next.length nc)]) rfl BC Ap rfl (Bd.cells rfl)) (Al (b:=br) (o:=0) (c':=#[(I6 d.start),(.slice ea d.accept.length ec),(.slice na d.next.length nc)]) rfl rfl qS Ap rfl Br qL rfl ?_))));intro w2 S2;replace hD:=hD.put S2.chg fun y h1 h=>by have h':y=br:=h;omega
  replace hT:=S2.keep qO hT;replace Bb:=S2.keep qO Bb;replace Bd:=S2.keep qO Bd;replace E:=S2.step E qQ;replace Br:=S2.blk;refine AA (AS (D7 (Cp results102 (vs:=[(.int .i64 d.start),(.slice ea d.accept.length ec),(.slice na d.next.length nc)]) (b:=br) rfl BC Ap rfl (Br.cells rfl) ?_)));exact ⟨⟨d,(IQ hd).1 qO,gd,qO,_,_,_,_,rfl,(By.chg hD (Chg.refl AZ _) fun _ _ _ f=>f).mono fun b hb=>⟨qO,hb.2⟩⟩,E⟩
end Go.Proofs
namespace Go.Proofs
open Go Go.Eng Go.Sort
set_option maxRecDepth 100000
theorem Tk {t y:Re} (h:t.args.length=1) (b:t.args[0]?=some y):t.args=[y]:=by
 match t.args,h,b with
 | [a],_,e=>simp at e;rw[e]
section
variable {c : Nat} {cs : List (List Sp)} {t y : Re}
theorem Jt (h:t.args.length=1) (a:t.args[0]?=some y):trL c cs t.args=(trO c cs y).map λd=>[d]:=by
 rw[Tk h a,GU];cases trO c cs y<;>simp[trL]
theorem Wh (a:t.kind=1):trN c cs t=some (BV c):=by rw[Gl,nodeO,if_pos a]
theorem VL (a:t.kind=2):trN c cs t=canO c (beh (Gp cs t.set) 0):=by rw[Gl,nodeO,if_neg qO,if_pos a]
theorem Pu (b:t.kind=5) (h:t.args.length=1) (a:t.args[0]?=some y):trN c cs t=(trO c cs y).bind (stO c):=by
 rw[Gl,nodeO,if_neg qO,if_neg qO,if_neg qO,if_pos b,Jt h a];cases trO c cs y<;>rfl
theorem Rm (b:t.kind=6) (h:t.args.length=1) (a:t.args[0]?=some y):trN c cs t=(trO c cs y).bind λd=>(prsO c false d (BV c)).bind λm=>repK c t.mn d m t.mx.toNat:=by
 rw[Gl,nodeO,if_neg qO,if_neg qO,if_neg qO,if_neg qO,if_pos b,Jt h a];cases trO c cs y<;>rfl
theorem VK (b:t.kind=8) (h:t.args.length=1) (a:t.args[0]?=some y):trN c cs t=(trO c cs y).bind λd=>canO c λw=>fl (beh d d.start w):=by
 rw[Gl,nodeO,if_neg qO,if_neg qO,if_neg qO,if_neg qO,if_neg qO,if_pos b,Jt h a];cases trO c cs y<;>rfl
theorem VJ (b:t.kind=9) (h:t.args.length=1) (a:t.args[0]?=some y):trN c cs t=trO c cs y:=by
 rw[Gl,nodeO,if_neg qO,if_neg qO,if_neg qO,if_neg qO,if_neg qO,if_neg qO,if_pos b,Jt h a];cases trO c cs y<;>rfl
theorem Wi (h:¬(1<=t.kind∧t.kind<=9)):trN c cs t=some (Gb c):=by
 rw[Gl,nodeO,if_neg qO,if_neg qO,if_neg qO,if_neg qO,if_neg qO,if_neg qO,if_neg qO]
end
theorem T_ (cs:List (List Sp)) (x:Re) (hc:1≤cs.length∧cs.length≤16) (hN:NodeI x) (hk:x.kind=1):I0 cs.length cs x:=by
 intro w0 bt ca cc vs hT hC ht;have ht0:=ht;obtain ⟨sa,sc,aa,ac,rfl,af,ag,ad⟩:=ht.form;have hcl:cs.length≤16:=hc.2;refine Er func133 rfl ntmps133 (Jo rfl) ?_;have E:Chg AZ w0 w0:=Chg.refl _ _;refine Y (BM (v:=(.agg (R6 x sa sc aa ac))) (c:=(R6 x sa sc aa ac)) qD rfl rfl ?_);intro bb wb Nb;have Fb:=Nb.ge E;have Ob_bt:=Nb.lt hT;replace hT:=Nb.keep hT;replace E:=E.ext Nb.ext;have Bb:=Nb.blk;refine BO (c:=#[(I6 0),(.slice none 0 0),(.slice none 0 0)]) qD CU rfl ?_;intro br wr Nr;have Fr:=Nr.ge E;have Or_bt:=Nr.lt hT;have Or_bb:=Nr.lt Bb;replace hT:=Nr.keep hT;replace Bb:=Nr.keep Bb;replace E:=E.ext Nr.ext;have Br:=Nr.blk;refine AA (Y (qM _ rfl (qV (DR rfl) (qF bt 0 0 rfl underlying135 rfl Hy rfl (qV (AD rfl DE (hT.cell rfl)) (qV (AH underlying49 rfl) (qA _ rfl (AA (AE (Y (qF bb 0 0 rfl underlying48 rfl Ab rfl (qV (AD rfl Aa (Bb.cell rfl)) (AA (AM (Y (qV (As rfl rfl) (qA _ rfl (AA ?_))))))))))))))))));have ae:(decide ((x.kind:Int)=1))=true:=decide_eq_true hk;refine A4 (Aw ae) (Y (qM _ rfl ?_));obtain ⟨n9,ab⟩:∃n9,n9=(wr).heap.size:=⟨_,rfl⟩;have hlt:br<n9∧w0.heap.size≤n9:=⟨by rw[ab];exact Br.lt,by rw[ab];exact E.size⟩;refine qE rfl (AT func160 kQ kQ rfl) (((Ky _ cs.length hc).mono (R':=fun r w'=>Hu (fun b=>n9≤b) (BV cs.length) r w'∧Ao _ w') (fun r w' h=>⟨h.1.mono fun b hb=>by rw[ab];exact hb,h.2⟩))) ?_;rintro _ w9 ⟨⟨ea,ec,na,nc,rfl,hD⟩,X9⟩;replace hT:=X9.keep hT;replace Bb:=X9.keep Bb;replace Br:=X9.keep Br;replace E:=E.ext X9;refine Al (b:=br) (o:=0) (c':=#[(I6 ((BV cs.length).start)),(.slice ea ((BV cs.length).accept.length) ec),(.slice na ((BV cs.length).next.length) nc)]) rfl rfl qS Ap rfl Br qL rfl ?_;intro w2 S2;replace hD:=hD.put S2.chg fun y h1 h=>by have h':y=br:=h;omega
 replace hT:=S2.keep qO hT;replace Bb:=S2.keep qO Bb;replace E:=S2.step E qQ;replace Br:=S2.blk;refine AA (AS (Ag (AO (D7 (Cp results133 (vs:=[(.int .i64 ((BV cs.length).start)),(.slice ea ((BV cs.length).accept.length) ec),(.slice na ((BV cs.length).next.length) nc)]) (b:=br) rfl BC Ap rfl (Br.cells rfl) ?_)))));exact ⟨⟨_,Wh hk,IF _,_,_,_,_,rfl,(By.chg hD (Chg.refl AZ _) fun _ _ _ f=>f).mono fun b hb=>⟨qO,hb.2⟩⟩,E⟩
theorem T6 (cs:List (List Sp)) (x:Re) (hc:1≤cs.length∧cs.length≤16) (hN:NodeI x) (hk:x.kind=9) (hof:∀y∈x.args,Jj cs.length cs y):I0 cs.length cs x:=by
 intro w0 bt ca cc vs hT hC ht;have ht0:=ht;obtain ⟨sa,sc,aa,ac,rfl,au,ax,ad⟩:=ht.form;have hcl:cs.length≤16:=hc.2;have h1:=hN.one qO;obtain ⟨y,hy⟩:=AL (l:=x.args) (i:=0) qO;obtain ⟨ab,ao,rfl,ah⟩:=Is ad qO;obtain ⟨us,aj,ai⟩:=ah.get hy;have ag:=ai;obtain ⟨ysa,ysc,yaa,yac,rfl,_,_,_⟩:=ai.form;refine Er func133 rfl ntmps133 (Jo rfl) ?_;have E:Chg AZ w0 w0:=Chg.refl _ _;refine Y (BM (v:=(.agg (R6 x sa sc (some ⟨ab,ao,none⟩) ac))) (c:=(R6 x sa sc (some ⟨ab,ao,none⟩) ac)) qD rfl rfl ?_);intro bb wb Nb;have Fb:=Nb.ge E;have Ob_bt:=Nb.lt hT;replace hT:=Nb.keep hT;replace E:=E.ext Nb.ext;have Bb:=Nb.blk;refine BO (c:=#[(I6 0),(.slice none 0 0),(.slice none 0 0)]) qD CU rfl ?_;intro br wr Nr;have Fr:=Nr.ge E;have Or_bt:=Nr.lt hT;have Or_bb:=Nr.lt Bb;replace hT:=Nr.keep hT;replace Bb:=Nr.keep Bb;replace E:=E.ext Nr.ext;have Br:=Nr.blk;refine AA (Y (qM _ rfl (qV (DR rfl) (qF bt 0 0 rfl underlying135 rfl Hy rfl (qV (AD rfl DE (hT.cell rfl)) (qV (AH underlying49 rfl) (qA _ rfl (AA (AE (Y (qF bb 0 0 rfl underlying48 rfl Ab rfl (qV (AD rfl Aa (Bb.cell rfl)) (AA (AM (Y (qV (As rfl rfl) (qA _ rfl (AA ?_))))))))))))))))));have ap:(decide ((x.kind:Int)=1))=false:=decide_eq_false qO;refine AW (Aw ap) (Y (qV (As rfl rfl) (qA _ rfl (AA ?_))));have aq:(decide ((x.kind:Int)=2))=false:=decide_eq_false qO;refine AW (Aw aq) (AE (Y (qV (As rfl rfl) (qA _ rfl (AA ?_)))));have av:(decide ((x.kind:Int)=3))=false:=decide_eq_false qO;refine AW (Aw av) (Y (qV (As rfl rfl) (qA _ rfl (AA ?_))));have ak:(decide ((x.kind:Int)=4))=false:=decide_eq_false qO;refine AW (Aw ak) (AG (qV (As rfl rfl) (qA _ rfl (AA (AB ?_)))));have an:(decide ((x.kind:Int)=7))=false:=decide_eq_false qO;refine AW (Aw an) (Y (qV (As rfl rfl) (qA _ rfl (AA ?_))));have ar:(decide ((x.kind:Int)=5))=false:=decide_eq_false qO;refine AW (Aw ar) (Y (qV (As rfl rfl) (qA _ rfl (AA ?_))));have al:(decide ((x.kind:Int)=6))=false:=decide_eq_false qO;refine AW (Aw al) (Y (qV (As rfl rfl) (qA _ rfl (AA ?_))));have aw:(decide ((x.kind:Int)=8))=false:=decide_eq_false qO;refine AW (Aw aw) (Y (qV (As rfl rfl) (qA _ rfl (AA ?_))));have am:(decide ((x.kind:Int)=9))=true:=decide_eq_true hk;refine A4 (Aw am) (Y (qM _ rfl (qF bb 0 2 rfl underlying48 rfl G5 rfl (qV (AD rfl FB (Bb.cell rfl)) (qV (AC (b:=ab) (o:=ao) (len:=x.args.length) (cap:=ac) (i:=0) (o':=ao+0*6) rfl rfl rfl underlying46 BE qO qO) (qV (AU rfl CI BE rfl (aj.ext E)) ?_))))));obtain ⟨n9,af⟩:∃n9,n9=(wr).heap.size:=⟨_,rfl⟩;have hlt:br<n9∧w0.heap.size≤n9:=⟨by rw[af];exact Br.lt,by rw[af];exact E.size⟩;refine Ch rfl rfl qD (AT func102 kQ kQ rfl) (((hof y (List.mem_of_getElem? hy) _ bt ca cc _ hT (hC.ext E) (BR.ext E y ag)).mono (R':=fun r w'=>(∃d,trO cs.length cs y=some d∧GoodD cs.length d∧d.next.length≤200∧Hu (fun b=>n9≤b) d r w')∧Ao _ w') (fun r w' h=>⟨by obtain ⟨d,h1,h2,h3,h4⟩:=h.1;exact ⟨d,h1,h2,h3,h4.mono fun b hb=>by rw[af];exact hb.1⟩,h.2⟩) (fun _ h=>h))) (fun w' h=>And.intro rfl ⟨by rw[VJ hk h1 hy];exact h.1,E.ext h.2⟩) ?_;rintro _ w9 ⟨⟨d,hd,gd,hd2,ea,ec,na,nc,rfl,hD⟩,X9⟩;replace hT:=X9.keep hT;replace Bb:=X9.keep Bb;replace Br:=X9.keep Br;replace E:=E.ext X9;refine Al (b:=br) (o:=0) (c':=#[(I6 d.start),(.slice ea d.accept.length ec),(.slice na d.next.length nc)]) rfl rfl qS Ap rfl Br qL rfl ?_;intro w10 ae;replace hD:=hD.put ae.chg fun y h1 h=>by have h':y=br:=h;omega
 replace hT:=ae.keep qO hT;replace Bb:=ae.keep qO Bb;replace E:=ae.step E qQ;replace Br:=ae.blk;refine AA (AS (Ag (AO (D7 (Cp results133 (vs:=[(.int .i64 d.start),(.slice ea d.accept.length ec),(.slice na d.next.length nc)]) (b:=br) rfl BC Ap rfl (Br.cells rfl) ?_)))));exact ⟨⟨_,by rw[VJ hk h1 hy];exact hd,gd,_,_,_,_,rfl,(By.chg hD (Chg.refl AZ _) fun _ _ _ f=>f).mono fun b hb=>⟨qO,hb.2⟩⟩,E⟩
theorem T7 (cs:List (List Sp)) (x:Re) (hc:1≤cs.length∧cs.length≤16) (hN:NodeI x) (hk:x.kind=8) (hof:∀y∈x.args,Jj cs.length cs y):I0 cs.length cs x:=by
 intro w0 bt ca cc vs hT hC ht;have ht0:=ht;obtain ⟨sa,sc,aa,ac,rfl,a2,ax,ad⟩:=ht.form;have hcl:cs.length≤16:=hc.2;have h1:=hN.one qO;obtain ⟨y,hy⟩:=AL (l:=x.args) (i:=0) qO;obtain ⟨ab,ao,rfl,ai⟩:=Is ad qO;obtain ⟨us,ay,ak⟩:=ai.get hy;have ah:=ak;obtain ⟨ysa,ysc,yaa,yac,rfl,_,_,_⟩:=ak.form;refine Er func133 rfl ntmps133 (Jo rfl) ?_;have E:Chg AZ w0 w0:=Chg.refl _ _;refine Y (BM (v:=(.agg (R6 x sa sc (some ⟨ab,ao,none⟩) ac))) (c:=(R6 x sa sc (some ⟨ab,ao,none⟩) ac)) qD rfl rfl ?_);intro bb wb Nb;have Fb:=Nb.ge E;have Ob_bt:=Nb.lt hT;replace hT:=Nb.keep hT;replace E:=E.ext Nb.ext;have Bb:=Nb.blk;refine BO (c:=#[(I6 0),(.slice none 0 0),(.slice none 0 0)]) qD CU rfl ?_;intro br wr Nr;have Fr:=Nr.ge E;have Or_bt:=Nr.lt hT;have Or_bb:=Nr.lt Bb;replace hT:=Nr.keep hT;replace Bb:=Nr.keep Bb;replace E:=E.ext Nr.ext;have Br:=Nr.blk;refine AA (Y (qM _ rfl (qV (DR rfl) (qF bt 0 0 rfl underlying135 rfl Hy rfl (qV (AD rfl DE (hT.cell rfl)) (qV (AH underlying49 rfl) (qA _ rfl (AA (AE (Y (qF bb 0 0 rfl underlying48 rfl Ab rfl (qV (AD rfl Aa (Bb.cell rfl)) (AA (AM (Y (qV (As rfl rfl) (qA _ rfl (AA ?_))))))))))))))))));have ar:(decide ((x.kind:Int)=1))=false:=decide_eq_false qO;refine AW (Aw ar) (Y (qV (As rfl rfl) (qA _ rfl (AA ?_))));have ap:(decide ((x.kind:Int)=2))=false:=decide_eq_false qO;refine AW (Aw ap) (AE (Y (qV (As rfl rfl) (qA _ rfl (AA ?_)))));have av:(decide ((x.kind:Int)=3))=false:=decide_eq_false qO;refine AW (Aw av) (Y (qV (As rfl rfl) (qA _ rfl (AA ?_))));have al:(decide ((x.kind:Int)=4))=false:=decide_eq_false qO;refine AW (Aw al) (AG (qV (As rfl rfl) (qA _ rfl (AA (AB ?_)))));have a1:(decide ((x.kind:Int)=7))=false:=decide_eq_false qO;refine AW (Aw a1) (Y (qV (As rfl rfl) (qA _ rfl (AA ?_))));have au:(decide ((x.kind:Int)=5))=false:=decide_eq_false qO;refine AW (Aw au) (Y (qV (As rfl rfl) (qA _ rfl (AA ?_))));have am:(decide ((x.kind:Int)=6))=false:=decide_eq_false qO;refine AW (Aw am) (Y (qV (As rfl rfl) (qA _ rfl (AA ?_))));have aw:(decide ((x.kind:Int)=8))=true:=decide_eq_true hk;refine A4 (Aw aw) (Y (qM _ rfl (qF bb 0 2 rfl underlying48 rfl G5 rfl (qV (AD rfl FB (Bb.cell rfl)) (qV (AC (b:=ab) (o:=ao) (len:=x.args.length) (cap:=ac) (i:=0) (o':=ao+0*6) rfl rfl rfl underlying46 BE qO qO) (qV (AU rfl CI BE rfl (ay.ext E)) ?_))))));obtain ⟨n9,ae⟩:∃n9,n9=(wr).heap.size:=⟨_,rfl⟩;have hlt:br<n9∧w0.heap.size≤n9:=⟨by rw[ae];exact Br.lt,by rw[ae];exact E.size⟩;refine Ch rfl rfl qD (AT func102 kQ kQ rfl) (((hof y (List.mem_of_getElem? hy) _ bt ca cc _ hT (hC.ext E) (BR.ext E y ah)).mono (R':=fun r w'=>(∃d,trO cs.length cs y=some d∧GoodD cs.length d∧d.next.length≤200∧Hu (fun b=>n9≤b) d r w')∧Ao _ w') (fun r w' h=>⟨by obtain ⟨d,h1,h2,h3,h4⟩:=h.1;exact ⟨d,h1,h2,h3,h4.mono fun b hb=>by rw[ae];exact hb.1⟩,h.2⟩) (fun _ h=>h))) (fun w' h=>And.intro rfl ⟨by rw[VK hk h1 hy,h.1];rfl,E.ext h.2⟩) ?_;rintro _ w9 ⟨⟨d,hd,gd,hd2,ea,ec,na,nc,rfl,hD⟩,X9⟩;replace hT:=X9.keep hT;replace Bb:=X9.keep Bb;replace Br:=X9.keep Br;replace E:=E.ext X9;obtain ⟨n8,ag⟩:∃n8,n8=(w9).heap.size:=⟨_,rfl⟩;have az:br<n8∧n9≤n8:=⟨by rw[ag];exact Br.lt,by rw[ag,ae];exact X9.size⟩;refine qE rfl (AT func168 kQ kQ rfl) ((Ut _ _ cs.length d _ gd.ok hD.at' ⟨by have:=gd.ok.st;omega,qO,hc.1,hc.2⟩).mono (R':=fun r w'=>VF cs.length (fun w=>fl (beh d d.start w)) (d.next.length+1) n8 r w'∧Ao _ w') (fun r w' h=>by rw[ag];exact h)) ?_;rintro _ an ⟨⟨C,ca,cc,ma,mc,aj,hCl,aq,rfl,a0⟩,af⟩;replace hT:=af.keep hT;replace Bb:=af.keep Bb;replace Br:=af.keep Br;replace E:=E.ext af;have hD:By (fun b=>n9≤b) an C _:=(By.of_new a0).mono fun b hb=>by have:=hb.1;omega
 refine Al (b:=br) (o:=0) (c':=#[(I6 C.start),(.slice ca C.accept.length cc),(.slice ma C.next.length mc)]) rfl rfl qS Ap rfl Br qL rfl ?_;intro w9 S9;replace hD:=hD.put S9.chg fun y h1 h=>by have h':y=br:=h;omega
 replace hT:=S9.keep qO hT;replace Bb:=S9.keep qO Bb;replace E:=S9.step E qQ;replace Br:=S9.blk;refine AA (AS (Ag (AO (D7 (Cp results133 (vs:=[(.int .i64 C.start),(.slice ca C.accept.length cc),(.slice ma C.next.length mc)]) (b:=br) rfl BC Ap rfl (Br.cells rfl) ?_)))));exact ⟨⟨_,by rw[VK hk h1 hy,hd];exact Ho aj,(Hg aj qO aq),_,_,_,_,rfl,(By.chg hD (Chg.refl AZ _) fun _ _ _ f=>f).mono fun b hb=>⟨qO,hb.2⟩⟩,E⟩
theorem T9 (cs:List (List Sp)) (x:Re) (hc:1≤cs.length∧cs.length≤16) (hN:NodeI x) (hk:x.kind=5) (hof:∀y∈x.args,Jj cs.length cs y):I0 cs.length cs x:=by
 intro w0 bt ca cc vs hT hC ht;have ht0:=ht;obtain ⟨sa,sc,aa,ac,rfl,a4,az,ad⟩:=ht.form;have hcl:cs.length≤16:=hc.2;have h1:=hN.one qO;obtain ⟨y,hy⟩:=AL (l:=x.args) (i:=0) qO;obtain ⟨ab,ao,rfl,an⟩:=Is ad qO;obtain ⟨us,a0,aq⟩:=an.get hy;have am:=aq;obtain ⟨ysa,ysc,yaa,yac,rfl,_,_,_⟩:=aq.form;refine Er func133 rfl ntmps133 (Jo rfl) ?_;have E:Chg AZ w0 w0:=Chg.refl _ _;refine Y (BM (v:=(.agg (R6 x sa sc (some ⟨ab,ao,none⟩) ac))) (c:=(R6 x sa sc (some ⟨ab,ao,none⟩) ac)) qD rfl rfl ?_);intro bb wb Nb;have Fb:=Nb.ge E;have Ob_bt:=Nb.lt hT;replace hT:=Nb.keep hT;replace E:=E.ext Nb.ext;have Bb:=Nb.blk;refine BO (c:=#[(I6 0),(.slice none 0 0),(.slice none 0 0)]) qD CU rfl ?_;intro br wr Nr;have Fr:=Nr.ge E;have Or_bt:=Nr.lt hT;have Or_bb:=Nr.lt Bb;replace hT:=Nr.keep hT;replace Bb:=Nr.keep Bb;replace E:=E.ext Nr.ext;have Br:=Nr.blk;refine AA (Y (qM _ rfl (qV (DR rfl) (qF bt 0 0 rfl underlying135 rfl Hy rfl (qV (AD rfl DE (hT.cell rfl)) (qV (AH underlying49 rfl) (qA _ rfl (AA (AE (Y (qF bb 0 0 rfl underlying48 rfl Ab rfl (qV (AD rfl Aa (Bb.cell rfl)) (AA (AM (Y (qV (As rfl rfl) (qA _ rfl (AA ?_))))))))))))))))));have au:(decide ((x.kind:Int)=1))=false:=decide_eq_false qO;refine AW (Aw au) (Y (qV (As rfl rfl) (qA _ rfl (AA ?_))));have av:(decide ((x.kind:Int)=2))=false:=decide_eq_false qO;refine AW (Aw av) (AE (Y (qV (As rfl rfl) (qA _ rfl (AA ?_)))));have ax:(decide ((x.kind:Int)=3))=false:=decide_eq_false qO;refine AW (Aw ax) (Y (qV (As rfl rfl) (qA _ rfl (AA ?_))));have ar:(decide ((x.kind:Int)=4))=false:=decide_eq_false qO;refine AW (Aw ar) (AG (qV (As rfl rfl) (qA _ rfl (AA (AB ?_)))));have a3:(decide ((x.kind:Int)=7))=false:=decide_eq_false qO;refine AW (Aw a3) (Y (qV (As rfl rfl) (qA _ rfl (AA ?_))));have aw:(decide ((x.kind:Int)=5))=true:=decide_eq_true hk;refine A4 (Aw aw) (Y (qM _ rfl (qF bb 0 2 rfl underlying48 rfl G5 rfl (qV (AD rfl FB (Bb.cell rfl)) (qV (AC (b:=ab) (o:=ao) (len:=x.args.length) (cap:=ac) (i:=0) (o':=ao+0*6) rfl rfl rfl underlying46 BE qO qO) (qV (AU rfl CI BE rfl (a0.ext E)) ?_))))));obtain ⟨n9,af⟩:∃n9,n9=(wr).heap.size:=⟨_,rfl⟩;have hlt:br<n9∧w0.heap.size≤n9:=⟨by rw[af];exact Br.lt,by rw[af];exact E.size⟩;refine Ch rfl rfl qD (AT func102 kQ kQ rfl) (((hof y (List.mem_of_getElem? hy) _ bt ca cc _ hT (hC.ext E) (BR.ext E y am)).mono (R':=fun r w'=>(∃d,trO cs.length cs y=some d∧GoodD cs.length d∧d.next.length≤200∧Hu (fun b=>n9≤b) d r w')∧Ao _ w') (fun r w' h=>⟨by obtain ⟨d,h1,h2,h3,h4⟩:=h.1;exact ⟨d,h1,h2,h3,h4.mono fun b hb=>by rw[af];exact hb.1⟩,h.2⟩) (fun _ h=>h))) (fun w' h=>And.intro rfl ⟨by rw[Pu hk h1 hy,h.1];rfl,E.ext h.2⟩) ?_;rintro _ w9 ⟨⟨d,hd,gd,hd2,ea,ec,na,nc,rfl,hD⟩,X9⟩;replace hT:=X9.keep hT;replace Bb:=X9.keep Bb;replace Br:=X9.keep Br;replace E:=E.ext X9;have a1:n9≤(w9).heap.size:=by rw[af];exact X9.size
 obtain ⟨o9,al⟩:∃o9,o9=stO cs.length d:=⟨_,rfl⟩;refine qE rfl (AT func167 kQ kQ rfl) ((Wm _ cs.length d _ gd hD.at' hc).mono (R':=fun r w'=>RW cs.length (fun b=>n9≤b) o9 r w'∧Ao _ w') (fun r w' h=>⟨by rw[al];exact h.1.mono fun b hb=>by have:=hb.1;omega,h.2⟩)) ?_;rintro _ w29 ⟨⟨s9,aj,ai,ak,ap,rfl,a6⟩,ag⟩;replace hT:=ag.keep hT;replace Bb:=ag.keep Bb;replace Br:=ag.keep Br;replace E:=E.ext ag;refine qV (Ai rfl rfl) (qV (Ai rfl rfl) (Ch rfl rfl qD (AT func164 kQ kQ rfl) (JC _ o9.isSome s9.start aj ai s9.accept.length ak s9.next.length ap) (fun w' h=>And.intro rfl ⟨by rw[Pu hk h1 hy,hd];exact al.symm.trans (Option.not_isSome_iff_eq_none.1 (by rw[h.1];decide)),E.ext h.2⟩) ?_));rintro _ w39 ⟨⟨ay,rfl⟩,ae⟩;replace hT:=ae.keep hT;replace Bb:=ae.keep Bb;replace Br:=ae.keep Br;replace E:=E.ext ae;obtain ⟨D,ah⟩:=Option.isSome_iff_exists.1 ay;obtain ⟨a2,gD,a5⟩:=a6 D ah;rw[a2] at ah;have hD:=a5.ext ae;refine Al (b:=br) (o:=0) (c':=#[(I6 s9.start),(.slice aj s9.accept.length ak),(.slice ai s9.next.length ap)]) rfl rfl qS Ap rfl Br qL rfl ?_;intro w7 S7;replace hD:=hD.put S7.chg fun y h1 h=>by have h':y=br:=h;omega
 replace hT:=S7.keep qO hT;replace Bb:=S7.keep qO Bb;replace E:=S7.step E qQ;replace Br:=S7.blk;refine AA (AS (Ag (AO (D7 (Cp results133 (vs:=[(.int .i64 s9.start),(.slice aj s9.accept.length ak),(.slice ai s9.next.length ap)]) (b:=br) rfl BC Ap rfl (Br.cells rfl) ?_)))));exact ⟨⟨_,by rw[Pu hk h1 hy,hd];exact al.symm.trans ah,gD,_,_,_,_,rfl,(By.chg hD (Chg.refl AZ _) fun _ _ _ f=>f).mono fun b hb=>⟨qO,hb.2⟩⟩,E⟩
theorem UA (cs:List (List Sp)) (x:Re) (hc:1≤cs.length∧cs.length≤16) (hN:NodeI x) (hk:¬(1≤x.kind∧x.kind≤9)):I0 cs.length cs x:=by
  intro w0 bt ca cc vs hT hC ht;have ht0:=ht;obtain ⟨sa,sc,aa,ac,rfl,ar,an,ae⟩:=ht.form;have hcl:cs.length≤16:=hc.2;refine Er func133 rfl ntmps133 (Jo rfl) ?_;have E:Chg AZ w0 w0:=Chg.refl _ _;refine Y (BM (v:=(.agg (R6 x sa sc aa ac))) (c:=(R6 x sa sc aa ac)) qD rfl rfl ?_);intro bb wb Nb;have Fb:=Nb.ge E;have Ob_bt:=Nb.lt hT;replace hT:=Nb.keep hT;replace E:=E.ext Nb.ext;have Bb:=Nb.blk;refine BO (c:=#[(I6 0),(.slice none 0 0),(.slice none 0 0)]) qD CU rfl ?_;intro br wr Nr;have Fr:=Nr.ge E;have Or_bt:=Nr.lt hT;have Or_bb:=Nr.lt Bb;replace hT:=Nr.keep hT;replace Bb:=Nr.keep Bb;replace E:=E.ext Nr.ext;have Br:=Nr.blk;refine AA (Y (qM _ rfl (qV (DR rfl) (qF bt 0 0 rfl underlying135 rfl Hy rfl (qV (AD rfl DE (hT.cell rfl)) (qV (AH underlying49 rfl) (qA _ rfl (AA (AE (Y (qF bb 0 0 rfl underlying48 rfl Ab rfl (qV (AD rfl Aa (Bb.cell rfl)) (AA (AM (Y (qV (As rfl rfl) (qA _ rfl (AA ?_))))))))))))))))));have ai:(decide ((x.kind:Int)=1))=false:=decide_eq_false qO;refine AW (Aw ai) (Y (qV (As rfl rfl) (qA _ rfl (AA ?_))));have aj:(decide ((x.kind:Int)=2))=false:=decide_eq_false qO;refine AW (Aw aj) (AE (Y (qV (As rfl rfl) (qA _ rfl (AA ?_)))));have al:(decide ((x.kind:Int)=3))=false:=decide_eq_false qO;refine AW (Aw al) (Y (qV (As rfl rfl) (qA _ rfl (AA ?_))));have af:(decide ((x.kind:Int)=4))=false:=decide_eq_false qO;refine AW (Aw af) (AG (qV (As rfl rfl) (qA _ rfl (AA (AB ?_)))));have ap:(decide ((x.kind:Int)=7))=false:=decide_eq_false qO;refine AW (Aw ap) (Y (qV (As rfl rfl) (qA _ rfl (AA ?_))));have ak:(decide ((x.kind:Int)=5))=false:=decide_eq_false qO;refine AW (Aw ak) (Y (qV (As rfl rfl) (qA _ rfl (AA ?_))));have ag:(decide ((x.kind:Int)=6))=false:=decide_eq_false qO;refine AW (Aw ag) (Y (qV (As rfl rfl) (qA _ rfl (AA ?_))));have am:(decide ((x.kind:Int)=8))=false:=decide_eq_false qO;refine AW (Aw am) (Y (qV (As rfl rfl) (qA _ rfl (AA ?_))));have ah:(decide ((x.kind:Int)=9))=false:=decide_eq_false qO;refine AW (Aw ah) (AK (AP (AB (Y (Ad (ps:=[(0,(I6 (-1)))]) (c:=#[(I6 (-1))]) qD rfl underlying22 Ab CW qD qD qK ?_)))));intro be we Ne;have Fe:=Ne.ge E;have Oe_bt:=Ne.lt hT;have Oe_bb:=Ne.lt Bb;have Oe_br:=Ne.lt Br;replace hT:=Ne.keep hT;replace Bb:=Ne.keep Bb;replace Br:=Ne.keep Br;replace E:=E.ext Ne.ext;have Be:=Ne.blk;refine Ad (ps:=[(0,(I6 (-1)))]) (c:=#[(I6 (-1))]) qD rfl underlying22 Ab CW qD qD qK ?_;intro bm wm Nm;have Fm:=Nm.ge E;have Om_bt:=Nm.lt hT;have Om_bb:=Nm.lt Bb;have Om_br:=Nm.lt Br;have Om_be:=Nm.lt Be;replace hT:=Nm.keep hT;replace Bb:=Nm.keep Bb;replace Br:=Nm.keep Br;replace Be:=Nm.keep Be;replace E:=E.ext Nm.ext;have Bm:=Nm.blk;refine qM _ rfl ?_;obtain ⟨n9,ad⟩:∃n9,n9=(wm).heap.size:=⟨_,rfl⟩;have aq:br<n9∧w0.heap.size≤n9∧br<be∧w0.heap.size≤be:=⟨by rw[ad];exact Br.lt,by rw[ad];exact E.size,qO,qO⟩;refine qE rfl (AT func163 kQ kQ rfl) (HC _ bm 1 cs.length (-1) _ Bm hc.1 qO) ?_;rintro _ w9 ⟨⟨g,rfl,ao,hG⟩,X9⟩;replace hT:=X9.keep hT;replace Bb:=X9.keep Bb;replace Br:=X9.keep Br;replace Be:=X9.keep Be;replace Bm:=X9.keep Bm;replace E:=E.ext X9;have hgg:n9≤g:=by rw[ad];exact ao
  refine Ad (ps:=[(0,(.slice (some ⟨g,0,none⟩) cs.length cs.length))]) (c:=#[(.slice (some ⟨g,0,none⟩) cs.length cs.length)]) qD rfl underlying50 BG EG qD qD qK ?_;intro bn wn Nn;have Fn:=Nn.ge E;have On_bt:=Nn.lt hT;have On_bb:=Nn.lt Bb;have On_br:=Nn.lt Br;have On_be:=Nn.lt Be;have On_bm:=Nn.lt Bm;have On_g:=Nn.lt hG;replace hT:=Nn.keep hT;replace Bb:=Nn.keep Bb;replace Br:=Nn.keep Br;replace Be:=Nn.keep Be;replace Bm:=Nn.keep Bm;replace hG:=Nn.keep hG;replace E:=E.ext Nn.ext;have Bn:=Nn.blk;refine qV (BU (ps:=[(1,(.slice (some ⟨be,0,none⟩) 1 1)),(2,(.slice (some ⟨bn,0,none⟩) 1 1))]) (v:=(.agg #[(I6 0),(.slice (some ⟨be,0,none⟩) 1 1),(.slice (some ⟨bn,0,none⟩) 1 1)])) rfl qK) (Al (b:=br) (o:=0) (c':=#[(I6 0),(.slice (some ⟨be,0,none⟩) 1 1),(.slice (some ⟨bn,0,none⟩) 1 1)]) rfl rfl qS Ap rfl Br qL rfl ?_);intro w10 ab;replace hT:=ab.keep qO hT;replace Bb:=ab.keep qO Bb;replace Be:=ab.keep qO Be;replace Bm:=ab.keep qO Bm;replace hG:=ab.keep qO hG;replace Bn:=ab.keep qO Bn;replace E:=ab.step E qQ;replace Br:=ab.blk;refine AA (AS (D7 (Cp results133 (vs:=[(.int .i64 0),(.slice (some ⟨be,0,none⟩) 1 1),(.slice (some ⟨bn,0,none⟩) 1 1)]) (b:=br) rfl BC Ap rfl (Br.cells rfl) ?_)));exact ⟨⟨Gb cs.length,Wi hk,Q7 _,_,_,_,_,rfl,(By.chg (JQ (S:=fun b=>w0.heap.size≤b) (d:=Gb cs.length) (vs:=[.slice (some ⟨g,0,none⟩) cs.length cs.length]) Be Bn aq.2.2.2 qO rfl ⟨(by decide:1≤1000000),(by decide:1≤1000000)⟩ (fun i u l hu hi=>by
    cases i with
    | zero=>simp only[Gb,List.getElem?_cons_zero,Option.some.injEq] at hu hi;subst hu;subst hi;exact ⟨g,_,by rw[List.length_replicate],qO,by rw[List.length_replicate];omega,hG⟩
    | succ i=>simp[Gb] at hi)) (Chg.refl AZ _) fun _ _ _ f=>f)⟩,E⟩
end Go.Proofs
namespace Go.Proofs
open Go Go.Eng Go.Sort
set_option maxRecDepth 100000
def WQ (b:Bool):Int:=if b=true then 1 else -1
theorem O4 {cs:List (List Sp)} {s l:List Sp} {i:Nat} (h:cs[i]?=some l):(setRow cs s)[i]?=some (WQ (BY s (BK l))):=by
 unfold setRow WQ;rw[List.getElem?_map,h];rfl
theorem O5 {cs:List (List Sp)} {s:List Sp} {row:List Int} (hl:row.length=cs.length) (h:∀j,j<cs.length->row[j]?=(setRow cs s)[j]?):row=setRow cs s:=by
 refine List.ext_getElem? λj=>?_;by_cases a:j<cs.length
 .exact h j a
 .rw[List.getElem?_eq_none qO,List.getElem?_eq_none (by simp[setRow];omega)]
theorem NS {cs:List (List Sp)} {s l:List Sp} {row:List Int} {i:Nat} (b:row.length=cs.length) (hi:cs[i]?=some l) (h:∀j,j<i->row[j]?=(setRow cs s)[j]?) {row':List Int} (a:row'=row.set i (WQ (BY s (BK l)))):row'.length=cs.length∧∀j,j<i+1->row'[j]?=(setRow cs s)[j]?:=by
 subst a;have hlt:=AI hi;refine ⟨by simp[b],λj hj=>?_⟩;by_cases e:j=i
 .subst e;rw[List.getElem?_set_self qO,O4 hi]
 .rw[List.getElem?_set_ne (Ne.symm e)];exact h j qO
theorem T' (cs:List (List Sp)) (x:Re) (hc:1≤cs.length∧cs.length≤16) (hk:x.kind=2) (hne:∀l∈cs,l≠[]):I0 cs.length cs x:=by
  intro w0 bt ca cc vs hT hC ht;have ht0:=ht;obtain ⟨sa,sc,aa,ac,rfl,ar,a4,aw⟩:=ht.form;have hcl:cs.length≤16:=hc.2;obtain ⟨cb,co,rfl,ao⟩:=CD hC qO;refine Er func133 rfl ntmps133 (Jo rfl) ?_;have E:Chg AZ w0 w0:=Chg.refl _ _;refine Y (BM (v:=(.agg (R6 x sa sc aa ac))) (c:=(R6 x sa sc aa ac)) qD rfl rfl ?_);intro bb wb Nb;have Fb:=Nb.ge E;have Ob_bt:=Nb.lt hT;replace hT:=Nb.keep hT;replace E:=E.ext Nb.ext;have Bb:=Nb.blk;refine BO (c:=#[(I6 0),(.slice none 0 0),(.slice none 0 0)]) qD CU rfl ?_;intro br wr Nr;have Fr:=Nr.ge E;have Or_bt:=Nr.lt hT;have Or_bb:=Nr.lt Bb;replace hT:=Nr.keep hT;replace Bb:=Nr.keep Bb;replace E:=E.ext Nr.ext;have Br:=Nr.blk;refine AA (Y (qM _ rfl (qV (DR rfl) (qF bt 0 0 rfl underlying135 rfl Hy rfl (qV (AD rfl DE (hT.cell rfl)) (qV (AH underlying49 rfl) (qA _ rfl (AA (AE (Y (qF bb 0 0 rfl underlying48 rfl Ab rfl (qV (AD rfl Aa (Bb.cell rfl)) (AA (AM (Y (qV (As rfl rfl) (qA _ rfl (AA ?_))))))))))))))))));have bh:(decide ((x.kind:Int)=1))=false:=decide_eq_false qO;refine AW (Aw bh) (Y (qV (As rfl rfl) (qA _ rfl (AA ?_))));have bi:(decide ((x.kind:Int)=2))=true:=decide_eq_true hk;refine A4 (Aw bi) (Y (qM _ rfl (E8 (n:=cs.length) (z:=(I6 0)) (bytes:=8) qD underlying22 Ab GO CW rfl rfl rfl qO qO ?_)));intro bo wo No;have Fo:=No.ge E;have Oo_bt:=No.lt hT;have Oo_bb:=No.lt Bb;have Oo_br:=No.lt Br;replace hT:=No.keep hT;replace Bb:=No.keep Bb;replace Br:=No.keep Br;replace E:=E.ext No.ext;have Bo:=No.blk;refine qA _ rfl (AA (AE (Y (qM _ rfl (qV (DR rfl) (qF bt 0 0 rfl underlying135 rfl Hy rfl (qV (AD rfl DE (hT.cell rfl)) (qV (AH underlying49 rfl) (qM _ rfl (AA (AM ?_)))))))))));have Bo:Az (wo) bo ((List.replicate cs.length (0:Int)).map (Value.int .i64)).toArray 3:=by rw[List.map_replicate];exact Bo
  refine Am (fun nn_ σ W3=>∃(i:Nat) (ad:List Int),(∃jj_,σ=BQ jj_ [(3,(P6 bb 0)),(4,(P6 br 0)),(5,(I6 (cs.length:Int))),(6,(.slice (some ⟨bo,0,none⟩) cs.length cs.length)),(37,(.slice (some ⟨cb,co,none⟩) cs.length cc)),(38,(I6 (cs.length:Int))),(39,(I6 (i:Int)))])∧Chg AZ w0 W3∧Az W3 bt #[(.slice (some ⟨cb,co,none⟩) cs.length cc)] 135∧Az W3 bb (R6 x sa sc aa ac) 48∧Az W3 br #[(I6 0),(.slice none 0 0),(.slice none 0 0)] 52∧Az W3 bo ((ad.map (Value.int .i64)).toArray) 3∧(i≤cs.length)∧(ad.length=cs.length)∧(∀j,j<i→ad[j]?=(setRow cs x.set)[j]?)∧nn_=cs.length - i) (n:=cs.length - 0) ?_ ?_
  · exact ⟨0,List.replicate cs.length 0,Af.out ⟨rfl,rfl,rfl,rfl,rfl,rfl,rfl,trivial⟩,E,hT,Bb,Br,Bo,Nat.zero_le _,qP,(fun j h=>absurd h qO),rfl⟩
  · clear E hT Bb Br Bo;rintro _ _ W3 ⟨i,ad,⟨j3,rfl⟩,E,hT,Bb,Br,Bo,hi,al,aq,rfl⟩;refine Y (qV (Av rfl rfl) (AA (AE (qC rfl (fun ax=>?_) (fun ax=>?_)))))
    · obtain ⟨l,hl⟩:=AL (l:=cs) (i:=i) qO;obtain ⟨la,lc,af,a3⟩:=ao i l hl;have ah:=hne l (List.mem_of_getElem? hl);obtain ⟨lb,lo,rfl,a0⟩:=BH a3 (List.length_pos_iff.2 ah);have hll:=List.length_pos_iff.2 ah;obtain ⟨s0,ai⟩:=AL (l:=l) (i:=0) qO;have a7:s0.1=BK l:=by cases l with|nil=>cases ai|cons a b=>simp at ai;rw[←ai];rfl
      refine AK (AB (AE (AM (Y (qM _ rfl (qV (AC (b:=cb) (o:=co) (len:=cs.length) (cap:=cc) (i:=i) (o':=co+i) rfl rfl rfl underlying49 BW qO qO) (qV (AD rfl CC (E.cell (fun f=>f) af)) (qA _ rfl (qA _ rfl (AA ?_))))))))));have a9:w0.heap.size≤W3.heap.size:=E.size;have an:bt<W3.heap.size:=hT.lt;have am:bb<W3.heap.size:=Bb.lt;have ak:br<W3.heap.size:=Br.lt;have aj:bo<W3.heap.size:=Bo.lt;refine AE ?_;obtain ⟨bp,ab⟩:∃Fs:List Fact,Fs=[.eq (.slice (some ⟨bo,0,none⟩) cs.length cs.length),.eq (I6 (i:Int)),.eq (P6 bb 1),.eq (.slice sa x.set.length sc),.eq (.slice (some ⟨lb,lo,none⟩) l.length lc),.eq (.pointer (some ⟨lb,lo+0*2,none⟩)),.eq (.pointer (some ⟨lb,lo+0*2,none⟩)),.eq (I6 (BK l)),.eq (.bool (BY x.set (BK l))),.eq (I6 (if BY x.set (BK l)=true then 0 else -1)),.eq undef,.eq undef]:=⟨_,rfl⟩;refine U' [true,true,true,true,true,true,true,true,true,true,false,false] [10,11] [44,45,46,47,48,49,50,51,52,53,209,210] [[],[],[],[2],[],[4],[5],[6],[3,7],[8],[],[]] bp ab mixed qK qK qK qK ?_ ?_
      · intro wd X0;refine DagStepsP.cons (fun s' w' X U H=>Or.inl ⟨?_,?_⟩) ?_
        · exact AQ rfl
        · exact A1 (Ah (U 6 rfl)) (Ao.refl _) rfl
        refine DagStepsP.cons (fun s' w' X U H=>Or.inl ⟨?_,?_⟩) ?_
        · exact AQ rfl
        · exact A1 (Ah (U 7 rfl)) (Ao.refl _) rfl
        refine DagStepsP.cons (fun s' w' X U H=>Or.inl ⟨?_,?_⟩) ?_
        · exact AQ rfl
        · exact A1 (AN (U 3 rfl) underlying48 rfl BW rfl) (Ao.refl _) rfl
        refine DagStepsP.cons (fun s' w' X U H=>Or.inl ⟨?_,?_⟩) ?_
        · exact AQ rfl
        · have bc:s' 46=(.pointer (some ⟨bb,1,none⟩)):=H 2 rfl 46 (.eq (.pointer (some ⟨bb,1,none⟩))) rfl (by rw[ab];rfl);exact A1 (AD bc CC (((X0.trans X).keep Bb).cell rfl)) (Ao.refl _) rfl
        refine DagStepsP.cons (fun s' w' X U H=>Or.inl ⟨?_,?_⟩) ?_
        · exact AQ rfl
        · exact A1 (Ah (U 8 rfl)) (Ao.refl _) rfl
        refine DagStepsP.cons (fun s' w' X U H=>Or.inl ⟨?_,?_⟩) ?_
        · exact AQ rfl
        · have bj:s' 48=(.slice (some ⟨lb,lo,none⟩) l.length lc):=H 4 rfl 48 (.eq (.slice (some ⟨lb,lo,none⟩) l.length lc)) rfl (by rw[ab];rfl);exact A1 (AC (i:=0) bj rfl rfl underlying37 BA qO qO) (Ao.refl _) rfl
        refine DagStepsP.cons (fun s' w' X U H=>Or.inl ⟨?_,?_⟩) ?_
        · exact AQ rfl
        · have a2:s' 49=(.pointer (some ⟨lb,lo+0*2,none⟩)):=H 5 rfl 49 (.eq (.pointer (some ⟨lb,lo+0*2,none⟩))) rfl (by rw[ab];rfl);exact A1 (AN a2 underlying74 rfl Ab rfl) (Ao.refl _) rfl
        refine DagStepsP.cons (fun s' w' X U H=>Or.inl ⟨?_,?_⟩) ?_
        · exact AQ rfl
        · have bd:s' 50=(.pointer (some ⟨lb,lo+0*2,none⟩)):=H 6 rfl 50 (.eq (.pointer (some ⟨lb,lo+0*2,none⟩))) rfl (by rw[ab];rfl);exact A1 (AD bd Aa ((by have h9:=((a0 0 s0 ai).ext (Ao.trans E (X0.trans X))).at0;rw[a7] at h9;exact h9))) (Ao.refl _) rfl
        refine DagStepsP.cons (fun s' w' X U H=>Or.inl ⟨?_,?_⟩) ?_
        · exact AQ rfl
        · have ba:s' 47=(.slice sa x.set.length sc):=H 3 rfl 47 (.eq (.slice sa x.set.length sc)) rfl (by rw[ab];rfl);have a5:s' 51=(.int .i64 (BK l)):=H 7 rfl 51 (.eq (.int .i64 (BK l))) rfl (by rw[ab];rfl);exact Dt (AT func30 kQ kQ (JD ba a5)) ((XB _ _ x.set (BK l) (BL.ext ar (Ao.trans E (X0.trans X)))))
        refine DagStepsP.cons (fun s' w' X U H=>Or.inl ⟨?_,?_⟩) ?_
        · exact AQ rfl
        · have a1:s' 52=(.bool (BY x.set (BK l))):=H 8 rfl 52 (.eq (.bool (BY x.set (BK l)))) rfl (by rw[ab];rfl);exact Dt (AT func161 kQ kQ (LL a1)) ((HJ (BY x.set (BK l)) _))
        refine DagStepsP.tail (DagStepsP.tail ?_);exact DagStepsP.nil
      · intro s' w5 X5 U H;obtain ⟨j5,rfl⟩:=Af.out (σ:=s') (l:=[(3,(.pointer (some ⟨bb,0,none⟩))),(4,(.pointer (some ⟨br,0,none⟩))),(5,(.int .i64 ((cs.length:Nat):Int))),(6,(.slice (some ⟨bo,0,none⟩) cs.length cs.length)),(7,(.int .i64 ((i:Nat):Int))),(37,(.slice (some ⟨cb,co,none⟩) cs.length cc)),(38,(.int .i64 ((cs.length:Nat):Int))),(39,(.int .i64 ((i:Nat):Int))),(44,(.slice (some ⟨bo,0,none⟩) cs.length cs.length)),(45,(.int .i64 ((i:Nat):Int))),(53,(.int .i64 (if BY x.set (BK l)=true then 0 else -1)))]) ⟨U 3 rfl,U 4 rfl,U 5 rfl,U 6 rfl,U 7 rfl,U 37 rfl,U 38 rfl,U 39 rfl,(show s' 44=(.slice (some ⟨bo,0,none⟩) cs.length cs.length) from H 0 rfl 44 (.eq (.slice (some ⟨bo,0,none⟩) cs.length cs.length)) rfl (by rw[ab];rfl)),(show s' 45=(.int .i64 ((i:Nat):Int)) from H 1 rfl 45 (.eq (.int .i64 ((i:Nat):Int))) rfl (by rw[ab];rfl)),(show s' 53=(.int .i64 (if BY x.set (BK l)=true then 0 else -1)) from H 9 rfl 53 (.eq (.int .i64 (if BY x.set (BK l)=true then 0 else -1))) rfl (by rw[ab];rfl)),trivial⟩;clear U H;replace hT:=X5.keep hT;replace Bb:=X5.keep Bb;replace Br:=X5.keep Br;replace Bo:=X5.keep Bo;replace E:=E.ext X5;refine qV (AC (b:=bo) (o:=0) (len:=cs.length) (cap:=cs.length) (i:=i) (o':=0+i) rfl rfl rfl underlying22 Ab qO qO) (BB (b:=bo) (o:=0+i) (c':=((ad.set i (if BY x.set (BK l)=true then 0 else -1)).map (Value.int .i64)).toArray) (v:=(I6 (if BY x.set (BK l)=true then 0 else -1))) rfl rfl rfl Ab Bo (by simp;omega) (C7 _) ?_);intro w6 S6;replace hT:=S6.keep qO hT;replace Bb:=S6.keep qO Bb;replace Br:=S6.keep qO Br;replace E:=S6.step E qQ;replace Bo:=S6.blk;refine AA (AB (Y (qM _ rfl (qM _ rfl (qV (AC (b:=bo) (o:=0) (len:=cs.length) (cap:=cs.length) (i:=i) (o':=0+i) rfl rfl rfl underlying22 Ab qO qO) (qV (AD (v:=(I6 (if BY x.set (BK l)=true then 0 else -1))) rfl Aa (Bo.cell (by simp[List.getElem?_set_self,al,AI hl]))) ?_))))));refine qV (As rfl rfl) (AA (qC rfl (fun hq=>?_) (fun hq=>?_)))
        · refine AG (qM _ rfl (qM _ rfl (qV (AC (b:=bo) (o:=0) (len:=cs.length) (cap:=cs.length) (i:=i) (o':=0+i) rfl rfl rfl underlying22 Ab qO qO) (BB (b:=bo) (o:=0+i) (c':=(((ad.set i (if BY x.set (BK l)=true then 0 else -1)).set i 1).map (Value.int .i64)).toArray) (v:=(I6 1)) rfl rfl rfl Ab Bo (by simp;omega) (C7 _) ?_))));intro w8 S8;replace hT:=S8.keep qO hT;replace Bb:=S8.keep qO Bb;replace Br:=S8.keep qO Br;replace E:=S8.step E qQ;replace Bo:=S8.blk;have hb:BY x.set (BK l)=true:=by cases e:BY x.set (BK l);rw[e] at hq;simp at hq;rfl
          obtain ⟨h5,h6⟩:=NS (row':=(ad.set i (if BY x.set (BK l)=true then 0 else -1)).set i 1) al hl aq (by rw[hb,List.set_set];rfl);refine AA (AP (AB (AG (qV (Aq rfl rfl (A2 qO)) (qM _ rfl (AA (AB ?_)))))));exact ⟨cs.length - (i+1),qO,i+1,(ad.set i (if BY x.set (BK l)=true then 0 else -1)).set i 1,Af.out ⟨rfl,rfl,rfl,rfl,rfl,rfl,rfl,trivial⟩,E,hT,Bb,Br,Bo,qO,h5,h6,rfl⟩
        · have hb:BY x.set (BK l)=false:=by cases e:BY x.set (BK l);rfl;rw[e] at hq;simp at hq
          obtain ⟨h5,h6⟩:=NS (row':=ad.set i (if BY x.set (BK l)=true then 0 else -1)) al hl aq (by rw[hb];rfl);refine AK (AP (AB (AG (qV (Aq rfl rfl (A2 qO)) (qM _ rfl (AA (AB ?_)))))));exact ⟨cs.length - (i+1),qO,i+1,ad.set i (if BY x.set (BK l)=true then 0 else -1),Af.out ⟨rfl,rfl,rfl,rfl,rfl,rfl,rfl,trivial⟩,E,hT,Bb,Br,Bo,qO,h5,h6,rfl⟩
    · have hii:i=cs.length:=qO
      have au:=O5 al (fun j hj=>aq j qO);subst au;refine Ak (AR (AR (Ae (AB (Y (Ad (ps:=[(0,(I6 (-1))),(1,(I6 0))]) (c:=#[(I6 (-1)),(I6 0)]) qD rfl underlying22 Ab CW qD qD qK ?_))))));intro be we Ne;have Fe:=Ne.ge E;have Oe_bt:=Ne.lt hT;have Oe_bb:=Ne.lt Bb;have Oe_br:=Ne.lt Br;have Oe_bo:=Ne.lt Bo;replace hT:=Ne.keep hT;replace Bb:=Ne.keep Bb;replace Br:=Ne.keep Br;replace Bo:=Ne.keep Bo;replace E:=E.ext Ne.ext;have Be:=Ne.blk;refine qM _ rfl (Ad (ps:=[(0,(I6 (-1)))]) (c:=#[(I6 (-1))]) qD rfl underlying22 Ab CW qD qD qK ?_);intro bm wm Nm;have Fm:=Nm.ge E;have Om_bt:=Nm.lt hT;have Om_bb:=Nm.lt Bb;have Om_br:=Nm.lt Br;have Om_bo:=Nm.lt Bo;have Om_be:=Nm.lt Be;replace hT:=Nm.keep hT;replace Bb:=Nm.keep Bb;replace Br:=Nm.keep Br;replace Bo:=Nm.keep Bo;replace Be:=Nm.keep Be;replace E:=E.ext Nm.ext;have Bm:=Nm.blk;refine qM _ rfl ?_;obtain ⟨n9,ag⟩:∃n9,n9=(wm).heap.size:=⟨_,rfl⟩;have ax:br<n9∧w0.heap.size≤n9∧bo<n9∧be<n9:=⟨by rw[ag];exact Br.lt,by rw[ag];exact E.size,by rw[ag];exact Bo.lt,by rw[ag];exact Be.lt⟩;refine qE rfl (AT func163 kQ kQ rfl) (HC _ bm 1 cs.length (-1) _ Bm hc.1 qO) ?_;rintro _ w9 ⟨⟨g,rfl,a8,hG⟩,X9⟩;replace hT:=X9.keep hT;replace Bb:=X9.keep Bb;replace Br:=X9.keep Br;replace Bo:=X9.keep Bo;replace Be:=X9.keep Be;replace Bm:=X9.keep Bm;replace E:=E.ext X9;have hgg:n9≤g:=by rw[ag];exact a8
      refine Ad (ps:=[(0,(.slice (some ⟨bo,0,none⟩) cs.length cs.length)),(1,(.slice (some ⟨g,0,none⟩) cs.length cs.length))]) (c:=#[(.slice (some ⟨bo,0,none⟩) cs.length cs.length),(.slice (some ⟨g,0,none⟩) cs.length cs.length)]) qD rfl underlying50 BG EG qD qD qK ?_;intro bn wn Nn;have Fn:=Nn.ge E;have On_bt:=Nn.lt hT;have On_bb:=Nn.lt Bb;have On_br:=Nn.lt Br;have On_bo:=Nn.lt Bo;have On_be:=Nn.lt Be;have On_bm:=Nn.lt Bm;have On_g:=Nn.lt hG;replace hT:=Nn.keep hT;replace Bb:=Nn.keep Bb;replace Br:=Nn.keep Br;replace Bo:=Nn.keep Bo;replace Be:=Nn.keep Be;replace Bm:=Nn.keep Bm;replace hG:=Nn.keep hG;replace E:=E.ext Nn.ext;have Bn:=Nn.blk;refine qV (BU (ps:=[(1,(.slice (some ⟨be,0,none⟩) 2 2)),(2,(.slice (some ⟨bn,0,none⟩) 2 2))]) (v:=(.agg #[(I6 0),(.slice (some ⟨be,0,none⟩) 2 2),(.slice (some ⟨bn,0,none⟩) 2 2)])) rfl qK) ?_;obtain ⟨n8,ap⟩:∃n8,n8=(wn).heap.size:=⟨_,rfl⟩;have a6:br<n8∧w0.heap.size≤n8:=⟨by rw[ap];exact Br.lt,by rw[ap];exact E.size⟩;have ay:(setRow cs x.set).length=cs.length:=by simp[setRow]
      refine qE rfl (AT func162 kQ kQ rfl) ((HM _ 2 cs.length (Gp cs x.set) _ (OY cs x.set).ok (JQ (S:=fun _=>True) (d:=Gp cs x.set) (vs:=[.slice (some ⟨bo,0,none⟩) cs.length cs.length,.slice (some ⟨g,0,none⟩) cs.length cs.length]) Be Bn trivial trivial rfl ⟨(by decide:2≤1000000),(by decide:2≤1000000)⟩ (fun i u l hu hi=>by
        match i with
        | 0=>simp only[Gp,List.getElem?_cons_zero,Option.some.injEq] at hu hi;subst hu;subst hi;exact ⟨bo,_,by rw[ay],trivial,by rw[ay];omega,Bo⟩
        | 1=>simp only[Gp,List.getElem?_cons_zero,List.getElem?_cons_succ,Option.some.injEq] at hu hi;subst hu;subst hi;exact ⟨g,_,by rw[List.length_replicate],trivial,by rw[List.length_replicate];omega,hG⟩
        | i+2=>simp[Gp] at hi)).at' ⟨qD,hc⟩ (OY cs x.set).acc).mono (R':=fun r w'=>VF cs.length (beh (Gp cs x.set) 0) 2 n8 r w'∧Ao _ w') (fun r w' h=>by rw[ap];exact h)) ?_
      rintro _ bf ⟨⟨C,ca,av,ma,mc,az,hCl,bg,rfl,bk⟩,ae⟩;replace hT:=ae.keep hT;replace Bb:=ae.keep Bb;replace Br:=ae.keep Br;replace Bo:=ae.keep Bo;replace Be:=ae.keep Be;replace Bm:=ae.keep Bm;replace hG:=ae.keep hG;replace Bn:=ae.keep Bn;replace E:=E.ext ae;have hD:By (fun b=>n8≤b) bf C _:=(By.of_new bk).mono fun b hb=>by have:=hb.1;omega
      refine Al (b:=br) (o:=0) (c':=#[(I6 C.start),(.slice ca C.accept.length av),(.slice ma C.next.length mc)]) rfl rfl qS Ap rfl Br qL rfl ?_;intro w9 S9;replace hD:=hD.put S9.chg fun y h1 h=>by have h':y=br:=h;omega
      replace hT:=S9.keep qO hT;replace Bb:=S9.keep qO Bb;replace Bo:=S9.keep qO Bo;replace Be:=S9.keep qO Be;replace Bm:=S9.keep qO Bm;replace hG:=S9.keep qO hG;replace Bn:=S9.keep qO Bn;replace E:=S9.step E qQ;replace Br:=S9.blk;refine AA (AS (Ag (AO (D7 (Cp results133 (vs:=[(.int .i64 C.start),(.slice ca C.accept.length av),(.slice ma C.next.length mc)]) (b:=br) rfl BC Ap rfl (Br.cells rfl) ?_)))));exact ⟨⟨_,by rw[VL hk];exact Ho az,(Hg az qO bg),_,_,_,_,rfl,(By.chg hD (Chg.refl AZ _) fun _ _ _ f=>f).mono fun b hb=>⟨qO,hb.2⟩⟩,E⟩
end Go.Proofs
namespace Go.Proofs
open Go Go.Eng Go.Sort
set_option maxRecDepth 100000
def VS (d:Dfa) (ea:Option Addr) (ec:Nat) (na:Option Addr) (nc:Nat):List Value:=[.int .i64 d.start,.slice ea d.accept.length ec,.slice na d.next.length nc]
def Ec (T:Nat->Prop) (w:World) (ds:List Dfa) (rows:List (List Value)):Prop:=rows.length=ds.length∧(∀r∈rows,r.length=3)∧∀(i:Nat) (d:Dfa),ds[i]?=some d->∃ea ec na nc,rows[i]?=some (VS d ea ec na nc)∧By T w d (VS d ea ec na nc)
theorem Ec.nil {T:Nat->Prop} {w:World}:Ec T w [] []:=⟨O,(λr h=>by cases h),(λi d h=>by simp at h)⟩
theorem MS {T A:Nat->Prop} {w w':World} (h:∀y,T y->A y∧y<w.heap.size) (x:Ao w w'):∀y,T y->A y∧y<w'.heap.size:=λy a=>⟨(h y a).1,Nat.lt_of_lt_of_le (h y a).2 x.size⟩
theorem Ec.chg {T M:Nat->Prop} {w w':World} {ds:List Dfa} {rows:List (List Value)} (h:Ec T w ds rows) (c:Chg M w w') (f:∀b,T b->¬M b):Ec T w' ds rows:=⟨h.1,h.2.1,λi d hd=>by
 obtain ⟨j,l,e,g,k,a⟩:=h.2.2 i d hd;exact ⟨j,l,e,g,k,a.put c f⟩⟩
theorem Ec.ext {T:Nat->Prop} {w w':World} {ds:List Dfa} {rows:List (List Value)} (h:Ec T w ds rows) (c:Ao w w'):Ec T w' ds rows:=h.chg c λ_ _ f=>f
theorem Ec.mono {T a:Nat->Prop} {w:World} {ds:List Dfa} {rows:List (List Value)} (hs:∀b,T b->a b) (h:Ec T w ds rows):Ec a w ds rows:=⟨h.1,h.2.1,λi d hd=>by
 obtain ⟨g,k,e,f,j,c⟩:=h.2.2 i d hd;exact ⟨g,k,e,f,j,c.mono hs⟩⟩
theorem Ec.snoc {T:Nat->Prop} {w:World} {ds:List Dfa} {rows:List (List Value)} {d:Dfa} {g c:Option Addr} {j f:Nat} (h:Ec T w ds rows) (hd:By T w d (VS d g j c f)):Ec T w (ds++[d]) (rows++[VS d g j c f]):=by
 refine ⟨by simp[h.1],λr b=>?_,λi e a=>?_⟩
 .rcases List.mem_append.1 b with b|b
  .exact h.2.1 r b
  .rw[List.mem_singleton.1 b];rfl
 .rcases Nat.lt_trichotomy i ds.length with hi|hi|hi
  .rw[List.getElem?_append_left hi] at a;obtain ⟨l,n,m,o,p,k⟩:=h.2.2 i e a;exact ⟨l,n,m,o,by rw[List.getElem?_append_left (by rw[h.1];exact hi)];exact p,k⟩
  .subst hi;rw[List.getElem?_append_right (Nat.le_refl _),Nat.sub_self] at a;simp only[List.getElem?_cons_zero,Option.some.injEq] at a;subst a;exact ⟨g,j,c,f,by rw[<-h.1,List.getElem?_append_right (Nat.le_refl _),Nat.sub_self];rfl,hd⟩
  .rw[List.getElem?_eq_none (by simp;omega)] at a;cases a
section
variable {c : Nat} {cs : List (List Sp)} {t : Re} {k : Int} {d D e : Dfa} {ds : List Dfa} {j : Nat}
theorem Wg (a:t.kind=3∨t.kind=4∨t.kind=7) {ds:List Dfa} (h:trL c cs t.args=some (d::ds)):trN c cs t=foldK c t.kind d ds:=by
 rw[Gl,nodeO,if_neg qO,if_neg qO,if_pos a,h];rfl
theorem Rl (a:t.kind=3∨t.kind=4∨t.kind=7) (h:trL c cs t.args=none):trN c cs t=none:=by
 rw[Gl,nodeO,if_neg qO,if_neg qO,if_pos a,h];rfl
theorem VP (a:k=3):opK c k D e=catO c D e:=if_pos a
theorem VO (a:¬k=3):opK c k D e=prsO c (decide (k=7)) D e:=if_neg a
theorem IG (a:ds[j]?=some e) (b:foldK c k d (ds.take j)=some D):foldK c k d (ds.take (j+1))=opK c k D e:=by
 rw[List.take_add_one,a,Option.toList_some,Kq,b];rfl
theorem Kp (a:ds[j]?=some e) (f:foldK c k d (ds.take j)=some D) (b:opK c k D e=none):foldK c k d ds=none:=by
 have h:=IG (k:=k) (c:=c) a f;rw[b] at h;have:=Kr (es:=ds.drop (j+1)) h
 rwa [List.take_append_drop] at this
end
theorem MQ (cs:List (List Sp)) (x:Re) (hc:1≤cs.length∧cs.length≤16) (hN:NodeI x) (hk:x.kind=3∨x.kind=4∨x.kind=7) (hla:x.args.length≤1000000) (hof:∀y∈x.args,Jj cs.length cs y):I0 cs.length cs x:=by
 intro w0 bt ca cc vs ad hC ht;have ht0:=ht;obtain ⟨sa,sc,aa,ac,rfl,c1,cu,a3⟩:=ht.form;have hcl:cs.length≤16:=hc.2;have h2:=hN.two qO;obtain ⟨y,hy⟩:=AL (l:=x.args) (i:=0) qO;obtain ⟨ab,ao,rfl,a6⟩:=Is a3 qO;obtain ⟨us,cv,cb⟩:=a6.get hy;have b1:=cb;obtain ⟨b6,b8,cf,b7,rfl,_,_,_⟩:=cb.form;have cj:x.args.take 1=[]++[y]:=by rw[List.take_add_one,hy];rfl
 have bg:x.kind=3∨x.kind=4∨x.kind=7:=qO
 refine Er func133 rfl ntmps133 (Jo rfl) ?_;have E:Chg AZ w0 w0:=Chg.refl _ _;refine Y (BM (v:=(.agg (R6 x sa sc (some ⟨ab,ao,none⟩) ac))) (c:=(R6 x sa sc (some ⟨ab,ao,none⟩) ac)) qD rfl rfl ?_);intro bb wb Nb;have Fb:=Nb.ge E;have Ob_bt:=Nb.lt ad;replace ad:=Nb.keep ad;replace E:=E.ext Nb.ext;have Bb:=Nb.blk;refine BO (c:=#[(I6 0),(.slice none 0 0),(.slice none 0 0)]) qD CU rfl ?_;intro br wr Nr;have Fr:=Nr.ge E;have Or_bt:=Nr.lt ad;have Or_bb:=Nr.lt Bb;replace ad:=Nr.keep ad;replace Bb:=Nr.keep Bb;replace E:=E.ext Nr.ext;have Br:=Nr.blk;refine AA (Y (qM _ rfl (qV (DR rfl) (qF bt 0 0 rfl underlying135 rfl Hy rfl (qV (AD rfl DE (ad.cell rfl)) (qV (AH underlying49 rfl) (qA _ rfl (AA (AE (Y (qF bb 0 0 rfl underlying48 rfl Ab rfl (qV (AD rfl Aa (Bb.cell rfl)) (AA (AM (Y (qV (As rfl rfl) (qA _ rfl (AA ?_))))))))))))))))));have cp:(decide ((x.kind:Int)=1))=false:=decide_eq_false qO;refine AW (Aw cp) (Y (qV (As rfl rfl) (qA _ rfl (AA ?_))));have cq:(decide ((x.kind:Int)=2))=false:=decide_eq_false qO;refine AW (Aw cq) (GR (fun σ W3=>∃(qk:Bool),(∃jj_,σ=BQ jj_ [(0,(P6 bt 0)),(3,(P6 bb 0)),(4,(P6 br 0)),(5,(I6 (cs.length:Int))),(25,(I6 x.kind)),(72,(.bool qk))])∧Chg AZ w0 W3∧Az W3 bt #[(.slice ca cs.length cc)] 135∧Az W3 bb (R6 x sa sc (some ⟨ab,ao,none⟩) ac) 48∧Az W3 br #[(I6 0),(.slice none 0 0),(.slice none 0 0)] 52∧(qk=true)) ?_ ?_)
 ·skip
  refine Y (qV (As rfl rfl) (qA _ rfl (AA (qC rfl (fun h3=>?_) (fun h3=>?_)))))
  ·refine AK (AB ?_);exact ⟨decide (x.kind=3),Af.out ⟨rfl,rfl,rfl,rfl,rfl,rfl,trivial⟩,E,ad,Bb,Br,decide_eq_true h3⟩
  ·refine Y (qV (As rfl rfl) (qA _ rfl (AA (qC rfl (fun h4=>?_) (fun h4=>?_)))))
   ·refine AK (AB ?_);exact ⟨decide (x.kind=4),Af.out ⟨rfl,rfl,rfl,rfl,rfl,rfl,trivial⟩,E,ad,Bb,Br,decide_eq_true h4⟩
   ·refine AG (qV (As rfl rfl) (qA _ rfl (AA (AB ?_))));exact ⟨decide (x.kind=7),Af.out ⟨rfl,rfl,rfl,rfl,rfl,rfl,trivial⟩,E,ad,Bb,Br,decide_eq_true qO⟩
 ·clear E ad Bb Br;rintro _ W3 ⟨qk,⟨j3,rfl⟩,E,ad,Bb,Br,ci⟩;have cr:(qk)=true:=ci;refine A4 (Aw cr) (Y (qM _ rfl (qF bb 0 2 rfl underlying48 rfl G5 rfl (qV (AD rfl FB (Bb.cell rfl)) (qV (AC (b:=ab) (o:=ao) (len:=x.args.length) (cap:=ac) (i:=0) (o':=ao+0*6) rfl rfl rfl underlying46 BE qO qO) (qV (AU (vs:=[(I6 y.kind),(.slice b6 y.set.length b8),(.slice cf y.args.length b7),(I6 y.mn),(I6 y.mx),(.bool y.neg)]) rfl CI BE rfl (cv.ext E)) ?_))))));obtain ⟨n9,bh⟩:∃n9,n9=(W3).heap.size:=⟨_,rfl⟩;have cz:br<n9∧w0.heap.size≤n9:=⟨by rw[bh];exact Br.lt,by rw[bh];exact E.size⟩;refine Ch rfl rfl qD (AT (vs:=[(P6 bt 0),(.agg (R6 y b6 b8 cf b7))]) func102 kQ kQ rfl) (((hof y (List.mem_of_getElem? hy) _ bt ca cc _ ad (hC.ext E) (BR.ext E y b1)).mono (R':=fun r w'=>(∃d,trO cs.length cs y=some d∧GoodD cs.length d∧d.next.length≤200∧Hu (fun b=>n9≤b) d r w')∧Ao _ w') (fun r w' h=>⟨by obtain ⟨d,h1,h2,h3,h4⟩:=h.1;exact ⟨d,h1,h2,h3,h4.mono fun b hb=>by rw[bh];exact hb.1⟩,h.2⟩) (fun _ h=>h))) (fun w' h=>And.intro rfl ⟨Rl bg (J6 hy h.1),E.ext h.2⟩) ?_;rintro _ w9 ⟨⟨d,hd,gd,hd2,ea,ec,na,nc,rfl,hD⟩,X9⟩;replace ad:=X9.keep ad;replace Bb:=X9.keep Bb;replace Br:=X9.keep Br;replace E:=E.ext X9;have cy:∃m9,m9=w9.heap.size:=⟨_,rfl⟩;obtain ⟨m9,cl⟩:=cy;replace hD:=By.chg hD (Chg.refl AZ _) (fun _ _ _ f=>f);rw[←cl] at hD;refine Au (v:=(.agg #[(I6 d.start),(.slice ea d.accept.length ec),(.slice na d.next.length nc)])) (c:=#[(I6 d.start),(.slice ea d.accept.length ec),(.slice na d.next.length nc)]) (n:=3) qD CU rfl Ap rfl rfl rfl qS ?_;intro ba wa Na;have Fa:=Na.ge E;have Oa_bt:=Na.lt ad;have Oa_bb:=Na.lt Bb;have Oa_br:=Na.lt Br;replace ad:=Na.keep ad;replace Bb:=Na.keep Bb;replace Br:=Na.keep Br;replace hD:=hD.ext Na.ext;replace E:=E.ext Na.ext;have Ba:=Na.blk;refine AA (Y (qA (.slice none 0 0) rfl (AA (AE (Y (qF bb 0 2 rfl underlying48 rfl G5 rfl (qV (AD (v:=(.slice (some ⟨ab,ao,none⟩) x.args.length ac)) rfl FB (Bb.cell rfl)) ?_)))))));obtain ⟨sl,bc⟩:∃a':Option Addr,(if ac=1 then (some ⟨ab,ao,none⟩) else Option.map (fun q:Addr=>q.add (1*6)) (some ⟨ab,ao,none⟩))=a':=⟨_,rfl⟩;refine qV (Lj (a:=(some ⟨ab,ao,none⟩)) (len:=x.args.length) (cap:=ac) (lo:=1) (l:=1) (n':=(x.args.length - 1)) (c':=(ac - 1)) underlying46 BE rfl rfl qO qO bc qO qO) ?_;rw[if_neg qO] at bc;simp only[Option.map_some,Addr.add_lit] at bc;subst bc;obtain ⟨n1,az⟩:∃n1,n1=(wa).heap.size:=⟨_,rfl⟩;have hob:br<n1∧ba<n1∧w0.heap.size≤n1∧br<n9∧m9≤ba∧w0.heap.size≤ba∧w0.heap.size≤br∧br<ba∧bb<n1∧bt<n1:=⟨by rw[az];exact Br.lt,by rw[az];exact Ba.lt,by rw[az];exact E.size,cz.1,by have:=Na.eq;omega,qO,qO,by have:=Na.eq;have:=X9.size;omega,by rw[az];exact Bb.lt,by rw[az];exact ad.lt⟩;have ch:By (fun b=>w0.heap.size≤b∧b≠ba∧b≠br∧b<n1) (wa) d [.int .i64 d.start,.slice ea d.accept.length ec,.slice na d.next.length nc]:=hD.mono fun b hb=>⟨by have:=hb.1;omega,by have:=hb.2;omega,by have:=hb.1;omega,by have:=hb.2;omega⟩;refine qV (AH underlying46 rfl) (qM _ rfl (AA (AM (Am (fun nn_ σ W7=>∃(i:Nat) (la:Option Addr) (lc:Nat) (ag:List (List Value)) (ds:List Dfa) (T:Nat→Prop),(∃jj_,σ=BQ jj_ [(0,(P6 bt 0)),(3,(P6 bb 0)),(4,(P6 br 0)),(9,(P6 ba 0)),(84,(.slice (some ⟨ab,ao+1*6,none⟩) (x.args.length - 1) (ac - 1))),(85,(I6 ((x.args.length - 1:Nat):Int))),(86,(I6 (i:Int))),(10,(.slice la i lc))])∧Chg AZ w0 W7∧Az W7 bt #[(.slice ca cs.length cc)] 135∧Az W7 bb (R6 x sa sc (some ⟨ab,ao,none⟩) ac) 48∧Az W7 br #[(I6 0),(.slice none 0 0),(.slice none 0 0)] 52∧Az W7 ba #[(I6 d.start),(.slice ea d.accept.length ec),(.slice na d.next.length nc)] 52∧(i≤x.args.length - 1)∧(W7.ownsRow n1 52 3 (.slice la i lc) i ag.flatten)∧(Ec T W7 ds ag)∧(ds.length=i)∧(∀e∈ds,GoodD cs.length e)∧(trL cs.length cs (x.args.take (i+1))=some (d::ds))∧(By (fun b=>w0.heap.size≤b∧b≠ba∧b≠br∧b<n1) W7 d [.int .i64 d.start,.slice ea d.accept.length ec,.slice na d.next.length nc])∧(n1≤W7.heap.size)∧(∀y,T y→n1≤y∧y<W7.heap.size)∧(∀b,(Value.slice la i lc).ownBlock=some b→¬T b)∧nn_=x.args.length - 1 - i) (n:=x.args.length - 1 - 0) ?_ ?_))))
  ·exact ⟨0,none,0,[],[],(fun _=>False),Af.out ⟨rfl,rfl,rfl,rfl,rfl,rfl,rfl,rfl,trivial⟩,E,ad,Bb,Br,Ba,Nat.zero_le _,World.ownsRow_nil _ _ _ _,Ec.nil,rfl,(fun e h=>by cases h),(by rw[cj];exact J5 (ts:=[]) (ds:=[]) hd (by simp[trL])),ch,(by rw[az];exact Nat.le_refl _),(fun y h=>h.elim),(fun b _ h=>h),rfl⟩
  ·clear E ad Bb Br Ba;rintro _ _ W7 ⟨i,la,lc,ag,ds,T,⟨j7,rfl⟩,E,ad,Bb,Br,Ba,hi,hO,hR,bm,hG,bk,hD,am,hT,bn,rfl⟩;refine Y (qV (Av rfl rfl) (AA (AE (qC rfl (fun bx=>?_) (fun bx=>?_)))))
   ·obtain ⟨z,hz⟩:=AL (l:=x.args) (i:=i+1) qO;obtain ⟨uz,ck,ce⟩:=a6.get hz;have bj:=ce;obtain ⟨a9,a8,be,bf,rfl,_,_,_⟩:=ce.form;refine AK (AB (AE (AM (Y (qV (AC (b:=ab) (o:=ao+1*6) (len:=x.args.length - 1) (cap:=ac - 1) (i:=i) (o':=ao+1*6+i*6) rfl rfl rfl underlying46 BE qO qO) (qV (AU (vs:=[(I6 z.kind),(.slice a9 z.set.length a8),(.slice be z.args.length bf),(I6 z.mn),(I6 z.mx),(.bool z.neg)]) rfl CI BE rfl ((by have h9:=ck.ext E;rwa [show ao+(i+1)*6=ao+1*6+i*6 by omega] at h9))) (Au (v:=(.agg (R6 z a9 a8 be bf))) (c:=(R6 z a9 a8 be bf)) (n:=6) qD FP rfl BE rfl rfl rfl qS ?_)))))));intro bu wu Nu;have Fu:=Nu.ge E;have Ou_bt:=Nu.lt ad;have Ou_bb:=Nu.lt Bb;have Ou_br:=Nu.lt Br;have Ou_ba:=Nu.lt Ba;replace ad:=Nu.keep ad;replace Bb:=Nu.keep Bb;replace Br:=Nu.keep Br;replace Ba:=Nu.keep Ba;replace hO:=Aj hO Nu.ext;replace hR:=hR.ext Nu.ext;replace am:=Nat.le_trans am Nu.ext.size;replace hD:=hD.ext Nu.ext;replace hT:=MS hT Nu.ext;replace E:=E.ext Nu.ext;have Bu:=Nu.blk;refine AA (AG (qM _ rfl (qM _ rfl (qV (AU (vs:=[(I6 z.kind),(.slice a9 z.set.length a8),(.slice be z.args.length bf),(I6 z.mn),(I6 z.mx),(.bool z.neg)]) rfl CI BE rfl (Bu.cells rfl)) ?_))));obtain ⟨n2,bw⟩:∃n2,n2=(wu).heap.size:=⟨_,rfl⟩;have c0:n1≤n2:=by rw[bw];exact am
    have b5:∀b,(Value.slice la i lc).ownBlock=some b→n1≤b∧b<n2:=fun b hb=>⟨(hO.lt b hb).1,by rw[bw];exact (hO.lt b hb).2⟩;refine Ch rfl rfl qD (AT func102 kQ kQ rfl) (((hof z (List.mem_of_getElem? hz) _ bt ca cc _ ad (hC.ext E) (BR.ext E z bj)).mono (R':=fun r w'=>(∃d,trO cs.length cs z=some d∧GoodD cs.length d∧d.next.length≤200∧Hu (fun b=>n2≤b) d r w')∧Ao _ w') (fun r w' h=>⟨by obtain ⟨d,h1,h2,h3,h4⟩:=h.1;exact ⟨d,h1,h2,h3,h4.mono fun b hb=>by rw[bw];exact hb.1⟩,h.2⟩) (fun _ h=>h))) (fun w' h=>And.intro rfl ⟨Rl bg (J6 hz h.1),E.ext h.2⟩) ?_;rintro _ bi ⟨⟨e,he,ge,he2,fa,fc,ga,gc,rfl,a4⟩,aj⟩;replace ad:=aj.keep ad;replace Bb:=aj.keep Bb;replace Br:=aj.keep Br;replace Ba:=aj.keep Ba;replace Bu:=aj.keep Bu;replace hO:=Aj hO aj;replace hR:=hR.ext aj;replace am:=Nat.le_trans am aj.size;replace hD:=hD.ext aj;replace hT:=MS hT aj;replace E:=E.ext aj;replace a4:=By.chg a4 (Chg.refl AZ _) (fun _ _ _ f=>f);refine Ad (ps:=[(0,(.agg #[(I6 e.start),(.slice fa e.accept.length fc),(.slice ga e.next.length gc)]))]) (c:=#[(I6 e.start),(.slice fa e.accept.length fc),(.slice ga e.next.length gc)]) qD rfl underlying185 Ap CU qD qD qK ?_;intro bz wz Nz;have Fz:=Nz.ge E;have Oz_bt:=Nz.lt ad;have Oz_bb:=Nz.lt Bb;have Oz_br:=Nz.lt Br;have Oz_ba:=Nz.lt Ba;have Oz_bu:=Nz.lt Bu;replace ad:=Nz.keep ad;replace Bb:=Nz.keep Bb;replace Br:=Nz.keep Br;replace Ba:=Nz.keep Ba;replace Bu:=Nz.keep Bu;replace hO:=Aj hO Nz.ext;replace hR:=hR.ext Nz.ext;replace am:=Nat.le_trans am Nz.ext.size;replace hD:=hD.ext Nz.ext;replace hT:=MS hT Nz.ext;replace a4:=a4.ext Nz.ext;replace E:=E.ext Nz.ext;have Bz:=Nz.blk;have hQ9:True:=trivial;refine BT (base:=n1) (n:=i) (m:=1) (xs:=ag.flatten) (news:=[(I6 e.start),(.slice fa e.accept.length fc),(.slice ga e.next.length gc)]) (size:=3) (bytes:=56) (v:=(.slice la i lc)) qD underlying185 Ap XT CU rfl qD rfl hO rfl (rfl) (Bz.cells rfl) qS (by unfold maxLen;omega) qO (am) ?_;intro v9 bd cd ak ct;replace ad:=ak.keep (fun h=>by have:=(hO.lt _ h).1;omega) ad;replace Bb:=ak.keep (fun h=>by have:=(hO.lt _ h).1;omega) Bb;replace Br:=ak.keep (fun h=>by have:=(hO.lt _ h).1;omega) Br;replace Ba:=ak.keep (fun h=>by have:=(hO.lt _ h).1;omega) Ba;replace E:=E.step ak (fun x hx h=>absurd (hO.lt x h).1 qO);obtain ⟨cm,cg,rfl⟩:=A9 cd;have hz1:=Nz.ext.size;have hz2:=ak.size;have hz3:=aj.size;have a7:∀y,(T y∨(n2≤y∧y<bi.heap.size))→n1≤y∧y<(bd).heap.size∧(Value.slice la i lc).ownBlock≠some y:=by
     intro y hy;rcases hy with hy|⟨hy,hy2⟩
     ·exact ⟨(hT y hy).1,by have:=(hT y hy).2;omega,fun hb=>bn y hb hy⟩
     ·exact ⟨qO,qO,fun hb=>by have:=b5 y hb;omega⟩
    have cx:Ec (fun y=>T y∨(n2≤y∧y<bi.heap.size)) (bd) (ds++[e]) (ag++[VS e fa fc ga gc]):=((hR.chg ak fun y hy hm=>bn y hm hy).mono fun y hy=>.inl hy).snoc ((a4.put ak fun y hy hm=>(a7 y (.inr hy)).2.2 hm).mono fun y hy=>.inr hy);refine qA _ rfl (AA (AP (AB (AG (qV (Aq rfl rfl (A2 qO)) (qM _ rfl (AA (AB ?_))))))));exact ⟨x.args.length - 1 - (i+1),qO,i+1,cm,cg,ag++[VS e fa fc ga gc],ds++[e],(fun y=>T y∨(n2≤y∧y<bi.heap.size)),Af.out ⟨rfl,rfl,rfl,rfl,rfl,rfl,rfl,rfl,trivial⟩,E,ad,Bb,Br,Ba,qO,(by simpa[VS] using cd),cx,(by simp[bm]),(fun d9 h9=>by rcases List.mem_append.1 h9 with h8|h8;exact hG d9 h8;rw[List.mem_singleton.1 h8];exact ge),(by rw[List.take_add_one,hz,Option.toList_some];exact J5 he bk),hD.put ak (fun y hy hm=>by have:=(b5 y hm).1;have:=hy.2.2.2;omega),Nat.le_trans am ak.size,(fun y hy=>⟨(a7 y hy).1,(a7 y hy).2.1⟩),(fun b hb hy=>by rcases ct b hb with h|h;exact (a7 b hy).2.2 h;rcases hy with hy|hy;have:=(hT b hy).2;omega;have:=hy.2;omega),rfl⟩
   ·have b9:i=x.args.length - 1:=qO
    rw[b9] at hO bm bk bn;rw[b9];have bs:trL cs.length cs x.args=some (d::ds):=by rw[←bk,List.take_of_length_le qO]
    have av:=Wg (cs:=cs) (c:=cs.length) bg bs;refine Ak (AR (AR (Ae (AB (AE (Y (qM _ rfl (qV (AH underlying185 rfl) (qM _ rfl (AA (AM (Am (fun nn_ σ W9=>∃(j:Nat) (D:Dfa) (pa qa:Option Addr) (pc qc:Nat),(∃jj_,σ=BQ jj_ [(3,(P6 bb 0)),(4,(P6 br 0)),(9,(P6 ba 0)),(97,(.slice la (x.args.length - 1) lc)),(98,(I6 ((x.args.length - 1:Nat):Int))),(99,(I6 (j:Int)))])∧Chg AZ w0 W9∧Az W9 bt #[(.slice ca cs.length cc)] 135∧Az W9 bb (R6 x sa sc (some ⟨ab,ao,none⟩) ac) 48∧Az W9 br #[(I6 0),(.slice none 0 0),(.slice none 0 0)] 52∧Az W9 ba (#[.int .i64 D.start,.slice pa D.accept.length pc,.slice qa D.next.length qc]) 52∧(j≤x.args.length - 1)∧(foldK cs.length x.kind d (ds.take j)=some D)∧(GoodD cs.length D)∧(By (fun b=>w0.heap.size≤b∧b≠ba∧b≠br) W9 D [.int .i64 D.start,.slice pa D.accept.length pc,.slice qa D.next.length qc])∧(Ec T W9 ds ag)∧(W9.ownsRow n1 52 3 (.slice la (x.args.length - 1) lc) (x.args.length - 1) ag.flatten)∧nn_=x.args.length - 1 - j) (n:=x.args.length - 1 - 0) ?_ ?_))))))))))))
    ·exact ⟨0,d,ea,na,ec,nc,Af.out ⟨rfl,rfl,rfl,rfl,rfl,rfl,trivial⟩,E,ad,Bb,Br,Ba,Nat.zero_le _,rfl,gd,(hD.mono fun b hb=>⟨hb.1,hb.2.1,hb.2.2.1⟩),hR,hO,rfl⟩
    ·clear E ad Bb Br Ba;rintro _ _ W9 ⟨j,D,pa,qa,pc,qc,⟨j9,rfl⟩,E,ad,Bb,Br,Ba,hj,hf,gD,ah,hR,hO,rfl⟩;refine Y (qV (Av rfl rfl) (AA (AE (qC rfl (fun b0=>?_) (fun b0=>?_)))))
     ·obtain ⟨e,he⟩:=AL (l:=ds) (i:=j) qO;obtain ⟨fa,fc,ga,gc,a2,ai⟩:=hR.2.2 j e he;unfold VS at a2 ai;obtain ⟨ob,oo,rfl,a1⟩:=BL.at (DY hO hR.2.1 (by rw[hR.1,bm]) qD) qO;refine AK (AB (AE (AM (Y (qV (AC (b:=ob) (o:=oo) (len:=x.args.length - 1) (cap:=lc) (i:=j) (o':=oo+j*3) rfl rfl rfl underlying185 Ap qO qO) (qV (AU rfl BC Ap rfl (a1 j _ a2)) (Au (v:=(.agg #[(I6 e.start),(.slice fa e.accept.length fc),(.slice ga e.next.length gc)])) (c:=#[(I6 e.start),(.slice fa e.accept.length fc),(.slice ga e.next.length gc)]) (n:=3) qD CU rfl Ap rfl rfl rfl qS ?_)))))));intro bv wv Nv;have Fv:=Nv.ge E;have Ov_bt:=Nv.lt ad;have Ov_bb:=Nv.lt Bb;have Ov_br:=Nv.lt Br;have Ov_ba:=Nv.lt Ba;replace ad:=Nv.keep ad;replace Bb:=Nv.keep Bb;replace Br:=Nv.keep Br;replace Ba:=Nv.keep Ba;replace hO:=Aj hO Nv.ext;replace hR:=hR.ext Nv.ext;replace ah:=ah.ext Nv.ext;replace ai:=ai.ext Nv.ext;replace E:=E.ext Nv.ext;have Bv:=Nv.blk;refine AA (Y (qF bb 0 0 rfl underlying48 rfl Ab rfl (qV (AD rfl Aa (Bb.cell rfl)) (AA (AM (Y (qV (As rfl rfl) (qA _ rfl (AA ?_)))))))));obtain ⟨n8,bp⟩:∃n8,n8=(wv).heap.size:=⟨_,rfl⟩;have cw:ba<n8∧br<n8∧w0.heap.size≤n8:=⟨by rw[bp];exact Ba.lt,by rw[bp];exact Br.lt,by rw[bp];exact E.size⟩;refine qC rfl (fun a5=>?_) (fun a5=>?_)
      ·obtain ⟨o9,aw⟩:∃o9,o9=catO cs.length D e:=⟨_,rfl⟩;refine AG (qV (AU (vs:=[(I6 D.start),(.slice pa D.accept.length pc),(.slice qa D.next.length qc)]) rfl BC Ap rfl (Ba.cells rfl)) (qV (AU (vs:=[(I6 e.start),(.slice fa e.accept.length fc),(.slice ga e.next.length gc)]) rfl BC Ap rfl (Bv.cells rfl)) (qE rfl (AT func165 kQ kQ rfl) ((Pa _ cs.length D e _ _ gD (hG e (List.mem_of_getElem? he)) ah.at' ai.at' hc).mono (R':=fun r w'=>RW cs.length (fun b=>w0.heap.size≤b∧b≠ba∧b≠br) o9 r w'∧Ao _ w') (fun r w' h=>⟨by rw[aw];exact h.1.mono fun b hb=>⟨by have:=hb.1;omega,by have:=hb.1;omega,by have:=hb.1;omega⟩,h.2⟩)) ?_)));rintro _ co ⟨⟨s9,ar,aq,au,ax,rfl,b4⟩,af⟩;replace ad:=af.keep ad;replace Bb:=af.keep Bb;replace Br:=af.keep Br;replace Ba:=af.keep Ba;replace Bv:=af.keep Bv;replace hO:=Aj hO af;replace hR:=hR.ext af;replace ah:=ah.ext af;replace ai:=ai.ext af;replace E:=E.ext af;refine qV (Ai rfl rfl) (qV (Ai rfl rfl) (Ch rfl rfl qD (AT func164 kQ kQ rfl) (JC _ o9.isSome s9.start ar aq s9.accept.length au s9.next.length ax) (fun w' h=>And.intro rfl ⟨by rw[av];exact Kp he hf ((VP a5).trans (aw.symm.trans (Option.not_isSome_iff_eq_none.1 (by rw[h.1];decide)))),E.ext h.2⟩) ?_));rintro _ bd ⟨⟨bo,rfl⟩,ae⟩;replace ad:=ae.keep ad;replace Bb:=ae.keep Bb;replace Br:=ae.keep Br;replace Ba:=ae.keep Ba;replace Bv:=ae.keep Bv;replace hO:=Aj hO ae;replace hR:=hR.ext ae;replace ah:=ah.ext ae;replace ai:=ai.ext ae;replace E:=E.ext ae;obtain ⟨D9,ap⟩:=Option.isSome_iff_exists.1 bo;obtain ⟨bq,b2,b3⟩:=b4 D9 ap;rw[bq] at ap;have ay:=b3.ext ae;refine Al (b:=ba) (o:=0) (c':=#[(I6 s9.start),(.slice ar s9.accept.length au),(.slice aq s9.next.length ax)]) rfl rfl qS Ap rfl Ba qL rfl ?_;intro w12 an;replace hO:=Ax hO an.chg (fun y hy h=>by have h':y=ba:=h;have:=(hO.lt y hy).1;omega);replace hR:=hR.chg an.chg (fun y hy h=>by have h':y=ba:=h;have:=hT y hy;omega);replace ay:=ay.put an.chg (fun y hy h=>hy.2.1 h);replace ad:=an.keep qO ad;replace Bb:=an.keep qO Bb;replace Br:=an.keep qO Br;replace Bv:=an.keep qO Bv;replace E:=an.step E qQ;replace Ba:=an.blk;refine AA (AP (AP (AB (AG (qV (Aq rfl rfl (A2 qO)) (qM _ rfl (AA (AB ?_))))))));exact ⟨x.args.length - 1 - (j+1),qO,j+1,s9,ar,aq,au,ax,Af.out ⟨rfl,rfl,rfl,rfl,rfl,rfl,trivial⟩,E,ad,Bb,Br,Ba,qO,(by rw[IG he hf];exact (VP a5).trans (aw.symm.trans ap)),b2,ay,hR,hO,rfl⟩
      ·obtain ⟨o9,aw⟩:∃o9,o9=prsO cs.length (decide (x.kind=7)) D e:=⟨_,rfl⟩;refine AG (qV (AU (vs:=[(I6 D.start),(.slice pa D.accept.length pc),(.slice qa D.next.length qc)]) rfl BC Ap rfl (Ba.cells rfl)) (qV (AU (vs:=[(I6 e.start),(.slice fa e.accept.length fc),(.slice ga e.next.length gc)]) rfl BC Ap rfl (Bv.cells rfl)) (qF bb 0 0 rfl underlying48 rfl Ab rfl (qV (AD rfl Aa (Bb.cell rfl)) (qV (As rfl rfl) (qE rfl (AT func166 kQ kQ rfl) ((Vp _ cs.length D e _ _ (decide (x.kind=7)) gD (hG e (List.mem_of_getElem? he)) ah.at' ai.at' hc).mono (R':=fun r w'=>RW cs.length (fun b=>w0.heap.size≤b∧b≠ba∧b≠br) o9 r w'∧Ao _ w') (fun r w' h=>⟨by rw[aw];exact h.1.mono fun b hb=>⟨by have:=hb.1;omega,by have:=hb.1;omega,by have:=hb.1;omega⟩,h.2⟩)) ?_))))));rintro _ co ⟨⟨s9,ar,aq,au,ax,rfl,b4⟩,af⟩;replace ad:=af.keep ad;replace Bb:=af.keep Bb;replace Br:=af.keep Br;replace Ba:=af.keep Ba;replace Bv:=af.keep Bv;replace hO:=Aj hO af;replace hR:=hR.ext af;replace ah:=ah.ext af;replace ai:=ai.ext af;replace E:=E.ext af;refine qV (Ai rfl rfl) (qV (Ai rfl rfl) (Ch rfl rfl qD (AT func164 kQ kQ rfl) (JC _ o9.isSome s9.start ar aq s9.accept.length au s9.next.length ax) (fun w' h=>And.intro rfl ⟨by rw[av];exact Kp he hf ((VO a5).trans (aw.symm.trans (Option.not_isSome_iff_eq_none.1 (by rw[h.1];decide)))),E.ext h.2⟩) ?_));rintro _ bd ⟨⟨bo,rfl⟩,ae⟩;replace ad:=ae.keep ad;replace Bb:=ae.keep Bb;replace Br:=ae.keep Br;replace Ba:=ae.keep Ba;replace Bv:=ae.keep Bv;replace hO:=Aj hO ae;replace hR:=hR.ext ae;replace ah:=ah.ext ae;replace ai:=ai.ext ae;replace E:=E.ext ae;obtain ⟨D9,ap⟩:=Option.isSome_iff_exists.1 bo;obtain ⟨bq,b2,b3⟩:=b4 D9 ap;rw[bq] at ap;have ay:=b3.ext ae;refine Al (b:=ba) (o:=0) (c':=#[(I6 s9.start),(.slice ar s9.accept.length au),(.slice aq s9.next.length ax)]) rfl rfl qS Ap rfl Ba qL rfl ?_;intro w13 al;replace hO:=Ax hO al.chg (fun y hy h=>by have h':y=ba:=h;have:=(hO.lt y hy).1;omega);replace hR:=hR.chg al.chg (fun y hy h=>by have h':y=ba:=h;have:=hT y hy;omega);replace ay:=ay.put al.chg (fun y hy h=>hy.2.1 h);replace ad:=al.keep qO ad;replace Bb:=al.keep qO Bb;replace Br:=al.keep qO Br;replace Bv:=al.keep qO Bv;replace E:=al.step E qQ;replace Ba:=al.blk;refine AA (AP (AP (AB (AG (qV (Aq rfl rfl (A2 qO)) (qM _ rfl (AA (AB ?_))))))));exact ⟨x.args.length - 1 - (j+1),qO,j+1,s9,ar,aq,au,ax,Af.out ⟨rfl,rfl,rfl,rfl,rfl,rfl,trivial⟩,E,ad,Bb,Br,Ba,qO,(by rw[IG he hf];exact (VO a5).trans (aw.symm.trans ap)),b2,ay,hR,hO,rfl⟩
     ·have cn:j=ds.length:=qO
      rw[cn,List.take_length] at hf;refine Ak (AR (AR (Ae (AB (Y (qV (AU (vs:=[(I6 D.start),(.slice pa D.accept.length pc),(.slice qa D.next.length qc)]) rfl BC Ap rfl (Ba.cells rfl)) (Al (b:=br) (o:=0) (c':=#[(I6 D.start),(.slice pa D.accept.length pc),(.slice qa D.next.length qc)]) rfl rfl qS Ap rfl Br qL rfl ?_)))))));intro w14 a0;replace ah:=ah.put a0.chg (fun y hy h=>hy.2.2 h);replace ad:=a0.keep qO ad;replace Bb:=a0.keep qO Bb;replace Ba:=a0.keep qO Ba;replace E:=a0.step E qQ;replace Br:=a0.blk;refine AA (AS (Ag (AO (D7 (Cp results133 (vs:=[(.int .i64 D.start),(.slice pa D.accept.length pc),(.slice qa D.next.length qc)]) (b:=br) rfl BC Ap rfl (Br.cells rfl) ?_)))));exact ⟨⟨D,av.trans hf,gD,_,_,_,_,rfl,(By.chg ah (Chg.refl AZ _) fun _ _ _ f=>f).mono fun b hb=>⟨hb.1.1,hb.2⟩⟩,E⟩
end Go.Proofs
